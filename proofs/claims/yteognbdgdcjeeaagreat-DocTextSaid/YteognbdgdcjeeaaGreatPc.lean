/-
  Texts joined: TrI TrJ TrK TrM TwA TwB TwC TvA TvB SbF SwG DtA TwD SwV TwE.
-/
import Derived.Test.YteognbdgdcjeeaaGreatEf
import Derived.Test.YteognbdgdcjeeaaGreatTb
import Derived.KernelRfl
import Derived.Test.YteognbdgdcjeeaaGreatPb
set_option linter.unusedSimpArgs false
set_option linter.unusedVariables false
set_option maxRecDepth 100000
namespace Go.Proofs.YteognbdgdcjeeaaGreat
open Go Go.Ax
variable {fuel : Nat} {M : Mem} {Q : AV → Mem → Prop} {d : Nat}
theorem zP9 {o : Rn} {ra : AV} (hR : Sl 1 zB1 ra o.rs) (hf : 100 < fuel) (M : Mem) : zAE Tryz.prog (fsT tbl) fuel (d + 7) (.fn 46) [.agg (rnR o ra)] M = some (BL (!o.may),M):=by
 have ora:=hR.one
 have hck:=fun M=>@zBY fuel d o ra hR hf M
 apply zBN
 refine zAJ tf46 rfl (by simp only [icyL,zCB hR.fz]) (by simp [a46]) fun b' ht hx=>?_
 have h0:=hx 0 _ rfl
 clear hx
 simp only [a46,c46] at ht ⊢
 cases hm : o.may <;> rw [hm] at hck <;> simp (maxSteps:=2000000) (disch:=first | omega | assumption | (simp only [DS,Nat.reduceAdd, *]; done) | (simp only [DZ]; omega)) only [RUN,RU,zA2,zA1,zA0,zAB,frzL,slot,reduceIte,Nat.reduceEqDiff,Int.reduceEq,h0,hck,zAX,zBF]
open Classical in
noncomputable def zD6 (l : List Rn) : Bool:=decide (zCJ l)
open Classical in
theorem zT9 {l : List Rn} (h : zCJ l) : zD6 l = true:=by unfold zD6; exact decide_eq_true h
open Classical in
theorem zKG {l : List Rn} (h : ¬zCJ l) : zD6 l = false:=by unfold zD6; exact decide_eq_false h
open Classical in
theorem zFV {l : List Rn} : zD6 l = true ↔ zCJ l:=by unfold zD6; exact ⟨of_decide_eq_true,fun h=>decide_eq_true h⟩
theorem zED {l : List Rn} (h : ∀ r ∈ l,r.may = true) : ∀ r ∈ l,r.rs.length ≤ 64:=fun r hr=>((Rn.may_iff.1 (h r hr)).2.2.2.1)
set_option maxHeartbeats 4000000 in
theorem zKR {a : AV} {l : List Rn} (hS : Sl 10 isRn a l) (hl : l.length ≤ 1000) (hf : 64 * l.length + 3001000 < fuel) (M : Mem) : zAE Tryz.prog (fsT tbl) fuel (d + 10) (.fn 22) [a] M = some (I64 (err (zD6 l)),M):=by
 have oa:=hS.one
 have hh:=fun M=>zRN (P:=Tryz.prog) (fs:=fsT tbl) (fuel:=fuel) (l:=l) (ag:=true) (n:=d + 7) tf24 tf48 (fun h=>by cases h) zCE hS (by omega) (by omega) (zRF 46) (p:=fun x => !x.may) (fun r x hr _ M=>by
  obtain ⟨ra,rfl,hra,_⟩:=hr
  exact @zP9 fuel d x ra hra (by omega) M) M
 rw [zM6] at hh
 apply zBN
 refine zAJ tf22 rfl (by simp only [icyL,fun M=>hS.icy M 12 (by omega)]) (by simp [a22]) fun b' ht hx=>?_
 have h0:=hx 0 _ rfl
 clear hx
 simp only [a22,c22] at ht ⊢
 cases hb : l.all Rn.may with
 | false =>
  rw [hb] at hh
  have hno : zD6 l = false:=zKG fun k=>by
   rw [List.all_eq_true.2 k.1] at hb; cases hb
  rw [hno]
  simp (maxSteps:=2000000) (disch:=first | omega | assumption | (simp only [DS,Nat.reduceAdd, *]; done) | (simp only [DZ]; omega)) only [RUN,RU,zA2,zA1,zA0,zAB,frzL,reduceIte,Nat.reduceEqDiff,h0,hh,zBF]
 | true =>
  rw [hb] at hh
  have hm : ∀ r ∈ l,r.may = true:=List.all_eq_true.1 hb
  have hrs:=zED hm
  have hct:=fun M=>@zHG fuel (d + 8) a l hS hm (by omega) (by omega) M
  have hord:=fun M=>@zN3 fuel d a l hS hl hm (by omega) M
  obtain ⟨r,hr,hlong⟩:=zEP (fuel:=fuel) (d:=d) hS (by omega) (fun r hr=>by have:=hrs r hr; omega) (by omega)
  have hmL:=(zC4 hm).2
  have hrsL:=zED hmL
  have hlenL : (zBM l).length ≤ 64000:=by
   have e1:=zDH hmL
   have e2:=zE8 hm
   have e3:=zDH hm
   rw [(zC4 hm).1,(zDG _).1] at e1
   have : (zBM l).length ≤ (zB0 (zBM l)):=by
    rw [(zC4 hm).1]
    have hh:=(zDG (elsR l)).2
    generalize zCO (elsR l) = C at *
    clear e1
    induction C with
    | nil=>simp [zB0]
    | cons q C ih =>
     have:=ih (fun q hq=>hh q (List.mem_cons_of_mem _ hq))
     have:=(hh q List.mem_cons_self).1
     simp only [zB0,List.length_cons]
     omega
   rw [(zC4 hm).1] at this ⊢
   omega
  have hsame:=fun M=>@zFW fuel (d + 5) r a (zBM l) l hr hS (by omega) (fun e he=>⟨by have:=hrsL e he; omega,by have:=hrsL e he; omega⟩) (by omega) M
  have or:=hr.one
  by_cases h1 : zB0 l ≤ 8192
  ·have q1 : decide (8192 < zB0 l) = false:=decide_eq_false (by omega)
   by_cases h2 : Ord (elsL l)
   ·have ho:=@decide_eq_true _ (Classical.propDecidable (Ord (elsL l))) h2
    rw [ho] at hord
    by_cases h3 : zBM l = l
    ·have hyes : zD6 l = true:=zT9 ⟨hm,h1,h2,h3⟩
     have hs : zKA (zBM l) l = true:=zEG.2 h3
     rw [hs] at hsame
     rw [hyes]
     simp (maxSteps:=2000000) (disch:=first | omega | assumption | (simp only [DS,Nat.reduceAdd, *]; done) | (simp only [DZ]; omega)) only [RUN,RU,zA2,zA1,zA0,zAB,frzL,reduceIte,Nat.reduceEqDiff,h0,hh,hct,q1,hord,hlong,hsame,zAX]
    ·have hno : zD6 l = false:=zKG fun k=>h3 k.2.2.2
     have hs : zKA (zBM l) l = false:=by
      cases hq : zKA (zBM l) l with
      | false=>rfl
      | true=>exact absurd (zEG.1 hq) h3
     rw [hs] at hsame
     rw [hno]
     simp (maxSteps:=2000000) (disch:=first | omega | assumption | (simp only [DS,Nat.reduceAdd, *]; done) | (simp only [DZ]; omega)) only [RUN,RU,zA2,zA1,zA0,zAB,frzL,reduceIte,Nat.reduceEqDiff,h0,hh,hct,q1,hord,hlong,hsame,zBF]
   ·have ho:=@decide_eq_false _ (Classical.propDecidable (Ord (elsL l))) h2
    rw [ho] at hord
    have hno : zD6 l = false:=zKG fun k=>h2 k.2.2.1
    rw [hno]
    simp (maxSteps:=2000000) (disch:=first | omega | assumption | (simp only [DS,Nat.reduceAdd, *]; done) | (simp only [DZ]; omega)) only [RUN,RU,zA2,zA1,zA0,zAB,frzL,reduceIte,Nat.reduceEqDiff,h0,hh,hct,q1,hord,zBF]
  ·have q1 : decide (8192 < zB0 l) = true:=decide_eq_true (by omega)
   have hno : zD6 l = false:=zKG fun k=>h1 k.2.1
   rw [hno]
   simp (maxSteps:=2000000) (disch:=first | omega | assumption | (simp only [DS,Nat.reduceAdd, *]; done) | (simp only [DZ]; omega)) only [RUN,RU,zA2,zA1,zA0,zAB,frzL,reduceIte,Nat.reduceEqDiff,h0,hh,hct,q1,zBF]
end Go.Proofs.YteognbdgdcjeeaaGreat
namespace Go.Proofs.YteognbdgdcjeeaaGreat
open Go Go.Ax
variable {fuel : Nat} {M : Mem} {Q : AV → Mem → Prop} {d : Nat}
abbrev zRn : Value:=.agg #[.int .u8 0,.int .u32 0,.int .u8 0,.int .i64 0,.int .i64 0,.int .u8 0,.int .u32 0,.int .u8 0,.int .i64 0,.slice none 0 0]
theorem zb8 {n : Nat} (wf : Wf M) (hn : 0 < n) (hb : n ≤ 1000000) (k : Q (.sl M.size 0 0 none 10) (M.add (.row false (zA6 zRn n)))) :
  W3 (zAE Tryz.prog (fsT tbl) fuel (d + 1) (.fn 92) [NIL,I64 n] M) Q:=by
 have hz:=zU2 (X:=M) (st:=10) (bytes:=80) (z:=zRn) wf rfl rfl hn (by omega) (by omega) (by omega)
 have e0 : decide ((n : Int) < 0) = false:=decide_eq_false (by omega)
 have e1 : decide ((0 : Int) < n) = true:=decide_eq_true (by omega)
 have w0 : IntKind.i64.wrap 0 = 0:=by decide
 have w1 : IntKind.i64.wrap ((n : Int) - 0) = n:=by rw [wrap_i64] <;> omega
 refine zB3 tf92 rfl (by simp [a92]) fun b' ht hx=>?_
 have h0:=hx 0 _ rfl
 have h1:=hx 1 _ rfl
 clear hx
 simp only [a92,c92] at ht ⊢
 have hs:=zZZ (M:=M.add (.row false (zA6 zRn n))) (st:=10) (n:=n) (zAH wf (.row false (zA6 zRn n)) M.size (Nat.le_refl _) (Nat.lt_succ_self _))
 simp (maxSteps:=2000000) (disch:=first | omega | assumption | (simp only [DS,Nat.reduceAdd, *]; done) | (simp only [DZ]; omega)) only [RUN,RU,zA2,zA1,zA0,zAB,reduceIte,Nat.reduceEqDiff,Int.reduceSub,h0,h1,e0,e1,w0,w1,zd4,x_cap,zY7,zWJ,hz,hs]
 exact k
set_option maxHeartbeats 8000000 in
/-- One list of three. -/
theorem zQV {id : Nat} {a0 a1 a2 : AV} {l0 l1 l2 : List Rn} (wf : Wf M) (hg : M.get id = some (.row false [a0,a1,a2])) (h0' : Sl 10 isRn a0 l0) (h1' : SlM M 10 isRn a1 l1) (h2' : Sl 10 isRn a2 l2) (hn : 0 < l1.length) (hb0 : l0.length ≤ 10000) (hb1 : l1.length ≤ 10000) (hb2 : l2.length ≤ 10000) (hf : 100 < fuel) (hw : M.wm ≤ M.size)
  (k : ∀ o N,SlM N 10 isRn o (l0 ++ l1 ++ l2) → Kept M N → (∀ j,rowOf o = some j → M.size ≤ j) → oneA o = true → cellsA o = [o] → ((rowsOf o).all fun i=>Nat.blt i N.size) = true → Q o N) :
  W3 (zAE Tryz.prog (fsT tbl) fuel (d + 2) (.fn 65) [.sl id 0 3 (some 3) 1] M) Q:=by
 have x0:=h0'.len
 have x1:=h1'.len
 have x2:=h2'.len
 have o0:=h0'.one
 have o1:=h1'.one
 have o2:=h2'.one
 have li:=Mem.get_lt hg
 have c3 : ((3 : Nat) : Int) = 3:=rfl
 have t0 : zD0 (I64 0) = some 0:=rfl
 have t1 : zD0 (I64 1) = some 1:=rfl
 have t2 : zD0 (I64 2) = some 2:=rfl
 have q03 : decide ((0 : Int) < 3) = true:=rfl
 have q13 : decide ((1 : Int) < 3) = true:=rfl
 have q23 : decide ((2 : Int) < 3) = true:=rfl
 have q33 : decide ((3 : Int) < 3) = false:=rfl
 have v1 : IntKind.i64.wrap 1 = 1:=by decide
 have v2 : IntKind.i64.wrap 2 = 2:=by decide
 have v3 : IntKind.i64.wrap 3 = 3:=by decide
 have w0 : IntKind.i64.wrap (0 + (l0.length : Int)) = (l0.length : Nat):=by rw [wrap_i64] <;> omega
 have w1 : IntKind.i64.wrap ((l0.length : Int) + (l1.length : Int)) = ((l0.length + l1.length : Nat) : Int):=by rw [wrap_i64] <;> omega
 have w2 : IntKind.i64.wrap (((l0.length + l1.length : Nat) : Int) + (l2.length : Int)) = ((l0.length + l1.length + l2.length : Nat) : Int):=by rw [wrap_i64] <;> omega
 have n0 : decide (((l0.length : Nat) : Int) < 0) = false:=decide_eq_false (by omega)
 have n1 : decide (((l0.length + l1.length : Nat) : Int) < 0) = false:=decide_eq_false (by omega)
 have n2 : decide (((l0.length + l1.length + l2.length : Nat) : Int) < 0) = false:=decide_eq_false (by omega)
 refine zB3 tf65 rfl (by simp [a65]) fun b' ht hx=>?_
 have h0:=hx 0 _ rfl
 clear hx
 simp only [a65,c65] at ht ⊢
 simp (maxSteps:=2000000) (disch:=first | omega | assumption | (simp only [DS,Nat.reduceAdd, *]; done) | (simp only [DZ]; omega)) only [RUN,RU,zA2,zA1,reduceIte,Nat.reduceEqDiff,h0]
 refine w_un (by omega) ?_
 simp (maxSteps:=2000000) (disch:=first | omega | assumption | (simp only [DS,Nat.reduceAdd, *]; done) | (simp only [DZ]; omega)) only [RUN,RU,zA2,zA1,reduceIte,Nat.reduceEqDiff,Nat.reduceMul,Int.reduceLT,Int.reduceAdd,hg,c3,t0,x0,w0,n0,v1,zDM]
 refine w_un (by omega) ?_
 simp (maxSteps:=2000000) (disch:=first | omega | assumption | (simp only [DS,Nat.reduceAdd, *]; done) | (simp only [DZ]; omega)) only [RUN,RU,zA2,zA1,reduceIte,Nat.reduceEqDiff,Nat.reduceMul,Int.reduceLT,Int.reduceAdd,hg,t1,x1,w1,n1,v2,zDM]
 refine w_un (by omega) ?_
 simp (maxSteps:=2000000) (disch:=first | omega | assumption | (simp only [DS,Nat.reduceAdd, *]; done) | (simp only [DZ]; omega)) only [RUN,RU,zA2,zA1,reduceIte,Nat.reduceEqDiff,Nat.reduceMul,Int.reduceLT,Int.reduceAdd,hg,t2,x2,w2,n2,v3,zDM]
 refine w_un (by omega) ?_
 simp (maxSteps:=2000000) (disch:=first | omega | assumption | (simp only [DS,Nat.reduceAdd, *]; done) | (simp only [DZ]; omega)) only [RUN,RU,zA2,zA1,reduceIte,Nat.reduceEqDiff,zS5]
 refine zb8 (d:=d) (n:=l0.length + l1.length + l2.length) wf (by omega) (by omega) ?_
 have sq0:=SlQ.fresh (X:=M) (st:=10) (T:=isRn) (n:=l0.length + l1.length + l2.length) (z:=zRn) wf rfl
 have wX:=wf.add (.row false (zA6 zRn (l0.length + l1.length + l2.length)))
 have kX : ∀ j,j < M.size → (M.add (.row false (zA6 zRn (l0.length + l1.length + l2.length)))).get j = M.get j:=fun j hj=>zAG wf _ _ hj
 have sX : (M.add (.row false (zA6 zRn (l0.length + l1.length + l2.length)))).size = M.size + 1:=rfl
 have dX : (M.add (.row false (zA6 zRn (l0.length + l1.length + l2.length)))).dirty = M.dirty:=rfl
 have vX : (M.add (.row false (zA6 zRn (l0.length + l1.length + l2.length)))).wm = M.wm:=rfl
 generalize (M.add (.row false (zA6 zRn (l0.length + l1.length + l2.length)))) = X at *
 have gX:=(kX id li).trans hg
 simp (maxSteps:=2000000) (disch:=first | omega | assumption | (simp only [DS,Nat.reduceAdd, *]; done) | (simp only [DZ]; omega)) only [RUN,RU,zA2,zA1,reduceIte,Nat.reduceEqDiff,h0,c3]
 refine w_un (by omega) ?_
 simp (maxSteps:=2000000) (disch:=first | omega | assumption | (simp only [DS,Nat.reduceAdd, *]; done) | (simp only [DZ]; omega)) only [RUN,RU,zA2,zA1,reduceIte,Nat.reduceEqDiff,Nat.reduceMul,Int.reduceLT,gX,t0,h0'.fz.rows]
 obtain ⟨r0,y0,z0,A0,R0⟩:=h0'.cells2 X
 refine SlQ.app (bytes:=80) wX sq0 y0 z0 A0 R0 zCE.cel (by omega) (by simp; omega) (by simp; omega) fun o' Y sq1 wY sY kY rY wmY diY=>?_
 have on1:=sq1.one
 have oc1:=sq1.cells
 have rl1:=sq1.rl (Nat.le_refl _)
 have ro1 : ∀ j,rowOf o' = some j → j = M.size:=fun j hj=>by rw [rY] at hj; cases hj; rfl
 have gY : Y.get id = some (.row false [a0,a1,a2]):=(kY id (fun e=>by cases e; omega)).trans gX
 have mY : ∀ j,j < M.size → Y.get j = M.get j:=fun j hj=>(kY j (fun e=>by cases e; omega)).trans (kX j hj)
 simp (maxSteps:=2000000) (disch:=first | omega | assumption | (simp only [DS,Nat.reduceAdd, *]; done) | (simp only [DZ]; omega)) only [RUN,RU,zA2,zA1,reduceIte,Nat.reduceEqDiff,Int.reduceAdd,v1,zDM]
 refine w_un (by omega) ?_
 have sm1 : SlM Y 10 isRn a1 l1:=h1'.keep fun j hj=>mY j (h1'.lt j hj)
 have rla:=zAV sm1.rl (Nat.le_refl _)
 simp (maxSteps:=2000000) (disch:=first | omega | assumption | (simp only [DS,Nat.reduceAdd, *]; done) | (simp only [DZ]; omega)) only [RUN,RU,zA2,zA1,reduceIte,Nat.reduceEqDiff,Nat.reduceMul,Int.reduceLT,gY,t1,rl1,rla]
 obtain ⟨r1,y1,z1,A1,R1⟩:=sm1.cells2
 refine SlQ.app (bytes:=80) wY sq1 y1 z1 A1 R1 zCE.cel (by omega) (by simp; omega) (by simp; omega) fun o2' Z sq2 wZ sZ kZ rZ wmZ diZ=>?_
 have on2:=sq2.one
 have oc2:=sq2.cells
 have rl2:=sq2.rl (Nat.le_refl _)
 have ro2 : ∀ j,rowOf o2' = some j → j = M.size:=fun j hj=>ro1 j (rZ ▸ hj)
 have gZ : Z.get id = some (.row false [a0,a1,a2]):=(kZ id (fun e=>by have:=ro1 _ e; omega)).trans gY
 have mZ : ∀ j,j < M.size → Z.get j = M.get j:=fun j hj=>(kZ j (fun e=>by have:=ro1 _ e; omega)).trans (mY j hj)
 simp (maxSteps:=2000000) (disch:=first | omega | assumption | (simp only [DS,Nat.reduceAdd, *]; done) | (simp only [DZ]; omega)) only [RUN,RU,zA2,zA1,reduceIte,Nat.reduceEqDiff,Int.reduceAdd,v2,zDM]
 refine w_un (by omega) ?_
 simp (maxSteps:=2000000) (disch:=first | omega | assumption | (simp only [DS,Nat.reduceAdd, *]; done) | (simp only [DZ]; omega)) only [RUN,RU,zA2,zA1,reduceIte,Nat.reduceEqDiff,Nat.reduceMul,Int.reduceLT,gZ,t2,rl2,h2'.fz.rows]
 obtain ⟨r2,y2,z2,A2,R2⟩:=h2'.cells2 Z
 refine SlQ.app (bytes:=80) wZ sq2 y2 z2 A2 R2 zCE.cel (by omega) (by simp; omega) (by simp; omega) fun o3' U sq3 wU sU kU rU wmU diU=>?_
 have on3:=sq3.one
 have oc3:=sq3.cells
 have rl3:=sq3.rl (Nat.le_refl _)
 have ro3 : ∀ j,rowOf o3' = some j → j = M.size:=fun j hj=>ro2 j (rU ▸ hj)
 have mU : ∀ j,j < M.size → U.get j = M.get j:=fun j hj=>(kU j (fun e=>by have:=ro2 _ e; omega)).trans (mZ j hj)
 simp (maxSteps:=2000000) (disch:=first | omega | assumption | (simp only [DS,Nat.reduceAdd, *]; done) | (simp only [DZ]; omega)) only [RUN,RU,zA2,zA1,reduceIte,Nat.reduceEqDiff,Int.reduceAdd,v3,zDM]
 refine w_un (by omega) ?_
 simp (maxSteps:=2000000) (disch:=first | omega | assumption | (simp only [DS,Nat.reduceAdd, *]; done) | (simp only [DZ]; omega)) only [RUN,RU,zA2,zA1,zA0,zAB,reduceIte,Nat.reduceEqDiff,zS5]
 have e0 : l0.length + l1.length + l2.length - l0.length - l1.length - l2.length = 0:=by omega
 rw [e0] at sq3
 have d1:=diY (fun j hj=>by cases hj; omega)
 have d2:=diZ (fun j hj=>by have:=ro1 j hj; omega)
 have d3:=diU (fun j hj=>by have:=ro2 j hj; omega)
 exact k o3' U (by have:=sq3.slm; simpa using this) ⟨wU,by omega,mU,by omega,d3.trans (d2.trans (d1.trans dX))⟩ (fun j hj=>by have:=ro3 j hj; omega) on3 oc3 rl3
end Go.Proofs.YteognbdgdcjeeaaGreat
namespace Go.Proofs.YteognbdgdcjeeaaGreat
open Go Go.Ax
variable {fuel : Nat} {M : Mem} {Q : AV → Mem → Prop} {d : Nat}
set_option maxHeartbeats 16000000 in
theorem zLN {a : AV} {l : List Rn} {x : Eid} (hS : Sl 10 isRn a l) (hm : ∀ r ∈ l,r.may = true) (hx : x = Eid.z ∨ zB8 l x ≠ none) (hl : l.length ≤ 9000) (hf : l.length + 100 < fuel) :
  ∃ r,Sl 10 isRn r (zB2 l x).1 ∧ ∀ M,zAE Tryz.prog (fsT tbl) fuel (d + 8) (.fn 41) [a,idA x] M = some (.tup [r,I64 (zB2 l x).2],M):=by
 have oa:=hS.one
 have la:=hS.len
 have hw:=fun M=>@zM2 fuel (d + 1) a l x hS (by omega) (by omega) M
 refine zG4 tf41 rfl (fun M=>by simp only [icyL,fun M=>hS.icy M 12 (by omega),zBE (zE0 x) (show 1 < 12 by omega)]) ?_
 refine zAJ tf41 rfl (by simp only [icyL,fun M=>hS.icy M 12 (by omega),zBE (zE0 x) (show 1 < 12 by omega)]) (by simp [a41]) fun b' ht hx=>?_
 have h0:=hx 0 _ rfl
 have h1:=hx 1 _ rfl
 clear hx
 simp only [a41,c41] at ht ⊢
 by_cases hz : x = Eid.z
 ·have q : decide (x = Eid.z) = true:=decide_eq_true hz
  have hpl : zB2 l x = (l,0):=by unfold zB2; rw [if_pos hz]
  rw [hpl]
  simp (maxSteps:=2000000) (disch:=first | omega | assumption | (simp only [DS,Nat.reduceAdd, *]; done) | (simp only [DZ]; omega)) only [RUN,RU,zA2,zA1,zA0,zAB,frzL,slot,zAI,reduceIte,Nat.reduceEqDiff,h0,h1,hS.fz.frz,↓pIdE,zAU,ETA,q]
  exact ⟨_,hS,rfl⟩
 ·have q : decide (x = Eid.z) = false:=decide_eq_false hz
  rcases hx with hx | hx
  ·exact absurd hx hz
  cases hwl : zB8 l x with
  | none=>exact absurd hwl hx
  | some p =>
   obtain ⟨n,k⟩:=p
   obtain ⟨L1,o,L2,hle,hln,h1',h2',h3',h4'⟩:=zGI hwl
   rw [hwl] at hw
   simp only [wN,wK] at hw
   have hnl : n < l.length:=by rw [hle,List.length_append,List.length_cons]; omega
   obtain ⟨r,hiad,hr,hrl⟩:=hS.iad n hnl
   have hgo : l.getD n Rn.z = l[n]:=by rw [List.getD_eq_getElem?_getD,List.getElem?_eq_getElem hnl]; rfl
   have hpl : zB2 l x = if (l.getD n Rn.z).cutE (k + 1) = 0 then (l.take n ++ [(l.getD n Rn.z).fst (k + 1),(l.getD n Rn.z).snd (k + 1)] ++ l.drop (n + 1),n + 1) else (l,n + 1):=by unfold zB2; rw [if_neg hz]; simp only [hwl]
   rw [hpl,hgo]
   clear hpl
   have hom:=hm l[n] (List.getElem_mem hnl)
   have hro:=zZR hS l[n] (List.getElem_mem hnl)
   have hon : o = l[n]:=by simp [hle,← hln]
   have hln':=hon ▸ h3'
   generalize l[n] = e at *
   obtain ⟨ra,rfl,hra,_⟩:=hr
   have ora:=hra.one
   have hb:=Spn.may_le (Rn.may_sp hom)
   have w1 : IntKind.i64.wrap (k + 1) = k + 1:=by rw [wrap_i64] <;> omega
   have w2 : IntKind.i64.wrap ((n : Int) + 1) = ((n + 1 : Nat) : Int):=by rw [wrap_i64] <;> omega
   obtain ⟨v,⟨ca,cb,rfl,hca,hcb⟩,hcut⟩:=zGE (fuel:=fuel) (d:=d) (n:=k + 1) hra (by omega)
   have oca:=hca.one
   have ocb:=hcb.one
   by_cases hc : e.cutE (k + 1) = 0
   ·have q2 : decide (e.cutE (k + 1) = 0) = true:=decide_eq_true hc
    rw [if_pos hc]
    obtain ⟨r1,s1,b1⟩:=zZY hS (j:=n) (by omega)
    obtain ⟨r2,s2,b2⟩:=zT2 hS (i:=n + 1) (by omega)
    have ob1:=b1.one
    have ob2:=b2.one
    have eA : e.cutA (k + 1) = e.fst (k + 1):=by unfold Rn.cutA; rw [if_pos hc]
    have eB : e.cutB (k + 1) = e.snd (k + 1):=by unfold Rn.cutB; rw [if_pos hc]
    have okA:=zX5 hro hc
    have okB:=zXU hro hc
    rw [eA] at hca hcut
    rw [eB] at hcb hcut
    generalize e.fst (k + 1) = eF at *
    generalize e.snd (k + 1) = eS at *
    have oca:=hca.one
    have ocb:=hcb.one
    simp (maxSteps:=2000000) (disch:=first | omega | assumption | (simp only [DS,Nat.reduceAdd, *]; done) | (simp only [DZ]; omega)) only [RUN,RU,zA2,zA1,slot,lay,zAI,zA6,reduceIte,Nat.reduceEqDiff,Nat.reduceBEq,Nat.reduceAdd,h0,h1,hS.fz.rows,↓pIdE,zAU,ETA,q,hw,hiad,w1,w2,hcut,q2,s1,s2,b1.fz.cells,b2.fz.cells,zC8]
    refine zQV (d:=d + 5) (id:=4) (a0:=r1) (a1:=.sl 3 0 2 (some 2) 10) (a2:=r2) (l1:=[eF,eS]) (by simp (maxSteps:=2000000) (disch:=first | omega | assumption | (simp only [DS,Nat.reduceAdd, *]; done) | (simp only [DZ]; omega)) only [RUN]) ?_ b1 (zT4 (zO7 hca hcb okA okB) (by simp) rfl (.inr rfl) ?_) b2 (by simp) (by rw [List.length_take]; omega) (by simp) (by rw [List.length_drop]; omega) (by omega) (Nat.le_refl _) fun o' N sm kN nr on oc rl=>?_
    ·simp (maxSteps:=2000000) (disch:=first | omega | assumption | (simp only [DS,Nat.reduceAdd, *]; done) | (simp only [DZ]; omega)) only [RUN]
    ·simp (maxSteps:=2000000) (disch:=first | omega | assumption | (simp only [DS,Nat.reduceAdd, *]; done) | (simp only [DZ]; omega)) only [RUN]
     rfl
    ·have wN:=kN.wf
     have dN : N.dirty = false:=kN.di
     simp (maxSteps:=2000000) (disch:=first | omega | assumption | (simp only [DS,Nat.reduceAdd, *]; done) | (simp only [DZ]; omega)) only [RUN,RU,zA2,zA1,zA0,zAB,frzL,reduceIte,Nat.reduceEqDiff,Nat.reduceAdd,dN]
     obtain ⟨ro,hro2,hfr⟩:=zFU sm zCE.cel 12 (by omega)
     rw [hfr _ (fun id h=>by simp (maxSteps:=2000000) (disch:=first | omega | assumption | (simp only [DS,Nat.reduceAdd, *]; done) | (simp only [DZ]; omega)) only [RUN])]
     exact ⟨ro,hro2,by rw [w2]⟩
   ·have q2 : decide (e.cutE (k + 1) = 0) = false:=decide_eq_false hc
    rw [if_neg hc]
    simp (maxSteps:=2000000) (disch:=first | omega | assumption | (simp only [DS,Nat.reduceAdd, *]; done) | (simp only [DZ]; omega)) only [RUN,RU,zA2,zA1,zA0,zAB,frzL,slot,lay,zAI,reduceIte,Nat.reduceEqDiff,Nat.reduceAdd,h0,h1,hS.fz.frz,↓pIdE,zAU,ETA,q,hw,hiad,w1,w2,hcut,q2]
    exact ⟨_,hS,rfl⟩
end Go.Proofs.YteognbdgdcjeeaaGreat
namespace Go.Proofs.YteognbdgdcjeeaaGreat
open Go Go.Ax
variable {fuel : Nat} {M : Mem} {Q : AV → Mem → Prop} {d : Nat}
theorem zO6 {X : Mem} {o : AV} {r : List AV} {x : Rn} (wf : Wf X) (h : SlN X 10 isRn o []) (hx : isRn r x) (hr : r.length = 10)
  (k : ∀ o' M',SlM M' 10 isRn o' [x] → Wf M' → X.size ≤ M'.size → (∀ j,j < X.size → rowOf o ≠ some j → M'.get j = X.get j) → (∀ id,rowOf o' = some id → rowOf o = some id ∨ X.size ≤ id) → M'.wm = X.wm → Q o' M') :
  W3 (zAE Tryz.prog (fsT tbl) fuel (d + 1) (.fn 43) [o,I64 0,.sl X.size 0 1 (some 1) 10] (X.add (.row false r))) Q:=by
 have sm:=h.slm
 have oo:=sm.one
 have ol:=sm.len
 have z10 : decide ((1 : Int) = 0) = false:=rfl
 have ge : ∀ N,lenO N (.sl X.size 0 1 (some 1) 10) = some (I64 1,N):=fun _=>rfl
 have hs : ∀ N,(∀ j,rowOf o = some j → N.get j = X.get j) → ∃ v,slcO N 10 o (some (I64 0)) none none = some (v,N) ∧ oneA v = true:=fun N hN=>by
  rcases h with ⟨_,rfl | ⟨id,rfl,hg⟩⟩ | ⟨hn,_⟩
  ·exact ⟨_,rfl,rfl⟩
  ·exact ⟨_,rfl,rfl⟩
  ·exact absurd rfl hn
 obtain ⟨v,hsv,ov⟩:=hs (X.add (.row false r)) (fun j hj=>zAG wf _ _ (sm.lt j hj))
 refine zB3 tf43 rfl (by simp [a43]) fun b' ht hx=>?_
 have h0:=hx 0 _ rfl
 have h1:=hx 1 _ rfl
 have h2:=hx 2 _ rfl
 clear hx
 simp only [a43,c43] at ht ⊢
 have ol0 : ∀ N,lenO N o = some (I64 0,N):=ol
 have rlo:=zAV sm.rl (show X.size ≤ X.size + 1 by omega)
 simp (maxSteps:=2000000) (disch:=first | omega | assumption | (simp only [DS,Nat.reduceAdd, *]; done) | (simp only [DZ]; omega)) only [RUN,RU,zA2,zA1,reduceIte,Nat.reduceEqDiff,Int.reduceEq,h0,h1,h2,ol0,hsv,ge,rlo]
 refine app1 wf sm zCE (x:=x) hx hr (by omega) (by simp) (by simp) fun o' M' sm' w' le' kp nw wm' rl on oc=>?_
 simp (maxSteps:=2000000) (disch:=first | omega | assumption | (simp only [DS,Nat.reduceAdd, *]; done) | (simp only [DZ]; omega)) only [RUN,RU,zA2,zA1,zA0,zAB,reduceIte,Nat.reduceEqDiff]
 exact k o' M' sm' w' le' kp nw wm'
theorem zOE {l : List Rn} {r : Rn} {n : Nat} (D : List Rn) (h : D = (l.drop n).takeWhile fun q=>r.sp.f.less q.sp.f) {i : Nat} (hi : i < D.length) (hn : n + i < l.length) : r.sp.f.less l[n + i].sp.f = true ∧ D[i] = l[n + i]:=by
 have h1 : D[i] ∈ (l.drop n).takeWhile fun q=>r.sp.f.less q.sp.f:=by rw [← h]; exact List.getElem_mem hi
 have h2:=List.all_eq_true.1 (List.all_takeWhile (l:=l.drop n) (p:=fun q=>r.sp.f.less q.sp.f)) _ h1
 have h3 : D[i] = l[n + i]:=by
  have hp : D <+: l.drop n:=by rw [h]; exact List.takeWhile_prefix _
  rw [hp.getElem hi,List.getElem_drop]
 rw [← h3]
 exact ⟨h2,rfl⟩
theorem zLW {l : List Rn} {x : Eid} {n : Nat} (h : zET l x n < l.length) : x.less l[zET l x n].sp.f = false:=by
 have hd : ((l.drop n).dropWhile fun q=>x.less q.sp.f) = l.drop (zET l x n):=by
  have e:=List.takeWhile_append_dropWhile (p:=fun q : Rn=>x.less q.sp.f) (l:=l.drop n)
  have e2:=congrArg (List.drop ((l.drop n).takeWhile fun q=>x.less q.sp.f).length) e
  rw [List.drop_left,List.drop_drop] at e2
  exact e2
 have:=List.head?_dropWhile_not (fun q : Rn=>x.less q.sp.f) (l.drop n)
 rw [hd,List.drop_eq_getElem_cons h] at this
 exact this
theorem zT1 {l : List Rn} {x : Eid} {n : Nat} (hn : n ≤ l.length) : zET l x n ≤ l.length:=by
 unfold zET
 have:=(List.takeWhile_sublist (l:=l.drop n) (fun q : Rn=>x.less q.sp.f)).length_le
 rw [List.length_drop] at this
 omega
theorem zK3 (l : List Rn) (x : Eid) : (zB2 l x).1.length ≤ l.length + 2:=by
 unfold zB2
 split
 ·simp
 ·split
  ·simp
  ·split
   ·simp; omega
   ·simp
theorem zS3 (l : List Rn) : (zBM l).length ≤ l.length:=by
 refine zCQ (P:=fun l=>(zBM l).length ≤ l.length) (Nat.le_refl _) (fun l r ih=>?_) l
 rw [zL8]
 have:=zNP (zBM l) r
 simp only [List.length_append,List.length_singleton]
 omega
theorem zV5 (l : List Rn) (r : Rn) : (insL l r).length ≤ l.length + 3:=by
 unfold insL
 refine Nat.le_trans (zS3 _) ?_
 have:=zK3 l r.af
 simp only [List.length_append,List.length_take,List.length_drop,List.length_singleton]
 omega
noncomputable def insR (l : List Rn) (r : Rn) : List Rn:=if putE l r = 0 then insL l r else []
open Classical in
set_option maxHeartbeats 16000000 in
theorem zIV {a ra : AV} {l : List Rn} {x : Rn} (hS : Sl 10 isRn a l) (hR : Sl 1 zB1 ra x.rs) (hx : x.ok) (hl : l.length ≤ 900) (hf : 64 * l.length + 3011000 < fuel) : ∃ r,Sl 10 isRn r (insR l x) ∧ ∀ M,zAE Tryz.prog (fsT tbl) fuel (d + 11) (.fn 12) [a,.agg (rnR x ra)] M = some (.tup [r,I64 (putE l x)],M):=by
 have oa:=hS.one
 have ora:=hR.one
 have hck:=fun M=>@zKR fuel d a l hS (by omega) (by omega) M
 have hcx:=fun M=>@zBY fuel (d + 4) x ra hR (by omega) M
 refine zG4 tf12 rfl (fun M=>by simp only [icyL,fun M=>hS.icy M 12 (by omega),zCB hR.fz]) ?_
 refine zAJ tf12 rfl (by simp only [icyL,fun M=>hS.icy M 12 (by omega),zCB hR.fz]) (by simp [a12]) fun b' ht hx=>?_
 have h0:=hx 0 _ rfl
 have h1:=hx 1 _ rfl
 clear hx
 simp only [a12,c12] at ht ⊢
 have hiE : putE l x = if zD6 l = true ∧ x.may = true then (if x.af ≠ Eid.z ∧ zB8 l x.af = none then 6 else if ∃ i : Nat,(i : Int) < x.sp.n ∧ zB8 l (x.sp.at i) ≠ none then 2 else if 8192 < zB0 l + x.sp.n then 4 else 0) else 8:=by
  unfold putE
  simp only [zFV]
 by_cases h8 : zD6 l = true ∧ x.may = true
 ·rw [if_pos h8] at hiE
  obtain ⟨htb,hxm⟩:=h8
  have hok:=zFV.1 htb
  rw [htb] at hck
  rw [hxm] at hcx
  have hwh:=fun y M=>@zM2 fuel (d + 4) a l y hS (by omega) (by omega) M
  have hwa:=fun M=>hwh x.af M
  have hb:=Spn.may_le (Rn.may_sp hxm)
  obtain ⟨m,hmn⟩ : ∃ m : Nat,x.sp.n = m:=⟨x.sp.n.toNat,by omega⟩
  have ia : ∀ i : Nat,i < m → ∀ M,zAE Tryz.prog (fsT tbl) fuel (d + 10) (.fn 39) [spA x.sp,I64 i] M = some (.tup [idA (x.sp.at i),I64 0],M):=fun i hi M=>by
   have:=@zHL fuel (d + 5) x.sp i M
   rw [if_pos (Rn.may_sp hxm),if_neg (by omega)] at this
   exact this
  have qn1 : decide ((-1 : Int) < 0) = true:=rfl
  have qg1 : decide ((0 : Int) ≤ -1) = false:=rfl
  by_cases h6 : x.af ≠ Eid.z ∧ zB8 l x.af = none
  ·have e6 : putE l x = 6:=by rw [hiE,if_pos h6]
   have er : insR l x = []:=by unfold insR; rw [e6]; rfl
   rw [e6,er]
   have q : decide (x.af = Eid.z) = false:=decide_eq_false h6.1
   rw [h6.2] at hwa
   simp (maxSteps:=2000000) (disch:=first | omega | assumption | (simp only [DS,Nat.reduceAdd, *]; done) | (simp only [DZ]; omega)) only [RUN,RU,zA2,zA1,zA0,zAB,frzL,slot,zAI,reduceIte,Nat.reduceEqDiff,Nat.reduceBEq,Nat.reduceAdd,Int.reduceLT,h0,h1,hck,hcx,IMX,zAX,zCF,BMM,hwa,wN,wK,↓pIdN,zBA,ETA,q]
   exact ⟨NIL,.inl ⟨rfl,rfl⟩,rfl⟩
  ·rw [if_neg h6] at hiE
   have hx6 : x.af = Eid.z ∨ zB8 l x.af ≠ none:=by
    by_cases h : x.af = Eid.z
    ·exact .inl h
    ·exact .inr fun k=>h6 ⟨h,k⟩
   have step : ∃ b : Bool,(decide ((wN (zB8 l x.af)) < 0) = b) ∧ (b = true → decide (x.af = Eid.z) = true):=by
    refine ⟨_,rfl,fun hb=>?_⟩
    rcases hx6 with h | h
    ·exact decide_eq_true h
    ·cases hw : zB8 l x.af with
     | none=>exact absurd hw h
     | some p =>
      have hb:=of_decide_eq_true hb
      rw [hw] at hb
      simp only [wN] at hb
      omega
   obtain ⟨b6,hb6,hb6'⟩:=step
   have main : ∀ (b6 : Bool),decide ((wN (zB8 l x.af)) < 0) = b6 → (b6 = true → decide (x.af = Eid.z) = true) → True:=fun _ _ _=>trivial
   clear main
   cases b6 with
   | true =>
    have q:=hb6' rfl
    simp (maxSteps:=2000000) (disch:=first | omega | assumption | (simp only [DS,Nat.reduceAdd, *]; done) | (simp only [DZ]; omega)) only [RUN,RU,zA2,zA1,slot,zAI,reduceIte,Nat.reduceEqDiff,Nat.reduceBEq,Nat.reduceAdd,h0,h1,hck,hcx,IMX,zAX,zCF,BMM,hwa,hb6,↓pIdN,zBA,ETA,q]
    refine zBQ (I:=fun n t N => ∃ (i : Nat),n = m - i ∧ i ≤ m ∧ nth zA9 t 0 = a ∧ nth zA9 t 3 = .ptr 0 0 ∧ nth zA9 t 40 = I64 m ∧ nth zA9 t 41 = I64 i ∧ Wf N ∧ N.get 0 = some (.row false (rnR x ra)) ∧ (∀ j,j < i → zB8 l (x.sp.at (j : Nat)) = none) ∧ N.size ≤ i + 1) (n:=m) (by omega) ?_ ?_
    ·refine ⟨0,rfl,Nat.zero_le _, ?_, ?_, ?_, ?_,Wf.mem0.add _,by simp (maxSteps:=2000000) (disch:=first | omega | assumption | (simp only [DS,Nat.reduceAdd, *]; done) | (simp only [DZ]; omega)) only [RUN],(fun _ h=>absurd h (by omega)),Nat.le_refl _⟩ <;> simp (maxSteps:=2000000) (disch:=first | omega | assumption | (simp only [DS,Nat.reduceAdd, *]; done) | (simp only [DZ]; omega)) only [RUN,reduceIte,Nat.reduceEqDiff,h0,hmn]
     all_goals first | rfl | assumption | done
    ·rintro n t N hlt ⟨i,rfl,hi,g0,g3,g40,g41,w,g,hj,sz⟩
     simp only [ht] at hlt ⊢
     have lg:=Mem.get_lt g
     by_cases hc : i < m
     ·have q1 : decide ((i : Int) < m) = true:=decide_eq_true (by omega)
      have w1 : IntKind.i64.wrap ((i : Int) + 1) = ((i + 1 : Nat) : Int):=by rw [wrap_i64] <;> omega
      have iai:=ia i hc
      have hwi:=hwh (x.sp.at (i : Nat))
      cases hwl : zB8 l (x.sp.at (i : Nat)) with
      | some p =>
       have e2 : putE l x = 2:=by rw [hiE,if_pos ⟨i,by omega,by rw [hwl]; simp⟩]
       have er : insR l x = []:=by unfold insR; rw [e2]; rfl
       rw [hwl] at hwi
       have qp : decide ((0 : Int) ≤ ((p.1 : Nat) : Int)) = true:=decide_eq_true (by omega)
       rw [e2,er]
       simp (maxSteps:=2000000) (disch:=first | omega | assumption | (simp only [DS,Nat.reduceAdd, *]; done) | (simp only [DZ]; omega)) only [RUN,RU,zA2,zA1,zA0,zAB,frzL,slot,lay,reduceIte,Nat.reduceEqDiff,Nat.reduceAdd,g0,g3,g40,g41,q1,iai,g,hwi,wN,wK,qp]
       exact ⟨NIL,.inl ⟨rfl,rfl⟩,rfl⟩
      | none =>
       rw [hwl] at hwi
       simp (maxSteps:=2000000) (disch:=first | omega | assumption | (simp only [DS,Nat.reduceAdd, *]; done) | (simp only [DZ]; omega)) only [RUN,RU,zA2,zA1,slot,lay,reduceIte,Nat.reduceEqDiff,Nat.reduceAdd,Nat.reduceLeDiff,Int.reduceLE,g0,g3,g40,g41,q1,iai,g,w,hwi,wN,wK,w1]
       refine ⟨hlt,m - (i + 1),by omega,i + 1,rfl,by omega,rfl,fun j hj'=>?_,by omega⟩
       rcases Nat.lt_succ_iff_lt_or_eq.1 hj' with h | rfl
       ·exact hj j h
       ·exact hwl
     ·obtain rfl : i = m:=by omega
      have q1 : decide ((i : Int) < i) = false:=decide_eq_false (by omega)
      have hno : ¬∃ j : Nat,(j : Int) < x.sp.n ∧ zB8 l (x.sp.at j) ≠ none:=fun ⟨j,h1,h2⟩=>h2 (hj j (by omega))
      rw [if_neg hno] at hiE
      have hct:=fun M=>@zHG fuel (d + 9) a l hS hok.1 (by omega) (by omega) M
      have hcl:=zE8 hok.1
      have w2 : IntKind.i64.wrap (zB0 l + x.sp.n) = zB0 l + x.sp.n:=by rw [wrap_i64] <;> omega
      by_cases h4 : 8192 < zB0 l + x.sp.n
      ·have e4 : putE l x = 4:=by rw [hiE,if_pos h4]
       have er : insR l x = []:=by unfold insR; rw [e4]; rfl
       have q4 : decide (8192 < zB0 l + x.sp.n) = true:=decide_eq_true h4
       rw [e4,er]
       simp (maxSteps:=2000000) (disch:=first | omega | assumption | (simp only [DS,Nat.reduceAdd, *]; done) | (simp only [DZ]; omega)) only [RUN,RU,zA2,zA1,zA0,zAB,frzL,reduceIte,Nat.reduceEqDiff,Nat.reduceBEq,Nat.reduceAdd,g0,g3,g40,g41,g,hct,w2,q4]
       exact ⟨NIL,.inl ⟨rfl,rfl⟩,rfl⟩
      ·have e0 : putE l x = 0:=by rw [hiE,if_neg h4]
       have er : insR l x = insL l x:=by unfold insR; rw [if_pos e0]
       have q4 : decide (8192 < zB0 l + x.sp.n) = false:=decide_eq_false h4
       obtain ⟨r',hr',hpart⟩:=zLN (fuel:=fuel) (d:=d + 2) hS hok.1 hx6 (by omega) (by omega)
       obtain ⟨p1,p2,p3,p4⟩:=zN5 hok.1 hx6
       have hpl:=zK3 l x.af
       have hsk:=zT1 (x:=x.sp.f) p1
       have hss:=fun h=>@zLW (zB2 l x.af).1 x.sp.f (zB2 l x.af).2 h
       have hmt:=fun D hD i=>@zOE (zB2 l x.af).1 x (zB2 l x.af).2 D hD i
       have eL : insL l x = zBM ((zB2 l x.af).1.take (zET (zB2 l x.af).1 x.sp.f (zB2 l x.af).2) ++ [x] ++ (zB2 l x.af).1.drop (zET (zB2 l x.af).1 x.sp.f (zB2 l x.af).2)):=rfl
       unfold zET at hsk hss eL
       rw [e0,er,eL]
       generalize hD : ((zB2 l x.af).1.drop (zB2 l x.af).2).takeWhile (fun q=>x.sp.f.less q.sp.f) = D at *
       have hmt:=fun i=>hmt D rfl (i:=i)
       generalize (zB2 l x.af).1 = l' at *
       generalize (zB2 l x.af).2 = n0 at *
       have or':=hr'.one
       have lr':=hr'.len
       simp (maxSteps:=2000000) (disch:=first | omega | assumption | (simp only [DS,Nat.reduceAdd, *]; done) | (simp only [DZ]; omega)) only [RUN,RU,zA2,zA1,slot,reduceIte,Nat.reduceEqDiff,Nat.reduceBEq,Nat.reduceAdd,g0,g3,g40,g41,g,hct,w2,q4,hpart]
       refine zBQ (I:=fun n2 t2 N2 => ∃ (i2 : Nat),n2 = l'.length - n0 - i2 ∧ i2 ≤ l'.length - n0 ∧ nth zA9 t2 0 = r' ∧ nth zA9 t2 3 = .ptr 0 0 ∧ nth zA9 t2 14 = I64 ((n0 + i2 : Nat) : Int) ∧ Wf N2 ∧ N2.size ≤ 70 ∧ N2.get 0 = some (.row false (rnR x ra)) ∧ i2 ≤ D.length) (n:=l'.length - n0) (by omega) ?_ ?_
       ·refine ⟨0,rfl,Nat.zero_le _, ?_, ?_, ?_,w,by omega,g,Nat.zero_le _⟩ <;> simp (maxSteps:=2000000) (disch:=first | omega | assumption | (simp only [DS,Nat.reduceAdd, *]; done) | (simp only [DZ]; omega)) only [RUN,RU,reduceIte,Nat.reduceEqDiff,g0,g3]
        all_goals first | rfl | assumption | done
       ·rintro n2 t2 N2 hlt2 ⟨i2,rfl,hi2,g20,g23,g214,wf2,sz2,gg,hi2⟩
        simp only [hlt] at hlt2 ⊢
        have lgg:=Mem.get_lt gg
        by_cases hc2 : n0 + i2 < l'.length
        ·have q2 : decide (((n0 + i2 : Nat) : Int) < l'.length) = true:=decide_eq_true (by omega)
         have w3 : IntKind.i64.wrap (((n0 + i2 : Nat) : Int) + 1) = ((n0 + (i2 + 1) : Nat) : Int):=by rw [wrap_i64] <;> omega
         obtain ⟨r2,hiad2,hre,hrl2⟩:=hr'.iad (n0 + i2) hc2
         by_cases hd2 : i2 < D.length
         ·have hlt3:=(hmt i2 hd2 hc2).1
          generalize l'[n0 + i2] = e2 at *
          obtain ⟨rb,rfl,hrb,_⟩:=hre
          have orb:=hrb.one
          have hls:=fun M=>@zEO fuel (d + 8) x.sp.f e2.sp.f M
          rw [hlt3] at hls
          simp (maxSteps:=2000000) (disch:=first | omega | assumption | (simp only [DS,Nat.reduceAdd, *]; done) | (simp only [DZ]; omega)) only [RUN,RU,zA2,zA1,slot,reduceIte,Nat.reduceEqDiff,Nat.reduceBEq,Nat.reduceAdd,g20,g23,g214,q2,lr',hiad2,gg,wf2,hls,w3]
          exact ⟨hlt2,l'.length - n0 - (i2 + 1),by omega,i2 + 1,rfl,by omega,rfl,by omega⟩
         ·obtain rfl : i2 = D.length:=by omega
          have hlt3:=hss hc2
          generalize l'[n0 + D.length] = e2 at *
          obtain ⟨rb,rfl,hrb,_⟩:=hre
          have orb:=hrb.one
          have hls:=fun M=>@zEO fuel (d + 8) x.sp.f e2.sp.f M
          rw [hlt3] at hls
          simp (maxSteps:=2000000) (disch:=first | omega | assumption | (simp only [DS,Nat.reduceAdd, *]; done) | (simp only [DZ]; omega)) only [RUN,RU,zA2,slot,reduceIte,Nat.reduceEqDiff,Nat.reduceBEq,Nat.reduceAdd,g20,g23,g214,q2,lr',hiad2,gg,hls]
          refine zHE zCE.cel tf28 Tryz.underlying40 hr' (by omega) (by omega) (by simp (maxSteps:=2000000) (disch:=first | omega | assumption | (simp only [DS,Nat.reduceAdd, *]; done) | (simp only [DZ]; omega)) only [RUN,wf2]) fun o3 M3 wf3 le3 kp3 sn3 nr3 wm3 di3 sz3=>?_
          have hd3 : M3.dirty = false:=di3
          have z0 : M3.get 0 = some (.row false (rnR x ra)):=(kp3 0 lgg).trans gg
          have lz0:=Mem.get_lt z0
          have sm3:=sn3.slm
          have on3:=sm3.one
          have oc3:=sm3.cells
          have rl3:=zAV sm3.rl (Nat.le_refl M3.size)
          have rl3':=zAV sm3.rl (Nat.le_succ M3.size)
          simp (maxSteps:=2000000) (disch:=first | omega | assumption | (simp only [DS,Nat.reduceAdd, *]; done) | (simp only [DZ]; omega)) only [RUN,RU,zA2,slot,lay,zAI,zA6,reduceIte,Nat.reduceEqDiff,Nat.reduceBEq,Nat.reduceAdd,g23,g214,hd3,z0,zWU,zC8]
          have sz3' : M3.size ≤ N2.size + 2:=sz3
          have hb0 : Nat.ble N2.size 0 = false:=by
           cases hb : Nat.ble N2.size 0 with
           | false=>rfl
           | true=>have:=Nat.le_of_ble_eq_true hb; omega
          refine ⟨by simp [zBO,FP.apart,FP.reads,FP.writes,hb0],by simp [zBO,FP.apart,FP.reads,FP.writes], ?_⟩
          have eX : ((N2.bk M3).add (.row false (rnR x ra))).lo = (⟨M3.t,M3.size,M3.size + 1,false⟩ : Mem).add (.row false (rnR x ra)):=rfl
          show W3 (insO _ (((N2.bk M3).add (.row false (rnR x ra))).lo) 43 10 80 o3 (I64 ((n0 + D.length : Nat) : Int)) (.sl M3.size 0 1 (some 1) 10)) _
          rw [eX]
          have wX : Wf (⟨M3.t,M3.size,M3.size + 1,false⟩ : Mem):=wf3
          have sX : (⟨M3.t,M3.size,M3.size + 1,false⟩ : Mem).size = M3.size:=rfl
          have snX : SlN (⟨M3.t,M3.size,M3.size + 1,false⟩ : Mem) 10 isRn o3 l':=sn3
          generalize (⟨M3.t,M3.size,M3.size + 1,false⟩ : Mem) = X3 at *
          have key : W3 (insO (zAE Tryz.prog (fsT tbl) fuel (d + 10)) (X3.add (.row false (rnR x ra))) 43 10 80 o3 (I64 ((n0 + D.length : Nat) : Int)) (.sl M3.size 0 1 (some 1) 10)) (fun o4 M4=>SlM M4 10 isRn o4 (l'.take (n0 + D.length) ++ [x] ++ l'.drop (n0 + D.length)) ∧ Wf M4):=by
           rw [← sX]
           by_cases hz : l' = []
           ·subst hz
            have e0 : n0 + D.length = 0:=by simp only [List.length_nil] at hsk; omega
            rw [e0]
            have hc0 : ((0 : Nat) : Int) = 0:=rfl
            rw [hc0]
            have h0' : W3 (zAE Tryz.prog (fsT tbl) fuel (d + 10) (.fn 43) [o3,I64 0,.sl X3.size 0 1 (some 1) 10] (X3.add (.row false (rnR x ra)))) (fun o4 M4=>SlM M4 10 isRn o4 [x] ∧ Wf M4):=zO6 (d:=d + 9) wX snX ⟨ra,rfl,hR,hx⟩ rfl (fun o' M' a b _ _ _ _=>⟨a,b⟩)
            have e1 : insO (zAE Tryz.prog (fsT tbl) fuel (d + 10)) (X3.add (.row false (rnR x ra))) 43 10 80 o3 (I64 0) (.sl X3.size 0 1 (some 1) 10) = zAE Tryz.prog (fsT tbl) fuel (d + 10) (.fn 43) [o3,I64 0,.sl X3.size 0 1 (some 1) 10] (X3.add (.row false (rnR x ra))):=by
             rcases snX with ⟨_,rfl | ⟨id,rfl,_⟩⟩ | ⟨hn,_⟩
             ·exact zJX ..
             ·exact zJW ..
             ·exact absurd rfl hn
            rw [e1]
            exact h0'
           ·exact snX.ins (bytes:=80) (g:=43) wX hz zCE.cel ⟨ra,rfl,hR,hx⟩ rfl (by omega) (by omega) (by omega) (by omega) (by omega) fun o' M' a b _ _ _=>⟨a,b⟩
          obtain ⟨o4,M4,he4,sm4,wf4⟩:=key
          rw [he4]
          clear he4 eX hmt hss snX sn3 sm3 kp3 hno hwh hwa hck hcx hcl ia hj hpart hct
          have on4:=sm4.one
          have oc4:=sm4.cells
          have rl4:=zAV sm4.rl (Nat.le_refl M4.size)
          simp (maxSteps:=2000000) (disch:=first | omega | assumption | (simp only [DS,Nat.reduceAdd, *]; done) | (simp only [DZ]; omega)) only [RUN,RU,zA2,reduceIte,Nat.reduceEqDiff,Nat.reduceAdd]
          refine zKK (n:=d + 9) (R:=fun r=>Sl 10 isRn r (zBM (l'.take (n0 + D.length) ++ [x] ++ l'.drop (n0 + D.length)))) tf26 rfl (sm4.keep fun _ _=>rfl) (show Wf _ from wf4) zCE (fun a' ha'=>?_) fun r X' hr wX' sX' kX'=>?_
          ·refine zEP (d:=d + 1) ha' (by simp only [List.length_append,List.length_take,List.length_drop,List.length_singleton]; omega) (fun q hq=>?_) (by simp only [List.length_append,List.length_take,List.length_drop,List.length_singleton]; omega)
           have hq64 : q.rs.length ≤ 64:=by
            rcases List.mem_append.1 hq with hq | hq
            ·rcases List.mem_append.1 hq with hq | hq
             ·exact zED p2 q (List.mem_of_mem_take hq)
             ·rw [List.mem_singleton] at hq; subst hq
              exact (Rn.may_iff.1 hxm).2.2.2.1
            ·exact zED p2 q (List.mem_of_mem_drop hq)
           omega
          ·have orr:=hr.one
           simp (maxSteps:=2000000) (disch:=first | omega | assumption | (simp only [DS,Nat.reduceAdd, *]; done) | (simp only [DZ]; omega)) only [RUN,RU,zA2,zA0,zAB,frzL,reduceIte,Nat.reduceEqDiff,Nat.reduceAdd,hr.fz.frz,zC8]
           exact ⟨r,hr,rfl⟩
        ·obtain rfl : i2 = D.length:=by omega
         have q2 : decide (((n0 + D.length : Nat) : Int) < l'.length) = false:=decide_eq_false (by omega)
         simp (maxSteps:=2000000) (disch:=first | omega | assumption | (simp only [DS,Nat.reduceAdd, *]; done) | (simp only [DZ]; omega)) only [RUN,RU,zA2,reduceIte,Nat.reduceEqDiff,Nat.reduceBEq,Nat.reduceAdd,g20,g214,q2,lr']
         refine zHE zCE.cel tf28 Tryz.underlying40 hr' (by omega) (by omega) (by simp (maxSteps:=2000000) (disch:=first | omega | assumption | (simp only [DS,Nat.reduceAdd, *]; done) | (simp only [DZ]; omega)) only [RUN,wf2]) fun o3 M3 wf3 le3 kp3 sn3 nr3 wm3 di3 sz3=>?_
         have hd3 : M3.dirty = false:=di3
         have z0 : M3.get 0 = some (.row false (rnR x ra)):=(kp3 0 lgg).trans gg
         have lz0:=Mem.get_lt z0
         have sm3:=sn3.slm
         have on3:=sm3.one
         have oc3:=sm3.cells
         have rl3:=zAV sm3.rl (Nat.le_refl M3.size)
         have rl3':=zAV sm3.rl (Nat.le_succ M3.size)
         simp (maxSteps:=2000000) (disch:=first | omega | assumption | (simp only [DS,Nat.reduceAdd, *]; done) | (simp only [DZ]; omega)) only [RUN,RU,zA2,slot,lay,zAI,zA6,reduceIte,Nat.reduceEqDiff,Nat.reduceBEq,Nat.reduceAdd,g23,g214,hd3,z0,zWU,zC8]
         have sz3' : M3.size ≤ N2.size + 2:=sz3
         have hb0 : Nat.ble N2.size 0 = false:=by
          cases hb : Nat.ble N2.size 0 with
          | false=>rfl
          | true=>have:=Nat.le_of_ble_eq_true hb; omega
         refine ⟨by simp [zBO,FP.apart,FP.reads,FP.writes,hb0],by simp [zBO,FP.apart,FP.reads,FP.writes], ?_⟩
         have eX : ((N2.bk M3).add (.row false (rnR x ra))).lo = (⟨M3.t,M3.size,M3.size + 1,false⟩ : Mem).add (.row false (rnR x ra)):=rfl
         show W3 (insO _ (((N2.bk M3).add (.row false (rnR x ra))).lo) 43 10 80 o3 (I64 ((n0 + D.length : Nat) : Int)) (.sl M3.size 0 1 (some 1) 10)) _
         rw [eX]
         have wX : Wf (⟨M3.t,M3.size,M3.size + 1,false⟩ : Mem):=wf3
         have sX : (⟨M3.t,M3.size,M3.size + 1,false⟩ : Mem).size = M3.size:=rfl
         have snX : SlN (⟨M3.t,M3.size,M3.size + 1,false⟩ : Mem) 10 isRn o3 l':=sn3
         generalize (⟨M3.t,M3.size,M3.size + 1,false⟩ : Mem) = X3 at *
         have key : W3 (insO (zAE Tryz.prog (fsT tbl) fuel (d + 10)) (X3.add (.row false (rnR x ra))) 43 10 80 o3 (I64 ((n0 + D.length : Nat) : Int)) (.sl M3.size 0 1 (some 1) 10)) (fun o4 M4=>SlM M4 10 isRn o4 (l'.take (n0 + D.length) ++ [x] ++ l'.drop (n0 + D.length)) ∧ Wf M4):=by
          rw [← sX]
          by_cases hz : l' = []
          ·subst hz
           have e0 : n0 + D.length = 0:=by simp only [List.length_nil] at hsk; omega
           rw [e0]
           have hc0 : ((0 : Nat) : Int) = 0:=rfl
           rw [hc0]
           have h0' : W3 (zAE Tryz.prog (fsT tbl) fuel (d + 10) (.fn 43) [o3,I64 0,.sl X3.size 0 1 (some 1) 10] (X3.add (.row false (rnR x ra)))) (fun o4 M4=>SlM M4 10 isRn o4 [x] ∧ Wf M4):=zO6 (d:=d + 9) wX snX ⟨ra,rfl,hR,hx⟩ rfl (fun o' M' a b _ _ _ _=>⟨a,b⟩)
           have e1 : insO (zAE Tryz.prog (fsT tbl) fuel (d + 10)) (X3.add (.row false (rnR x ra))) 43 10 80 o3 (I64 0) (.sl X3.size 0 1 (some 1) 10) = zAE Tryz.prog (fsT tbl) fuel (d + 10) (.fn 43) [o3,I64 0,.sl X3.size 0 1 (some 1) 10] (X3.add (.row false (rnR x ra))):=by
            rcases snX with ⟨_,rfl | ⟨id,rfl,_⟩⟩ | ⟨hn,_⟩
            ·exact zJX ..
            ·exact zJW ..
            ·exact absurd rfl hn
           rw [e1]
           exact h0'
          ·exact snX.ins (bytes:=80) (g:=43) wX hz zCE.cel ⟨ra,rfl,hR,hx⟩ rfl (by omega) (by omega) (by omega) (by omega) (by omega) fun o' M' a b _ _ _=>⟨a,b⟩
         obtain ⟨o4,M4,he4,sm4,wf4⟩:=key
         rw [he4]
         clear he4 eX hmt hss snX sn3 sm3 kp3 hno hwh hwa hck hcx hcl ia hj hpart hct
         have on4:=sm4.one
         have oc4:=sm4.cells
         have rl4:=zAV sm4.rl (Nat.le_refl M4.size)
         simp (maxSteps:=2000000) (disch:=first | omega | assumption | (simp only [DS,Nat.reduceAdd, *]; done) | (simp only [DZ]; omega)) only [RUN,RU,zA2,reduceIte,Nat.reduceEqDiff,Nat.reduceAdd]
         refine zKK (n:=d + 9) (R:=fun r=>Sl 10 isRn r (zBM (l'.take (n0 + D.length) ++ [x] ++ l'.drop (n0 + D.length)))) tf26 rfl (sm4.keep fun _ _=>rfl) (show Wf _ from wf4) zCE (fun a' ha'=>?_) fun r X' hr wX' sX' kX'=>?_
         ·refine zEP (d:=d + 1) ha' (by simp only [List.length_append,List.length_take,List.length_drop,List.length_singleton]; omega) (fun q hq=>?_) (by simp only [List.length_append,List.length_take,List.length_drop,List.length_singleton]; omega)
          have hq64 : q.rs.length ≤ 64:=by
           rcases List.mem_append.1 hq with hq | hq
           ·rcases List.mem_append.1 hq with hq | hq
            ·exact zED p2 q (List.mem_of_mem_take hq)
            ·rw [List.mem_singleton] at hq; subst hq
             exact (Rn.may_iff.1 hxm).2.2.2.1
           ·exact zED p2 q (List.mem_of_mem_drop hq)
          omega
         ·have orr:=hr.one
          simp (maxSteps:=2000000) (disch:=first | omega | assumption | (simp only [DS,Nat.reduceAdd, *]; done) | (simp only [DZ]; omega)) only [RUN,RU,zA2,zA0,zAB,frzL,reduceIte,Nat.reduceEqDiff,Nat.reduceAdd,hr.fz.frz,zC8]
          exact ⟨r,hr,rfl⟩
   | false =>
    simp (maxSteps:=2000000) (disch:=first | omega | assumption | (simp only [DS,Nat.reduceAdd, *]; done) | (simp only [DZ]; omega)) only [RUN,RU,zA2,zA1,slot,reduceIte,Nat.reduceEqDiff,Nat.reduceBEq,Nat.reduceAdd,h0,h1,hck,hcx,IMX,zAX,zCF,BMM,hwa,hb6]
    refine zBQ (I:=fun n t N => ∃ (i : Nat),n = m - i ∧ i ≤ m ∧ nth zA9 t 0 = a ∧ nth zA9 t 3 = .ptr 0 0 ∧ nth zA9 t 40 = I64 m ∧ nth zA9 t 41 = I64 i ∧ Wf N ∧ N.get 0 = some (.row false (rnR x ra)) ∧ (∀ j,j < i → zB8 l (x.sp.at (j : Nat)) = none) ∧ N.size ≤ i + 1) (n:=m) (by omega) ?_ ?_
    ·refine ⟨0,rfl,Nat.zero_le _, ?_, ?_, ?_, ?_,Wf.mem0.add _,by simp (maxSteps:=2000000) (disch:=first | omega | assumption | (simp only [DS,Nat.reduceAdd, *]; done) | (simp only [DZ]; omega)) only [RUN],(fun _ h=>absurd h (by omega)),Nat.le_refl _⟩ <;> simp (maxSteps:=2000000) (disch:=first | omega | assumption | (simp only [DS,Nat.reduceAdd, *]; done) | (simp only [DZ]; omega)) only [RUN,reduceIte,Nat.reduceEqDiff,h0,hmn]
     all_goals first | rfl | assumption | done
    ·rintro n t N hlt ⟨i,rfl,hi,g0,g3,g40,g41,w,g,hj,sz⟩
     simp only [ht] at hlt ⊢
     have lg:=Mem.get_lt g
     by_cases hc : i < m
     ·have q1 : decide ((i : Int) < m) = true:=decide_eq_true (by omega)
      have w1 : IntKind.i64.wrap ((i : Int) + 1) = ((i + 1 : Nat) : Int):=by rw [wrap_i64] <;> omega
      have iai:=ia i hc
      have hwi:=hwh (x.sp.at (i : Nat))
      cases hwl : zB8 l (x.sp.at (i : Nat)) with
      | some p =>
       have e2 : putE l x = 2:=by rw [hiE,if_pos ⟨i,by omega,by rw [hwl]; simp⟩]
       have er : insR l x = []:=by unfold insR; rw [e2]; rfl
       rw [hwl] at hwi
       have qp : decide ((0 : Int) ≤ ((p.1 : Nat) : Int)) = true:=decide_eq_true (by omega)
       rw [e2,er]
       simp (maxSteps:=2000000) (disch:=first | omega | assumption | (simp only [DS,Nat.reduceAdd, *]; done) | (simp only [DZ]; omega)) only [RUN,RU,zA2,zA1,zA0,zAB,frzL,slot,lay,reduceIte,Nat.reduceEqDiff,Nat.reduceAdd,g0,g3,g40,g41,q1,iai,g,hwi,wN,wK,qp]
       exact ⟨NIL,.inl ⟨rfl,rfl⟩,rfl⟩
      | none =>
       rw [hwl] at hwi
       simp (maxSteps:=2000000) (disch:=first | omega | assumption | (simp only [DS,Nat.reduceAdd, *]; done) | (simp only [DZ]; omega)) only [RUN,RU,zA2,zA1,slot,lay,reduceIte,Nat.reduceEqDiff,Nat.reduceAdd,Nat.reduceLeDiff,Int.reduceLE,g0,g3,g40,g41,q1,iai,g,w,hwi,wN,wK,w1]
       refine ⟨hlt,m - (i + 1),by omega,i + 1,rfl,by omega,rfl,fun j hj'=>?_,by omega⟩
       rcases Nat.lt_succ_iff_lt_or_eq.1 hj' with h | rfl
       ·exact hj j h
       ·exact hwl
     ·obtain rfl : i = m:=by omega
      have q1 : decide ((i : Int) < i) = false:=decide_eq_false (by omega)
      have hno : ¬∃ j : Nat,(j : Int) < x.sp.n ∧ zB8 l (x.sp.at j) ≠ none:=fun ⟨j,h1,h2⟩=>h2 (hj j (by omega))
      rw [if_neg hno] at hiE
      have hct:=fun M=>@zHG fuel (d + 9) a l hS hok.1 (by omega) (by omega) M
      have hcl:=zE8 hok.1
      have w2 : IntKind.i64.wrap (zB0 l + x.sp.n) = zB0 l + x.sp.n:=by rw [wrap_i64] <;> omega
      by_cases h4 : 8192 < zB0 l + x.sp.n
      ·have e4 : putE l x = 4:=by rw [hiE,if_pos h4]
       have er : insR l x = []:=by unfold insR; rw [e4]; rfl
       have q4 : decide (8192 < zB0 l + x.sp.n) = true:=decide_eq_true h4
       rw [e4,er]
       simp (maxSteps:=2000000) (disch:=first | omega | assumption | (simp only [DS,Nat.reduceAdd, *]; done) | (simp only [DZ]; omega)) only [RUN,RU,zA2,zA1,zA0,zAB,frzL,reduceIte,Nat.reduceEqDiff,Nat.reduceBEq,Nat.reduceAdd,g0,g3,g40,g41,g,hct,w2,q4]
       exact ⟨NIL,.inl ⟨rfl,rfl⟩,rfl⟩
      ·have e0 : putE l x = 0:=by rw [hiE,if_neg h4]
       have er : insR l x = insL l x:=by unfold insR; rw [if_pos e0]
       have q4 : decide (8192 < zB0 l + x.sp.n) = false:=decide_eq_false h4
       obtain ⟨r',hr',hpart⟩:=zLN (fuel:=fuel) (d:=d + 2) hS hok.1 hx6 (by omega) (by omega)
       obtain ⟨p1,p2,p3,p4⟩:=zN5 hok.1 hx6
       have hpl:=zK3 l x.af
       have hsk:=zT1 (x:=x.sp.f) p1
       have hss:=fun h=>@zLW (zB2 l x.af).1 x.sp.f (zB2 l x.af).2 h
       have hmt:=fun D hD i=>@zOE (zB2 l x.af).1 x (zB2 l x.af).2 D hD i
       have eL : insL l x = zBM ((zB2 l x.af).1.take (zET (zB2 l x.af).1 x.sp.f (zB2 l x.af).2) ++ [x] ++ (zB2 l x.af).1.drop (zET (zB2 l x.af).1 x.sp.f (zB2 l x.af).2)):=rfl
       unfold zET at hsk hss eL
       rw [e0,er,eL]
       generalize hD : ((zB2 l x.af).1.drop (zB2 l x.af).2).takeWhile (fun q=>x.sp.f.less q.sp.f) = D at *
       have hmt:=fun i=>hmt D rfl (i:=i)
       generalize (zB2 l x.af).1 = l' at *
       generalize (zB2 l x.af).2 = n0 at *
       have or':=hr'.one
       have lr':=hr'.len
       simp (maxSteps:=2000000) (disch:=first | omega | assumption | (simp only [DS,Nat.reduceAdd, *]; done) | (simp only [DZ]; omega)) only [RUN,RU,zA2,zA1,slot,reduceIte,Nat.reduceEqDiff,Nat.reduceBEq,Nat.reduceAdd,g0,g3,g40,g41,g,hct,w2,q4,hpart]
       refine zBQ (I:=fun n2 t2 N2 => ∃ (i2 : Nat),n2 = l'.length - n0 - i2 ∧ i2 ≤ l'.length - n0 ∧ nth zA9 t2 0 = r' ∧ nth zA9 t2 3 = .ptr 0 0 ∧ nth zA9 t2 14 = I64 ((n0 + i2 : Nat) : Int) ∧ Wf N2 ∧ N2.size ≤ 70 ∧ N2.get 0 = some (.row false (rnR x ra)) ∧ i2 ≤ D.length) (n:=l'.length - n0) (by omega) ?_ ?_
       ·refine ⟨0,rfl,Nat.zero_le _, ?_, ?_, ?_,w,by omega,g,Nat.zero_le _⟩ <;> simp (maxSteps:=2000000) (disch:=first | omega | assumption | (simp only [DS,Nat.reduceAdd, *]; done) | (simp only [DZ]; omega)) only [RUN,RU,reduceIte,Nat.reduceEqDiff,g0,g3]
        all_goals first | rfl | assumption | done
       ·rintro n2 t2 N2 hlt2 ⟨i2,rfl,hi2,g20,g23,g214,wf2,sz2,gg,hi2⟩
        simp only [hlt] at hlt2 ⊢
        have lgg:=Mem.get_lt gg
        by_cases hc2 : n0 + i2 < l'.length
        ·have q2 : decide (((n0 + i2 : Nat) : Int) < l'.length) = true:=decide_eq_true (by omega)
         have w3 : IntKind.i64.wrap (((n0 + i2 : Nat) : Int) + 1) = ((n0 + (i2 + 1) : Nat) : Int):=by rw [wrap_i64] <;> omega
         obtain ⟨r2,hiad2,hre,hrl2⟩:=hr'.iad (n0 + i2) hc2
         by_cases hd2 : i2 < D.length
         ·have hlt3:=(hmt i2 hd2 hc2).1
          generalize l'[n0 + i2] = e2 at *
          obtain ⟨rb,rfl,hrb,_⟩:=hre
          have orb:=hrb.one
          have hls:=fun M=>@zEO fuel (d + 8) x.sp.f e2.sp.f M
          rw [hlt3] at hls
          simp (maxSteps:=2000000) (disch:=first | omega | assumption | (simp only [DS,Nat.reduceAdd, *]; done) | (simp only [DZ]; omega)) only [RUN,RU,zA2,zA1,slot,reduceIte,Nat.reduceEqDiff,Nat.reduceBEq,Nat.reduceAdd,g20,g23,g214,q2,lr',hiad2,gg,wf2,hls,w3]
          exact ⟨hlt2,l'.length - n0 - (i2 + 1),by omega,i2 + 1,rfl,by omega,rfl,by omega⟩
         ·obtain rfl : i2 = D.length:=by omega
          have hlt3:=hss hc2
          generalize l'[n0 + D.length] = e2 at *
          obtain ⟨rb,rfl,hrb,_⟩:=hre
          have orb:=hrb.one
          have hls:=fun M=>@zEO fuel (d + 8) x.sp.f e2.sp.f M
          rw [hlt3] at hls
          simp (maxSteps:=2000000) (disch:=first | omega | assumption | (simp only [DS,Nat.reduceAdd, *]; done) | (simp only [DZ]; omega)) only [RUN,RU,zA2,slot,reduceIte,Nat.reduceEqDiff,Nat.reduceBEq,Nat.reduceAdd,g20,g23,g214,q2,lr',hiad2,gg,hls]
          refine zHE zCE.cel tf28 Tryz.underlying40 hr' (by omega) (by omega) (by simp (maxSteps:=2000000) (disch:=first | omega | assumption | (simp only [DS,Nat.reduceAdd, *]; done) | (simp only [DZ]; omega)) only [RUN,wf2]) fun o3 M3 wf3 le3 kp3 sn3 nr3 wm3 di3 sz3=>?_
          have hd3 : M3.dirty = false:=di3
          have z0 : M3.get 0 = some (.row false (rnR x ra)):=(kp3 0 lgg).trans gg
          have lz0:=Mem.get_lt z0
          have sm3:=sn3.slm
          have on3:=sm3.one
          have oc3:=sm3.cells
          have rl3:=zAV sm3.rl (Nat.le_refl M3.size)
          have rl3':=zAV sm3.rl (Nat.le_succ M3.size)
          simp (maxSteps:=2000000) (disch:=first | omega | assumption | (simp only [DS,Nat.reduceAdd, *]; done) | (simp only [DZ]; omega)) only [RUN,RU,zA2,slot,lay,zAI,zA6,reduceIte,Nat.reduceEqDiff,Nat.reduceBEq,Nat.reduceAdd,g23,g214,hd3,z0,zWU,zC8]
          have sz3' : M3.size ≤ N2.size + 2:=sz3
          have hb0 : Nat.ble N2.size 0 = false:=by
           cases hb : Nat.ble N2.size 0 with
           | false=>rfl
           | true=>have:=Nat.le_of_ble_eq_true hb; omega
          refine ⟨by simp [zBO,FP.apart,FP.reads,FP.writes,hb0],by simp [zBO,FP.apart,FP.reads,FP.writes], ?_⟩
          have eX : ((N2.bk M3).add (.row false (rnR x ra))).lo = (⟨M3.t,M3.size,M3.size + 1,false⟩ : Mem).add (.row false (rnR x ra)):=rfl
          show W3 (insO _ (((N2.bk M3).add (.row false (rnR x ra))).lo) 43 10 80 o3 (I64 ((n0 + D.length : Nat) : Int)) (.sl M3.size 0 1 (some 1) 10)) _
          rw [eX]
          have wX : Wf (⟨M3.t,M3.size,M3.size + 1,false⟩ : Mem):=wf3
          have sX : (⟨M3.t,M3.size,M3.size + 1,false⟩ : Mem).size = M3.size:=rfl
          have snX : SlN (⟨M3.t,M3.size,M3.size + 1,false⟩ : Mem) 10 isRn o3 l':=sn3
          generalize (⟨M3.t,M3.size,M3.size + 1,false⟩ : Mem) = X3 at *
          have key : W3 (insO (zAE Tryz.prog (fsT tbl) fuel (d + 10)) (X3.add (.row false (rnR x ra))) 43 10 80 o3 (I64 ((n0 + D.length : Nat) : Int)) (.sl M3.size 0 1 (some 1) 10)) (fun o4 M4=>SlM M4 10 isRn o4 (l'.take (n0 + D.length) ++ [x] ++ l'.drop (n0 + D.length)) ∧ Wf M4):=by
           rw [← sX]
           by_cases hz : l' = []
           ·subst hz
            have e0 : n0 + D.length = 0:=by simp only [List.length_nil] at hsk; omega
            rw [e0]
            have hc0 : ((0 : Nat) : Int) = 0:=rfl
            rw [hc0]
            have h0' : W3 (zAE Tryz.prog (fsT tbl) fuel (d + 10) (.fn 43) [o3,I64 0,.sl X3.size 0 1 (some 1) 10] (X3.add (.row false (rnR x ra)))) (fun o4 M4=>SlM M4 10 isRn o4 [x] ∧ Wf M4):=zO6 (d:=d + 9) wX snX ⟨ra,rfl,hR,hx⟩ rfl (fun o' M' a b _ _ _ _=>⟨a,b⟩)
            have e1 : insO (zAE Tryz.prog (fsT tbl) fuel (d + 10)) (X3.add (.row false (rnR x ra))) 43 10 80 o3 (I64 0) (.sl X3.size 0 1 (some 1) 10) = zAE Tryz.prog (fsT tbl) fuel (d + 10) (.fn 43) [o3,I64 0,.sl X3.size 0 1 (some 1) 10] (X3.add (.row false (rnR x ra))):=by
             rcases snX with ⟨_,rfl | ⟨id,rfl,_⟩⟩ | ⟨hn,_⟩
             ·exact zJX ..
             ·exact zJW ..
             ·exact absurd rfl hn
            rw [e1]
            exact h0'
           ·exact snX.ins (bytes:=80) (g:=43) wX hz zCE.cel ⟨ra,rfl,hR,hx⟩ rfl (by omega) (by omega) (by omega) (by omega) (by omega) fun o' M' a b _ _ _=>⟨a,b⟩
          obtain ⟨o4,M4,he4,sm4,wf4⟩:=key
          rw [he4]
          clear he4 eX hmt hss snX sn3 sm3 kp3 hno hwh hwa hck hcx hcl ia hj hpart hct
          have on4:=sm4.one
          have oc4:=sm4.cells
          have rl4:=zAV sm4.rl (Nat.le_refl M4.size)
          simp (maxSteps:=2000000) (disch:=first | omega | assumption | (simp only [DS,Nat.reduceAdd, *]; done) | (simp only [DZ]; omega)) only [RUN,RU,zA2,reduceIte,Nat.reduceEqDiff,Nat.reduceAdd]
          refine zKK (n:=d + 9) (R:=fun r=>Sl 10 isRn r (zBM (l'.take (n0 + D.length) ++ [x] ++ l'.drop (n0 + D.length)))) tf26 rfl (sm4.keep fun _ _=>rfl) (show Wf _ from wf4) zCE (fun a' ha'=>?_) fun r X' hr wX' sX' kX'=>?_
          ·refine zEP (d:=d + 1) ha' (by simp only [List.length_append,List.length_take,List.length_drop,List.length_singleton]; omega) (fun q hq=>?_) (by simp only [List.length_append,List.length_take,List.length_drop,List.length_singleton]; omega)
           have hq64 : q.rs.length ≤ 64:=by
            rcases List.mem_append.1 hq with hq | hq
            ·rcases List.mem_append.1 hq with hq | hq
             ·exact zED p2 q (List.mem_of_mem_take hq)
             ·rw [List.mem_singleton] at hq; subst hq
              exact (Rn.may_iff.1 hxm).2.2.2.1
            ·exact zED p2 q (List.mem_of_mem_drop hq)
           omega
          ·have orr:=hr.one
           simp (maxSteps:=2000000) (disch:=first | omega | assumption | (simp only [DS,Nat.reduceAdd, *]; done) | (simp only [DZ]; omega)) only [RUN,RU,zA2,zA0,zAB,frzL,reduceIte,Nat.reduceEqDiff,Nat.reduceAdd,hr.fz.frz,zC8]
           exact ⟨r,hr,rfl⟩
        ·obtain rfl : i2 = D.length:=by omega
         have q2 : decide (((n0 + D.length : Nat) : Int) < l'.length) = false:=decide_eq_false (by omega)
         simp (maxSteps:=2000000) (disch:=first | omega | assumption | (simp only [DS,Nat.reduceAdd, *]; done) | (simp only [DZ]; omega)) only [RUN,RU,zA2,reduceIte,Nat.reduceEqDiff,Nat.reduceBEq,Nat.reduceAdd,g20,g214,q2,lr']
         refine zHE zCE.cel tf28 Tryz.underlying40 hr' (by omega) (by omega) (by simp (maxSteps:=2000000) (disch:=first | omega | assumption | (simp only [DS,Nat.reduceAdd, *]; done) | (simp only [DZ]; omega)) only [RUN,wf2]) fun o3 M3 wf3 le3 kp3 sn3 nr3 wm3 di3 sz3=>?_
         have hd3 : M3.dirty = false:=di3
         have z0 : M3.get 0 = some (.row false (rnR x ra)):=(kp3 0 lgg).trans gg
         have lz0:=Mem.get_lt z0
         have sm3:=sn3.slm
         have on3:=sm3.one
         have oc3:=sm3.cells
         have rl3:=zAV sm3.rl (Nat.le_refl M3.size)
         have rl3':=zAV sm3.rl (Nat.le_succ M3.size)
         simp (maxSteps:=2000000) (disch:=first | omega | assumption | (simp only [DS,Nat.reduceAdd, *]; done) | (simp only [DZ]; omega)) only [RUN,RU,zA2,slot,lay,zAI,zA6,reduceIte,Nat.reduceEqDiff,Nat.reduceBEq,Nat.reduceAdd,g23,g214,hd3,z0,zWU,zC8]
         have sz3' : M3.size ≤ N2.size + 2:=sz3
         have hb0 : Nat.ble N2.size 0 = false:=by
          cases hb : Nat.ble N2.size 0 with
          | false=>rfl
          | true=>have:=Nat.le_of_ble_eq_true hb; omega
         refine ⟨by simp [zBO,FP.apart,FP.reads,FP.writes,hb0],by simp [zBO,FP.apart,FP.reads,FP.writes], ?_⟩
         have eX : ((N2.bk M3).add (.row false (rnR x ra))).lo = (⟨M3.t,M3.size,M3.size + 1,false⟩ : Mem).add (.row false (rnR x ra)):=rfl
         show W3 (insO _ (((N2.bk M3).add (.row false (rnR x ra))).lo) 43 10 80 o3 (I64 ((n0 + D.length : Nat) : Int)) (.sl M3.size 0 1 (some 1) 10)) _
         rw [eX]
         have wX : Wf (⟨M3.t,M3.size,M3.size + 1,false⟩ : Mem):=wf3
         have sX : (⟨M3.t,M3.size,M3.size + 1,false⟩ : Mem).size = M3.size:=rfl
         have snX : SlN (⟨M3.t,M3.size,M3.size + 1,false⟩ : Mem) 10 isRn o3 l':=sn3
         generalize (⟨M3.t,M3.size,M3.size + 1,false⟩ : Mem) = X3 at *
         have key : W3 (insO (zAE Tryz.prog (fsT tbl) fuel (d + 10)) (X3.add (.row false (rnR x ra))) 43 10 80 o3 (I64 ((n0 + D.length : Nat) : Int)) (.sl M3.size 0 1 (some 1) 10)) (fun o4 M4=>SlM M4 10 isRn o4 (l'.take (n0 + D.length) ++ [x] ++ l'.drop (n0 + D.length)) ∧ Wf M4):=by
          rw [← sX]
          by_cases hz : l' = []
          ·subst hz
           have e0 : n0 + D.length = 0:=by simp only [List.length_nil] at hsk; omega
           rw [e0]
           have hc0 : ((0 : Nat) : Int) = 0:=rfl
           rw [hc0]
           have h0' : W3 (zAE Tryz.prog (fsT tbl) fuel (d + 10) (.fn 43) [o3,I64 0,.sl X3.size 0 1 (some 1) 10] (X3.add (.row false (rnR x ra)))) (fun o4 M4=>SlM M4 10 isRn o4 [x] ∧ Wf M4):=zO6 (d:=d + 9) wX snX ⟨ra,rfl,hR,hx⟩ rfl (fun o' M' a b _ _ _ _=>⟨a,b⟩)
           have e1 : insO (zAE Tryz.prog (fsT tbl) fuel (d + 10)) (X3.add (.row false (rnR x ra))) 43 10 80 o3 (I64 0) (.sl X3.size 0 1 (some 1) 10) = zAE Tryz.prog (fsT tbl) fuel (d + 10) (.fn 43) [o3,I64 0,.sl X3.size 0 1 (some 1) 10] (X3.add (.row false (rnR x ra))):=by
            rcases snX with ⟨_,rfl | ⟨id,rfl,_⟩⟩ | ⟨hn,_⟩
            ·exact zJX ..
            ·exact zJW ..
            ·exact absurd rfl hn
           rw [e1]
           exact h0'
          ·exact snX.ins (bytes:=80) (g:=43) wX hz zCE.cel ⟨ra,rfl,hR,hx⟩ rfl (by omega) (by omega) (by omega) (by omega) (by omega) fun o' M' a b _ _ _=>⟨a,b⟩
         obtain ⟨o4,M4,he4,sm4,wf4⟩:=key
         rw [he4]
         clear he4 eX hmt hss snX sn3 sm3 kp3 hno hwh hwa hck hcx hcl ia hj hpart hct
         have on4:=sm4.one
         have oc4:=sm4.cells
         have rl4:=zAV sm4.rl (Nat.le_refl M4.size)
         simp (maxSteps:=2000000) (disch:=first | omega | assumption | (simp only [DS,Nat.reduceAdd, *]; done) | (simp only [DZ]; omega)) only [RUN,RU,zA2,reduceIte,Nat.reduceEqDiff,Nat.reduceAdd]
         refine zKK (n:=d + 9) (R:=fun r=>Sl 10 isRn r (zBM (l'.take (n0 + D.length) ++ [x] ++ l'.drop (n0 + D.length)))) tf26 rfl (sm4.keep fun _ _=>rfl) (show Wf _ from wf4) zCE (fun a' ha'=>?_) fun r X' hr wX' sX' kX'=>?_
         ·refine zEP (d:=d + 1) ha' (by simp only [List.length_append,List.length_take,List.length_drop,List.length_singleton]; omega) (fun q hq=>?_) (by simp only [List.length_append,List.length_take,List.length_drop,List.length_singleton]; omega)
          have hq64 : q.rs.length ≤ 64:=by
           rcases List.mem_append.1 hq with hq | hq
           ·rcases List.mem_append.1 hq with hq | hq
            ·exact zED p2 q (List.mem_of_mem_take hq)
            ·rw [List.mem_singleton] at hq; subst hq
             exact (Rn.may_iff.1 hxm).2.2.2.1
           ·exact zED p2 q (List.mem_of_mem_drop hq)
          omega
         ·have orr:=hr.one
          simp (maxSteps:=2000000) (disch:=first | omega | assumption | (simp only [DS,Nat.reduceAdd, *]; done) | (simp only [DZ]; omega)) only [RUN,RU,zA2,zA0,zAB,frzL,reduceIte,Nat.reduceEqDiff,Nat.reduceAdd,hr.fz.frz,zC8]
          exact ⟨r,hr,rfl⟩
 ·have e8 : putE l x = 8:=by rw [hiE,if_neg h8]
  have er : insR l x = []:=by unfold insR; rw [e8]; rfl
  have hz : imax (err (zD6 l)) (err x.may) = 8:=by
   cases ma : zD6 l <;> cases mb : x.may <;> first | rfl | exact absurd ⟨ma,mb⟩ h8
  rw [e8,er]
  simp (maxSteps:=2000000) (disch:=first | omega | assumption | (simp only [DS,Nat.reduceAdd, *]; done) | (simp only [DZ]; omega)) only [RUN,RU,zA2,zA1,zA0,zAB,frzL,slot,reduceIte,Nat.reduceEqDiff,Nat.reduceBEq,Nat.reduceAdd,Int.reduceEq,h0,h1,hck,hcx,hz,zCF,BMM]
  exact ⟨NIL,.inl ⟨rfl,rfl⟩,rfl⟩
end Go.Proofs.YteognbdgdcjeeaaGreat
namespace Go.Proofs.YteognbdgdcjeeaaGreat
open Go Go.Ax
variable {fuel : Nat} {M : Mem} {Q : AV → Mem → Prop} {d : Nat} {l : List Op} {a : AV}
theorem zH1 (l : List Op) : (textOf l).length ≤ 3 * l.length:=by
 refine zCQ (P:=fun l=>(textOf l).length ≤ 3 * l.length) (Nat.le_refl _) (fun l o ih=>?_) l
 rw [zDZ]
 unfold stepT
 split
 ·have:=zV5 (textOf l) o.rn
  simp only [List.length_append,List.length_singleton]
  omega
 ·simp only [List.length_append,List.length_singleton]
  omega
def za3 (l : List Op) (r : AV) : Prop:=∃ r1,r = .tup [r1,I64 (err (zB6 [] l))] ∧ Sl 10 isRn r1 (if zB6 [] l = true then textOf l else [])
theorem zXS {o : Op} (h : o.ok) : o.rn.ok:=⟨h.2.2.2.1,h.2.2.2.2.1,h.2.2.2.2.2.2⟩
set_option maxHeartbeats 8000000 in
theorem zKH (hS : Sl 17 isOp a l) (hl : l.length ≤ 200) (hf : 3080000 < fuel) : ∃ r,za3 l r ∧ ∀ M,zAE Tryz.prog (fsT tbl) fuel (d + 15) (.fn 7) [a] M = some (r,M):=by
 have ll:=hS.len
 have hck:=fun M=>zE9 (fuel:=fuel) (d:=d) hS (by omega) (by omega) M
 refine zG4 tf7 rfl (fun M=>by simp only [icyL,fun M=>hS.icy M 12 (by omega)]) ?_
 refine zAJ tf7 rfl (by simp only [icyL,fun M=>hS.icy M 12 (by omega)]) (by simp [a7]) fun b' ht hx=>?_
 have h0:=hx 0 _ rfl
 clear hx
 simp only [a7,c7] at ht ⊢
 unfold za3
 cases q1 : zB6 [] l with
 | false =>
  rw [q1] at hck
  simp (maxSteps:=2000000) (disch:=first | omega | assumption | (simp only [DS,Nat.reduceAdd, *]; done) | (simp only [DZ]; omega)) only [RUN,RU,zA2,zA1,zA0,zAB,frzL,reduceIte,Nat.reduceEqDiff,Int.reduceEq,h0,hck,zBF]
  exact ⟨_,⟨NIL,rfl,.inl ⟨rfl,rfl⟩⟩,rfl⟩
 | true =>
  rw [q1] at hck
  simp only [if_true]
  simp (maxSteps:=2000000) (disch:=first | omega | assumption | (simp only [DS,Nat.reduceAdd, *]; done) | (simp only [DZ]; omega)) only [RUN,RU,zA2,zA1,reduceIte,Nat.reduceEqDiff,h0,hck,zAX,ll]
  refine zBQ (I:=fun n t N => ∃ (i : Nat) (r : AV),n = l.length - i ∧ i ≤ l.length ∧ nth zA9 t 2 = r ∧ nth zA9 t 14 = a ∧ nth zA9 t 15 = I64 l.length ∧ nth zA9 t 16 = I64 i ∧ Wf N ∧ Sl 10 isRn r (textOf (l.take i))) (n:=l.length) (by omega) ?_ ?_
  ·refine ⟨0,NIL,rfl,Nat.zero_le _, ?_, ?_, ?_, ?_,Wf.mem0,.inl ⟨rfl,rfl⟩⟩ <;> simp (maxSteps:=2000000) (disch:=first | omega | assumption | (simp only [DS,Nat.reduceAdd, *]; done) | (simp only [DZ]; omega)) only [RUN,reduceIte,Nat.reduceEqDiff]
   all_goals first | rfl | assumption | done
  ·rintro n t N hlt ⟨i,r,rfl,hi,g2,g14,g15,g16,w,hA⟩
   simp only [ht] at hlt ⊢
   have or':=hA.one
   by_cases hc : i < l.length
   ·have q3 : decide ((i : Int) < l.length) = true:=decide_eq_true (by omega)
    have w1 : IntKind.i64.wrap ((i : Int) + 1) = ((i + 1 : Nat) : Int):=by rw [wrap_i64] <;> omega
    obtain ⟨r0,hiad,hr,hrl⟩:=hS.iad i hc
    have hts:=zDZ (l.take i) l[i]
    rw [← take_snoc l i hc] at hts
    have htl:=zH1 (l.take i)
    rw [List.length_take] at htl
    have hsp : l.take i ++ l[i] :: l.drop (i + 1) = l:=by rw [← List.drop_eq_getElem_cons hc,List.take_append_drop]
    have hput : rofE l[i] = 0 → putE (textOf (l.take i)) l[i].rn = 0:=zV2 (m:=l.drop (i + 1)) (by rw [hsp]; exact q1)
    clear hsp
    generalize l[i] = e at *
    obtain ⟨ra,rfl,hra,hok⟩:=hr
    have ora:=hra.one
    obtain ⟨rr,hk,hof⟩:=zLU (fuel:=fuel) (d:=d + 6) hra hok (by omega)
    by_cases q4 : rofE e = 0
    ·have q4' : decide (rofE e = 0) = true:=decide_eq_true q4
     unfold rofK at hk
     rw [if_pos q4] at hk
     obtain ⟨rb,rfl,hrb⟩:=hk
     have orb:=hrb.one
     obtain ⟨r2,hr2,hins⟩:=zIV (fuel:=fuel) (d:=d + 3) (x:=e.rn) hA hrb (zXS hok) (by omega) (by omega)
     have or2:=hr2.one
     rw [hput q4] at hins
     unfold insR at hr2
     rw [if_pos (hput q4)] at hr2
     unfold stepT at hts
     rw [if_pos q4] at hts
     simp (maxSteps:=2000000) (disch:=first | omega | assumption | (simp only [DS,Nat.reduceAdd, *]; done) | (simp only [DZ]; omega)) only [RUN,RU,zA2,zA1,slot,lay,reduceIte,Nat.reduceEqDiff,Nat.reduceAdd,g2,g14,g15,g16,q3,hiad,hof,hins,w,w1]
     exact ⟨hlt,l.length - (i + 1),by omega,i + 1,r2,rfl,by omega,rfl,rfl,by rw [hts]; exact hr2⟩
    ·have q4' : decide (rofE e = 0) = false:=decide_eq_false q4
     unfold rofK at hk
     rw [if_neg q4] at hk
     subst hk
     unfold stepT at hts
     rw [if_neg q4] at hts
     unfold rnZ at hof
     simp (maxSteps:=2000000) (disch:=first | omega | assumption | (simp only [DS,Nat.reduceAdd, *]; done) | (simp only [DZ]; omega)) only [RUN,RU,zA2,zA1,slot,lay,reduceIte,Nat.reduceEqDiff,Nat.reduceAdd,g2,g14,g15,g16,q3,hiad,hof,q4',w,w1]
     exact ⟨hlt,l.length - (i + 1),by omega,i + 1,r,rfl,by omega,rfl,rfl,by rw [hts]; exact hA⟩
   ·obtain rfl : i = l.length:=by omega
    have q3 : decide ((l.length : Int) < l.length) = false:=decide_eq_false (by omega)
    rw [List.take_length] at hA
    simp (maxSteps:=2000000) (disch:=first | omega | assumption | (simp only [DS,Nat.reduceAdd, *]; done) | (simp only [DZ]; omega)) only [RUN,RU,zA2,zA1,zA0,zAB,frzL,reduceIte,Nat.reduceEqDiff,g2,g15,g16,hA.fz.frz]
    exact ⟨_,⟨r,rfl,hA⟩,rfl⟩
theorem zcB (hS : Sl 17 isOp a l) : ∀ p ∈ l,p.ok:=by
 rcases hS with ⟨_,rfl⟩ | ⟨rows,cap,_,hA,_⟩
 ·intro p hp; cases hp
 ·intro p hp
  obtain ⟨i,hi,rfl⟩:=List.getElem_of_mem hp
  have hr : i < rows.length:=by rw [hA.length_eq]; exact hi
  obtain ⟨_,_,_,h⟩:=hA.get hr hi
  exact h
end Go.Proofs.YteognbdgdcjeeaaGreat
namespace Go.Proofs.YteognbdgdcjeeaaGreat
open Go Go.Ax
variable {fuel : Nat} {M : Mem} {Q : AV → Mem → Prop} {d : Nat} {l : List Op} {a : AV} {x : Eid}
def zHJ (l : List Op) (x : Eid) : Bool:=l.any fun o=>decide (o.kd = 2) && (o.sp.has x).isSome
theorem zUY (l m : List Op) (x : Eid) : zHJ (l ++ m) x = (zHJ l x || zHJ m x):=List.any_append
theorem zYR {o : Op} {ra : AV} {y : Nat} (hR : Sl 1 zB1 ra o.rs) (wf : Wf M) (hy : M.get y = some (.row false (idR x))) (k : ∀ N,Kept M N → Q (BL (decide (o.kd = 2) && (o.sp.has x).isSome)) N) : W3 (zAE Tryz.prog (fsT tbl) fuel (d + 6) (.fn 35) [.agg (opR o ra),.ptr y 0] M) Q:=by
 have ly:=Mem.get_lt hy
 have ora:=hR.one
 have hh:=fun M=>@zMW fuel d o.sp x M
 refine zB3 tf35 rfl (by simp [a35]) fun b' ht hx=>?_
 have h0:=hx 0 _ rfl
 have h1:=hx 1 _ rfl
 clear hx
 simp only [a35,c35] at ht ⊢
 cases q1 : decide (o.kd = 2) with
 | false =>
  simp (maxSteps:=2000000) (disch:=first | omega | assumption | (simp only [DS,Nat.reduceAdd, *]; done) | (simp only [DZ]; omega)) only [RUN,RU,zA2,zA1,zA0,zAB,slot,reduceIte,Nat.reduceEqDiff,h0,h1,hy,hh,q1]
  rw [q1,Bool.false_and] at k
  exact k _ ((Kept.refl wf).add _)
 | true =>
  simp (maxSteps:=2000000) (disch:=first | omega | assumption | (simp only [DS,Nat.reduceAdd, *]; done) | (simp only [DZ]; omega)) only [RUN,RU,zA2,zA1,zA0,zAB,slot,reduceIte,Nat.reduceEqDiff,h0,h1,hy,hh,q1]
  rw [q1,Bool.true_and] at k
  exact k _ ((Kept.refl wf).add _)
set_option maxHeartbeats 4000000 in
theorem zO1 (hS : Sl 17 isOp a l) (hl : l.length ≤ 10000) (hf : l.length + 400 < fuel) (M : Mem) : zAE Tryz.prog (fsT tbl) fuel (d + 15) (.fn 11) [a,idA x] M = some (.tup [BL (zB6 [] l && zHJ l x),I64 (err (zB6 [] l))],M):=by
 have hck:=fun M=>zE9 (fuel:=fuel) (d:=d) hS hl hf M
 apply zBN
 refine zAJ tf11 rfl (by simp only [icyL,fun M=>hS.icy M 12 (by omega),zBE (zE0 x) (show 1 < 12 by omega)]) (by simp [a11]) fun b' ht hx=>?_
 have h0:=hx 0 _ rfl
 have h1:=hx 1 _ rfl
 clear hx
 simp only [a11,c11] at ht ⊢
 cases q1 : zB6 [] l with
 | false =>
  rw [q1] at hck
  simp (maxSteps:=2000000) (disch:=first | omega | assumption | (simp only [DS,Nat.reduceAdd, *]; done) | (simp only [DZ]; omega)) only [RUN,RU,zA2,zA1,zA0,zAB,frzL,reduceIte,Nat.reduceEqDiff,Int.reduceEq,h0,h1,hck,zBF,Bool.false_and]
 | true =>
  rw [q1] at hck
  unfold zHJ
  simp (maxSteps:=2000000) (disch:=first | omega | assumption | (simp only [DS,Nat.reduceAdd, *]; done) | (simp only [DZ]; omega)) only [RUN,RU,zA2,zA1,reduceIte,Nat.reduceEqDiff,h0,h1,hck,zAX]
  refine zV0 (st:=17) (ag:=true) (n:=d + 12) (first:=[]) (cap:=[.ptr 0 0]) tf34 tf61 (by simp) zKY hS (by omega) (by omega) (p:=fun o=>decide (o.kd = 2) && (o.sp.has x).isSome) (by simp (maxSteps:=2000000) (disch:=first | omega | assumption | (simp only [DS,Nat.reduceAdd, *]; done) | (simp only [DZ]; omega)) only [RUN]) (fun n hn=>by simp only [zA7,zB5] at hn; simp (maxSteps:=2000000) (disch:=first | omega | assumption | (simp only [DS,Nat.reduceAdd, *]; done) | (simp only [DZ]; omega)) only [RUN,RU]) (fun r o hr _ N Q' hk hQ=>?_) fun N hk=>?_
  ·obtain ⟨ra,rfl,hra,_⟩:=hr
   refine zYR (d:=d + 6) hra hk.wf ?_ (fun N' hk'=>hQ N' (hk.trans hk'))
   rw [hk.get 0 (by simp (maxSteps:=2000000) (disch:=first | omega | assumption | (simp only [DS,Nat.reduceAdd, *]; done) | (simp only [DZ]; omega)) only [RUN,RU,Nat.reduceLT])]
   simp (maxSteps:=2000000) (disch:=first | omega | assumption | (simp only [DS,Nat.reduceAdd, *]; done) | (simp only [DZ]; omega)) only [RUN]
  ·simp (maxSteps:=2000000) (disch:=first | omega | assumption | (simp only [DS,Nat.reduceAdd, *]; done) | (simp only [DZ]; omega)) only [RUN,RU,zA2,zA1,zA0,zAB,frzL,reduceIte,Nat.reduceEqDiff]
end Go.Proofs.YteognbdgdcjeeaaGreat
namespace Go.Ax
open Go
variable {α : Type} {M N : Mem} {st : Nat} {T : List AV → α → Prop} {v o : AV} {l : List α}
def SlR (M : Mem) (st : Nat) (T : List AV → α → Prop) (v : AV) (l : List α) : Prop :=
 (v = NIL ∧ l = []) ∨ ∃ (id : Nat) (rows : List (List AV)) (cap : Option Nat),v = .sl id 0 rows.length cap st ∧ M.rd id = some rows.flatten ∧ All2 T rows l ∧ ∀ r ∈ rows,r.length = st
theorem SlR.of (h : SlM M st T v l) : SlR M st T v l:=by
 rcases h with h | ⟨id,rows,cap,rfl,_,hg,hA,hr⟩
 ·exact .inl h
 ·exact .inr ⟨id,rows,cap,rfl,zBK hg,hA,hr⟩
theorem SlR.keep (h : SlR M st T v l) (k : ∀ j,N.rd j = M.rd j) : SlR N st T v l:=by
 rcases h with h | ⟨id,rows,cap,h1,h2,h3,h4⟩
 ·exact .inl h
 ·exact .inr ⟨id,rows,cap,h1,(k id).trans h2,h3,h4⟩
theorem SlR.icyk (h : SlR M st T v l) (wf : Wf M) (hT : FzT T) {k : Nat} (hk : 1 < k) : ∃ v' M',Go.Ax.icy k M v = some (v',M') ∧ Sl st T v' l ∧ Wf M' ∧ M'.size = M.size ∧ (∀ j,M'.rd j = M.rd j) ∧ ∀ j,rowOf v ≠ some j → M'.get j = M.get j:=by
 obtain ⟨k,rfl⟩ : ∃ j,k = j + 1:=⟨k - 1,by omega⟩
 rcases h with ⟨rfl,rfl⟩ | ⟨id,rows,cap,rfl,hg,hA,hr⟩
 ·exact ⟨NIL,M,rfl,.inl ⟨rfl,rfl⟩,wf,rfl,fun _=>rfl,fun _ _=>rfl⟩
 ·have hfl:=zAL hr
  have hcs : ∀ N,icyL (Go.Ax.icy k) N rows.flatten = some (rows.flatten,N):=zCY (by omega) fun x hx N=>hT.celI.flat hA x hx N k (by omega)
  have hble : Nat.ble (0 + rows.length * st) rows.flatten.length = true:=zBG (by omega)
  have hsl : slot rows.flatten 0 (rows.length * st) = rows.flatten:=zBU _ _ hfl.symm
  have hrd:=hg
  rw [zE1] at hrd
  cases ho : M.get id with
  | none=>rw [ho] at hrd; cases hrd
  | some x =>
   rw [ho] at hrd
   cases x with
   | row b ds =>
    have e : ds = rows.flatten:=by simpa [rd1] using hrd
    subst e
    exact ⟨_,M.upd id (.fro rows.flatten),by simp only [Go.Ax.icy,hg,hble,hcs,ho,zB7 wf (Mem.get_lt ho),hsl],.inr ⟨rows,cap,rfl,hA,hr⟩,wf.upd _ _,rfl,NK.rd_fro wf ho,fun j hj=>zA4 wf _ _ _ (fun e=>hj (by rw [e]; rfl))⟩
   | fro ds=>exact ⟨_,M,by simp only [Go.Ax.icy,hg,hble,hcs,ho,hsl],.inr ⟨rows,cap,rfl,hA,hr⟩,wf,rfl,fun _=>rfl,fun _ _=>rfl⟩
   | _=>simp [rd1] at hrd
theorem SlR.hand {P : Program} {fs : Nat → Option AFunc} {fuel f n : Nat} {af : AFunc} {rest : List AV} {R : AV → Prop} {Q : AV → Mem → Prop} (h : fs f = some af) (hg : af.gc = 1) (hN : SlR M st T o l) (wf : Wf M) (hT : FzT T) (hr : ∀ M,icyL (Go.Ax.icy 12) M rest = some (rest,M)) (hc : ∀ o',Sl st T o' l → ∃ r,R r ∧ ∀ M,zAE P fs fuel (n + 1) (.fn f) (o' :: rest) M = some (r,M))
  (k : ∀ r M',R r → Wf M' → M'.size = M.size → SlR M' st T o l → (∀ j,rowOf o ≠ some j → M'.get j = M.get j) → Q r M') : W3 (zAE P fs fuel (n + 1) (.fn f) (o :: rest) M) Q:=by
 obtain ⟨o',M',i1,s1,w1,z1,r1,g1⟩:=hN.icyk wf hT (k:=12) (by omega)
 obtain ⟨r,hR,hcall⟩:=hc o' s1
 refine ⟨r,M',zD8 (bs:=o' :: rest) h hg (hcall mem0) (M3:=mem0) ?_ ?_,k r M' hR w1 z1 (hN.keep r1) g1⟩
 ·simp only [icyL,s1.icy mem0 12 (by omega),hr]
 ·simp only [icyL,i1,hr]
end Go.Ax
namespace Go.Proofs.YteognbdgdcjeeaaGreat
open Go Go.Ax
variable {fuel : Nat} {M : Mem} {Q : AV → Mem → Prop} {d : Nat} {v : Lb}
def zD7 (v : Lb) (r : Rn) : Bool:=!r.sp.f.hd.lb.leq v
theorem zQ7 {e : Rn} {ra : AV} {c : Nat} (hR : Sl 1 zB1 ra e.rs) (wf : Wf M) (hc : M.get c = some (.row false (lbR v))) (k : ∀ N,Kept M N → Q (BL (zD7 v e)) N) : W3 (zAE Tryz.prog (fsT tbl) fuel (d + 2) (.fn 25) [.agg (rnR e ra),.ptr c 0] M) Q:=by
 have ora:=hR.one
 have hle:=fun M=>@zG8 fuel d e.sp.f.hd.lb v M
 have lc:=Mem.get_lt hc
 have kk:=(Kept.refl wf).add (.row false (rnR e ra))
 unfold zD7 at k
 refine zB3 tf25 rfl (by simp [a25]) fun b' ht hx=>?_
 have h0:=hx 0 _ rfl
 have h1:=hx 1 _ rfl
 clear hx
 simp only [a25,c25] at ht ⊢
 simp (maxSteps:=2000000) (disch:=first | omega | assumption | (simp only [DS,Nat.reduceAdd, *]; done) | (simp only [DZ]; omega)) only [RUN,RU,zA2,zA1,zA0,zAB,slot,reduceIte,Nat.reduceEqDiff,h0,h1,hle,hc]
 exact k _ kk
def zRow : List AV:=rnR ⟨⟨Eid.z,0⟩,Eid.z,[]⟩ NIL
theorem zGC (n : Nat) : (zA6 zRn n).length = n * 10:=zK7 _ n
theorem zPW (n : Nat) : (zA6 zRn n).all oneA = true:=zNC rfl n
theorem zSS (n : Nat) : ∀ y ∈ zA6 zRn n,∃ v,y = .sc v:=by
 induction n with
 | zero=>exact fun y h=>absurd h (by simp [zA6])
 | succ n ih =>
  intro y hy
  rw [zA6] at hy
  rcases List.mem_append.1 hy with hy | hy
  ·simp only [scs,List.mem_map] at hy
   obtain ⟨w,_,rfl⟩:=hy
   exact ⟨_,rfl⟩
  ·exact ih y hy
set_option maxHeartbeats 16000000 in
theorem zPC {o : AV} {l : List Rn} {c : Nat} (hS : SlN M 10 isRn o l) (hl : l.length ≤ 1000) (hf : 3000 < fuel) (wf : Wf M) (hc : M.get c = some (.row false (lbR v))) (hic : rowOf o ≠ some c)
  (kk : ∀ o' N,SlZ N 10 isRn o' (l.filter fun r=>r.sp.f.hd.lb.leq v) → Wf N → M.size ≤ N.size → (∀ j,j < M.size → rowOf o ≠ some j → N.get j = M.get j) → (∀ j,rowOf o' = some j → rowOf o = some j) → Q o' N) : W3 (zAE Tryz.prog (fsT tbl) fuel (d + 4) (.fn 27) [o,.fn 25 [] [.ptr c 0]] M) Q:=by
 have sm:=hS.slm
 have oo:=sm.one
 have oc:=sm.cells
 have lc:=Mem.get_lt hc
 have hlen:=sm.len
 have rlo : ∀ {m : Nat},M.size ≤ m → ((rowsOf o).all fun i=>Nat.blt i m) = true:=fun h=>zAV sm.rl h
 have hfilt : ∀ L : List Rn,(∀ r ∈ L,zD7 v r = false) → (L.filter fun r=>r.sp.f.hd.lb.leq v) = L:=fun L h=>List.filter_eq_self.2 fun r hr=>by
  have:=h r hr
  unfold zD7 at this
  simpa using this
 refine zB3 tf27 rfl (by simp [a27]) fun b' ht hx=>?_
 have h0:=hx 0 _ rfl
 have h1:=hx 1 _ rfl
 clear hx
 simp only [a27,c27] at ht ⊢
 simp (maxSteps:=2000000) (disch:=first | omega | assumption | (simp only [DS,Nat.reduceAdd, *]; done) | (simp only [DZ]; omega)) only [RUN,RU,zA2,zA1,reduceIte,Nat.reduceEqDiff,h0,h1]
 refine zYW (n:=d + 2) (p:=zD7 v) tf48 sm (by omega) (by omega) wf (fun N hN=>rfl) (fun r x hr _=>by
  obtain ⟨ra,rfl,hra,_⟩:=hr
  exact zZS hra.fz) (fun r x hr _ N Q' hk kq=>by
  obtain ⟨ra,rfl,hra,_⟩:=hr
  exact zQ7 (d:=d) hra hk.wf ((hk.get c lc).trans hc) fun N' h'=>kq N' (hk.trans h')) fun N0 hk0=>?_
 have w0:=hk0.wf
 have le0:=hk0.le
 by_cases hall : ∀ j (hj : j < l.length),zD7 v l[j] = false
 ·rw [zI3 hall]
  have qm : decide ((-1 : Int) = -1) = true:=rfl
  simp (maxSteps:=2000000) (disch:=first | omega | assumption | (simp only [DS,Nat.reduceAdd, *]; done) | (simp only [DZ]; omega)) only [RUN,RU,zA2,zA1,zA0,zAB,reduceIte,Nat.reduceEqDiff,h0]
  refine kk o N0 ?_ w0 le0 (fun j hj _=>hk0.get j hj) (fun j h=>h)
  rw [hfilt l fun r hr=>by obtain ⟨j,hj,rfl⟩:=List.getElem_of_mem hr; exact hall j hj]
  exact sm.slz.keep fun j hj=>hk0.get j (sm.lt j hj)
 ·have hex : ∃ i0,∃ h : i0 < l.length,zD7 v l[i0] = true ∧ ∀ j (hj : j < l.length),j < i0 → zD7 v l[j] = false:=by
   have h1 : ∃ r ∈ l,zD7 v r = true:=Classical.byContradiction fun h=>hall fun j hj=>by
    cases hb : zD7 v l[j] with
    | false=>rfl
    | true=>exact absurd ⟨_,List.getElem_mem hj,hb⟩ h
   obtain ⟨r,hr,hb⟩:=h1
   have hlt : l.findIdx (zD7 v) < l.length:=List.findIdx_lt_length_of_exists ⟨r,hr,hb⟩
   exact ⟨l.findIdx (zD7 v),hlt,List.findIdx_getElem,fun j hj h=>by
    have:=List.not_of_lt_findIdx h
    simpa using this⟩
  obtain ⟨i0,hi0,hat,hfirst⟩:=hex
  rcases hS with ⟨rfl,_⟩ | ⟨_,id,rows,rfl,hg,hA,hr⟩
  ·exact absurd hi0 (by simp)
  have hlr:=hA.length_eq
  have lid:=Mem.get_lt hg
  have hicc : id ≠ c:=fun e=>hic (by rw [e]; rfl)
  have hft : (l.take (i0 + 1)).filter (fun r=>r.sp.f.hd.lb.leq v) = l.take i0:=by
   rw [zBJ _ _ hi0,List.filter_append,hfilt (l.take i0) fun r hr'=>by
    obtain ⟨j,hj,rfl⟩:=List.getElem_of_mem hr'
    rw [List.length_take] at hj
    rw [List.getElem_take]
    exact hfirst j (by omega) (by omega)]
   unfold zD7 at hat
   simp only [Bool.not_eq_true'] at hat
   rw [List.filter_cons_of_neg (by rw [hat]; simp)]
   simp
  rw [zI2 hi0 hat fun j hj=>hfirst j (by omega) hj]
  have qm : decide ((i0 : Int) = -1) = false:=decide_eq_false (by omega)
  have w1 : IntKind.i64.wrap ((i0 : Int) + 1) = ((i0 + 1 : Nat) : Int):=by rw [wrap_i64] <;> omega
  simp (maxSteps:=2000000) (disch:=first | omega | assumption | (simp only [DS,Nat.reduceAdd, *]; done) | (simp only [DZ]; omega)) only [RUN,RU,zA2,zA1,reduceIte,Nat.reduceEqDiff,qm,w1]
  refine zBQ (I:=fun m t N => ∃ (i j : Nat) (rs : List (List AV)),i < j ∧ j ≤ l.length ∧ m = l.length - j ∧ rs.length = rows.length ∧ (∀ r ∈ rs,r.length = 10) ∧ All2 isRn (rs.take i) ((l.take j).filter fun r=>r.sp.f.hd.lb.leq v) ∧ rs.drop j = rows.drop j ∧ Wf N ∧ M.size ≤ N.size ∧ (∀ q,q < M.size → q ≠ id → N.get q = M.get q) ∧ N.get id = some (.row false rs.flatten) ∧
   nth zA9 t 0 = .sl id 0 rows.length none 10 ∧ nth zA9 t 1 = .fn 25 [] [.ptr c 0] ∧ nth zA9 t 5 = I64 i ∧ nth zA9 t 6 = I64 j) (n:=l.length - (i0 + 1)) (by omega) ?_ ?_
  ·refine ⟨i0,i0 + 1,rows,by omega,by omega,rfl,rfl,hr,by rw [hft]; exact zE6 i0 hA,rfl,w0,le0,fun q hq _=>hk0.get q hq,by rw [hk0.get id lid]; exact hg, ?_, ?_, ?_, ?_⟩
   all_goals simp (maxSteps:=2000000) (disch:=first | omega | assumption | (simp only [DS,Nat.reduceAdd, *]; done) | (simp only [DZ]; omega)) only [RUN,reduceIte,Nat.reduceEqDiff,h0,h1]
   all_goals rfl
  ·rintro m t N hl' ⟨i,j,rs,hij,hj,hm,hrl,hr2,hAi,hdr,wN,leN,kN,gN,t0,t1,t5,t6⟩
   simp only [ht] at hl' ⊢
   clear h0 h1 ht
   have lidN:=Mem.get_lt gN
   have hfl:=zAL hr2
   by_cases hlt : j < l.length
   ·have hc' : decide ((j : Int) < rows.length) = true:=decide_eq_true (by omega)
    have v1 : IntKind.i64.wrap ((j : Int) + 1) = ((j + 1 : Nat) : Int):=by rw [wrap_i64] <;> omega
    have v2 : IntKind.i64.wrap ((i : Int) + 1) = ((i + 1 : Nat) : Int):=by rw [wrap_i64] <;> omega
    have htk:=zBJ l j hlt
    obtain ⟨rr,hrj,hrx⟩ : ∃ rr,rows[j]? = some rr ∧ isRn rr l[j]:=⟨_,List.getElem?_eq_getElem (by omega),hA.get (by omega) hlt⟩
    generalize l[j] = x at *
    obtain ⟨ab,rfl,hab,hok⟩:=hrx
    have oab:=hab.one
    have hrsj : rs[j]? = some (rnR x ab):=by
     have h1 : (rs.drop j)[0]? = (rows.drop j)[0]? := by rw [hdr]
     rw [List.getElem?_drop,List.getElem?_drop,Nat.add_zero,hrj] at h1
     exact h1
    have hld : ld2 N 10 (j * 10) true (some (.row false rs.flatten)) = some (.agg (rnR x ab),N):=by
     rw [zRZ,zN4 _ _ _ (by rw [hfl]; omega),zFG hr2 j _ hrsj]
    have hdr2 : rs.drop (j + 1) = rows.drop (j + 1):=by
     have:=congrArg (List.drop 1) hdr
     rw [List.drop_drop,List.drop_drop] at this
     exact this
    simp (maxSteps:=2000000) (disch:=first | omega | assumption | (simp only [DS,Nat.reduceAdd, *]; done) | (simp only [DZ]; omega)) only [RUN,RU,zA2,zA1,slot,lay,reduceIte,Nat.reduceEqDiff,Nat.reduceAdd,t0,t1,t6,hc',gN,hld]
    have wX : Wf ((N.add (.row false zRow)).upd N.size (.row false (rnR x ab))):=(wN.add _).upd _ _
    have gX : ((N.add (.row false zRow)).upd N.size (.row false (rnR x ab))).get N.size = some (.row false (rnR x ab)):=zAF (wN.add _) _ _ (by rw [zA7]; omega)
    have sX : ((N.add (.row false zRow)).upd N.size (.row false (rnR x ab))).size = N.size + 1:=rfl
    have kX : ∀ j,j < N.size → ((N.add (.row false zRow)).upd N.size (.row false (rnR x ab))).get j = N.get j:=fun j hj=>by rw [zA4 (wN.add _) _ _ _ (by omega),zAG wN _ _ hj]
    show Ax.W3 (zAE Tryz.prog (fsT tbl) fuel (d + 3) (.fn 25) [.agg (rnR x ab),.ptr c 0] ((N.add (.row false zRow)).upd N.size (.row false (rnR x ab)))) _
    generalize ((N.add (.row false zRow)).upd N.size (.row false (rnR x ab))) = X at *
    refine zQ7 (d:=d + 1) hab wX ((kX c (by omega)).trans ((kN c lc (fun e=>hicc e.symm)).trans hc)) fun N' hk'=>?_
    have w':=hk'.wf
    have le':=hk'.le
    have g7:=(hk'.get N.size (by omega)).trans gX
    have gi:=(hk'.get id (by omega)).trans ((kX id lidN).trans gN)
    have kq : ∀ q,q < M.size → q ≠ id → N'.get q = M.get q:=fun q hq hqi=>(hk'.get q (by omega)).trans ((kX q (by omega)).trans (kN q hq hqi))
    have l7:=Mem.get_lt g7
    have li':=Mem.get_lt gi
    unfold zD7
    cases hb : x.sp.f.hd.lb.leq v with
    | false =>
     have hfj : (l.take (j + 1)).filter (fun r=>r.sp.f.hd.lb.leq v) = (l.take j).filter fun r=>r.sp.f.hd.lb.leq v:=by
      rw [htk,List.filter_append,List.filter_cons_of_neg (by rw [hb]; simp)]
      simp
     simp (maxSteps:=2000000) (disch:=first | omega | assumption | (simp only [DS,Nat.reduceAdd, *]; done) | (simp only [DZ]; omega)) only [RUN,RU,zA2,zA1,reduceIte,Nat.reduceEqDiff,t0,t1,t5,t6,w',v1]
     exact ⟨hl',l.length - (j + 1),by omega,i,j + 1,rs,by omega,by omega,rfl,hrl,hr2,by rw [hfj]; exact hAi,hdr2,by omega,kq,gi,rfl,rfl⟩
    | true =>
     have hfj : (l.take (j + 1)).filter (fun r=>r.sp.f.hd.lb.leq v) = ((l.take j).filter fun r=>r.sp.f.hd.lb.leq v) ++ [x]:=by
      rw [htk,List.filter_append,List.filter_cons_of_pos (by rw [hb])]
      simp
     have hst : st2 N' id (i * 10) 10 (rnR x ab) (some (.row false rs.flatten)) = some (zA9,N'.upd id (.row false (rs.set i (rnR x ab)).flatten)):=by
      obtain ⟨ri,hri⟩ : ∃ ri,rs[i]? = some ri:=⟨_,List.getElem?_eq_getElem (by omega)⟩
      have hril:=hr2 ri (List.mem_of_getElem? hri)
      have e:=zJN (off:=0) (new:=rnR x ab) hr2 hri (by simp)
      have e2 : lay ri 0 (rnR x ab) = rnR x ab:=by
       unfold lay
       rw [List.take_zero,List.nil_append,List.drop_eq_nil_of_le (by simp; omega),List.append_nil]
      rw [e2,Nat.add_zero] at e
      rw [zT8 (M:=N') id (i * 10) 10 (rnR x ab) rs.flatten false rfl (by rw [hfl]; omega) (by simp only [List.all_cons,List.all_nil,zCR,oab,Bool.and_true]) (by omega) w',e]
     simp (maxSteps:=2000000) (disch:=first | omega | assumption | (simp only [DS,Nat.reduceAdd, *]; done) | (simp only [DZ]; omega)) only [RUN,RU,zA2,zA1,slot,reduceIte,Nat.reduceEqDiff,t0,t1,t5,t6,g7,gi,w',v1,v2,hst]
     refine ⟨hl',l.length - (j + 1),by omega,i + 1,j + 1,rs.set i (rnR x ab),by omega,by omega,rfl,by rw [List.length_set]; exact hrl,fun r h=>?_, ?_, ?_,by omega,fun q hq hqi=>?_,rfl,rfl,rfl⟩
     ·rcases List.mem_or_eq_of_mem_set h with h | rfl
      ·exact hr2 r h
      ·rfl
     ·have e1 : (rs.set i (rnR x ab)).take (i + 1) = rs.take i ++ [rnR x ab]:=by
       rw [List.take_add_one,List.getElem?_set_self (by omega),List.take_set,List.set_eq_of_length_le (by rw [List.length_take]; omega)]
       rfl
      rw [e1,hfj]
      exact hAi.append (.cons ⟨ab,rfl,hab,hok⟩ .nil)
     ·rw [List.drop_set_of_lt (by omega)]; exact hdr2
     ·rw [zA4 w' _ _ _ (fun e=>hqi e.symm)]; exact kq q hq hqi
   ·have hc' : decide ((j : Int) < rows.length) = false:=decide_eq_false (by omega)
    obtain rfl : j = l.length:=by omega
    rw [List.take_length] at hAi
    have hrdN : N.rd id = some rs.flatten:=zBK gN
    have hav : rs.flatten.length / 10 = rows.length:=by rw [hfl,hrl,Nat.mul_div_cancel _ (by omega)]
    have hs1 : slcO N 10 (.sl id 0 rows.length none 10) (some (I64 i)) none none = some (.sl id (i * 10) (rows.length - i) none 10,N):=by
     have hbi:=fun d=>zG0 rows.length i d .i64 (show i ≤ rows.length by omega)
     unfold slcO
     simp only [hrdN,Nat.sub_zero,hav,zEH,hbi,Nat.zero_add]
    have hb0 : Nat.beq (rows.length - i) 0 = false:=by
     cases h : Nat.beq (rows.length - i) 0 with
     | false=>rfl
     | true=>have:=Nat.eq_of_beq_eq_true h; omega
    have htl : (rs.take i).length = i:=by rw [List.length_take]; omega
    have hl1 : (rs.take i).flatten.length = i * 10:=by rw [zAL (st:=10) (fun r h=>hr2 r (List.mem_of_mem_take h)),htl]
    have hlay : lay rs.flatten (i * 10) (zA6 zRn (rows.length - i)) = (rs.take i).flatten ++ zA6 zRn (rows.length - i):=by
     have hft : rs.flatten = (rs.take i).flatten ++ (rs.drop i).flatten:=by rw [← List.flatten_append,List.take_append_drop]
     unfold lay
     rw [List.drop_eq_nil_of_le (by rw [hfl,zGC]; omega),List.append_nil]
     congr 1
     rw [hft,List.take_left' hl1]
    have hcl : clrO N 10 zRn (.sl id (i * 10) (rows.length - i) none 10) = some (.sc (.tuple #[]),N.upd id (.row false ((rs.take i).flatten ++ zA6 zRn (rows.length - i)))):=by
     simp only [clrO,hb0,gN,Nat.ble_eq_true_of_le (show i * 10 + (rows.length - i) * 10 ≤ rs.flatten.length by rw [hfl]; omega),zPW,zGC,Nat.beq_refl,Bool.and_self,zB7 wN lidN,hlay]
    have gN2 : (N.upd id (.row false ((rs.take i).flatten ++ zA6 zRn (rows.length - i)))).get id = some (.row false ((rs.take i).flatten ++ zA6 zRn (rows.length - i))):=zAF wN _ _ lidN
    have hav2 : ((rs.take i).flatten ++ zA6 zRn (rows.length - i)).length / 10 = rows.length:=by
     rw [List.length_append,hl1,zGC,← Nat.add_mul,Nat.mul_div_cancel _ (by omega)]; omega
    have hs2 : slcO (N.upd id (.row false ((rs.take i).flatten ++ zA6 zRn (rows.length - i)))) 10 (.sl id 0 rows.length none 10) none (some (I64 i)) none = some (.sl id 0 i none 10,N.upd id (.row false ((rs.take i).flatten ++ zA6 zRn (rows.length - i)))):=by
     have hbi:=fun d=>zG0 rows.length i d .i64 (show i ≤ rows.length by omega)
     unfold slcO
     simp only [zBK gN2,Nat.sub_zero,hav2,zEH,hbi,Nat.zero_mul,Nat.zero_add]
    have hq:=kk (.sl id 0 i none 10) _ (.inr ⟨id,rs.take i,zA6 zRn (rows.length - i),none,by rw [htl],gN2,hAi,fun r h=>hr2 r (List.mem_of_mem_take h),zSS _⟩) (wN.upd _ _) (by rw [zAD]; exact leN) (fun q hq hqi=>by rw [zA4 wN _ _ _ (fun e=>hqi (by rw [e]; rfl))]; exact kN q hq (fun e=>hqi (by rw [e]; rfl))) (fun j h=>by cases h; rfl)
    have hidb : id.blt N.size = true:=(zAP _ _).2 lidN
    simp (maxSteps:=2000000) (disch:=first | omega | assumption | (simp only [DS,Nat.reduceAdd, *]; done) | (simp only [DZ]; omega)) only [RUN,RU,zA2,zA1,zA0,zAB,reduceIte,Nat.reduceEqDiff,t0,t5,t6,hc',hs1,x_clr,hcl,hs2,hq]
end Go.Proofs.YteognbdgdcjeeaaGreat
namespace Go.Proofs.YteognbdgdcjeeaaGreat
open Go Go.Ax
variable {fuel : Nat} {M : Mem} {Q : AV → Mem → Prop} {d : Nat} {v : Lb}
theorem zVZ {e : Rn} {ra : AV} (hR : Sl 1 zB1 ra e.rs) (M : Mem) : zAE Tryz.prog (fsT tbl) fuel (d + 2) (.fn 23) [.agg (rnR e ra)] M = some (BL (!e.af.hd.lb.leq e.sp.f.hd.lb),M):=by
 have ora:=hR.one
 have hle:=fun M=>@zG8 fuel d e.af.hd.lb e.sp.f.hd.lb M
 apply zBN
 refine zAJ tf23 rfl (by simp only [icyL,zCB hR.fz]) (by simp [a23]) fun b' ht hx=>?_
 have h0:=hx 0 _ rfl
 clear hx
 simp only [a23,c23] at ht ⊢
 simp (maxSteps:=2000000) (disch:=first | omega | assumption | (simp only [DS,Nat.reduceAdd, *]; done) | (simp only [DZ]; omega)) only [RUN,RU,zA2,zA1,zA0,zAB,frzL,slot,reduceIte,Nat.reduceEqDiff,h0,hle]
noncomputable def upR (l : List Rn) (v : Lb) : List Rn:=if upE l v = 0 then upTo v l else []
set_option maxHeartbeats 8000000 in
theorem zTA {a : AV} {l : List Rn} (hS : Sl 10 isRn a l) (hl : l.length ≤ 1000) (hf : 64 * l.length + 3011000 < fuel) : ∃ r,Sl 10 isRn r (upR l v) ∧ ∀ M,zAE Tryz.prog (fsT tbl) fuel (d + 11) (.fn 8) [a,lbA v] M = some (.tup [r,I64 (upE l v)],M):=by
 have oa:=hS.one
 have hck:=fun M=>@zKR fuel d a l hS hl (by omega) M
 have hlc:=fun M=>@zEN fuel (d + 9) v M
 refine zG4 tf8 rfl (fun M=>by simp only [icyL,fun M=>hS.icy M 12 (by omega),zBE (zEU v) (show 1 < 12 by omega)]) ?_
 refine zAJ tf8 rfl (by simp only [icyL,fun M=>hS.icy M 12 (by omega),zBE (zEU v) (show 1 < 12 by omega)]) (by simp [a8]) fun b' ht hx=>?_
 have h0:=hx 0 _ rfl
 have h1:=hx 1 _ rfl
 clear hx
 simp only [a8,c8] at ht ⊢
 have hiE : upE l v = if zD6 l = true ∧ v.may = true then (if zE7 l = true then 0 else 2) else 8:=by
  unfold upE
  by_cases h : zCJ l ∧ v.may = true
  ·rw [if_pos h,if_pos (show zD6 l = true ∧ v.may = true from ⟨zT9 h.1,h.2⟩)]
  ·rw [if_neg h,if_neg (show ¬(zD6 l = true ∧ v.may = true) from fun k=>h ⟨zFV.1 k.1,k.2⟩)]
 unfold upR
 by_cases h8 : zD6 l = true ∧ v.may = true
 ·rw [if_pos h8] at hiE
  obtain ⟨htb,hvm⟩:=h8
  have hok:=zFV.1 htb
  rw [htb] at hck
  rw [hvm] at hlc
  have hh:=fun M=>zRN (P:=Tryz.prog) (fs:=fsT tbl) (fuel:=fuel) (l:=l) (ag:=true) (n:=d + 8) tf24 tf48 (fun h=>by cases h) zCE hS (by omega) (by omega) (zRF 23) (p:=fun x => !x.af.hd.lb.leq x.sp.f.hd.lb) (fun r x hr _ M=>by
   obtain ⟨ra,rfl,hra,_⟩:=hr
   exact @zVZ fuel (d + 6) x ra hra M) M
  rw [zM6] at hh
  have hcl : (l.all fun x=>x.af.hd.lb.leq x.sp.f.hd.lb) = zE7 l:=rfl
  rw [hcl] at hh
  cases hc : zE7 l with
  | false =>
   rw [hc] at hh
   have e2 : upE l v = 2:=by rw [hiE,hc]; rfl
   rw [e2]
   simp (maxSteps:=2000000) (disch:=first | omega | assumption | (simp only [DS,Nat.reduceAdd, *]; done) | (simp only [DZ]; omega)) only [RUN,RU,zA2,zA1,zA0,zAB,frzL,slot,reduceIte,Nat.reduceEqDiff,Nat.reduceBEq,Nat.reduceAdd,Int.reduceEq,h0,h1,hck,hlc,IMX,zAX,zCF,BMM,hh]
   exact ⟨NIL,.inl ⟨rfl,rfl⟩,rfl⟩
  | true =>
   rw [hc] at hh
   have e0 : upE l v = 0:=by rw [hiE,hc]; rfl
   rw [e0]
   simp only [if_true]
   simp (maxSteps:=2000000) (disch:=first | omega | assumption | (simp only [DS,Nat.reduceAdd, *]; done) | (simp only [DZ]; omega)) only [RUN,RU,zA2,zA1,slot,reduceIte,Nat.reduceEqDiff,Nat.reduceBEq,Nat.reduceAdd,h0,h1,hck,hlc,IMX,zAX,zCF,BMM,hh]
   refine zHE zCE.cel tf28 Tryz.underlying40 hS (by omega) (by omega) (by simp (maxSteps:=2000000) (disch:=first | omega | assumption | (simp only [DS,Nat.reduceAdd, *]; done) | (simp only [DZ]; omega)) only [RUN]) fun o3 M3 wf3 le3 kp3 sn3 nr3 wm3 di3 sz3=>?_
   have z0 : M3.get 0 = some (.row false (lbR v)):=by
    rw [kp3 0 (by show 0 < 1; omega)]
    simp (maxSteps:=2000000) (disch:=first | omega | assumption | (simp only [DS,Nat.reduceAdd, *]; done) | (simp only [DZ]; omega)) only [RUN]
   have on3:=sn3.slm.one
   have oc3:=sn3.slm.cells
   have rl3:=zAV sn3.slm.rl (Nat.le_refl M3.size)
   have lz:=Mem.get_lt z0
   simp (maxSteps:=2000000) (disch:=first | omega | assumption | (simp only [DS,Nat.reduceAdd, *]; done) | (simp only [DZ]; omega)) only [RUN,RU,zA2,zA1,reduceIte,Nat.reduceEqDiff]
   refine zPC (d:=d + 6) sn3 hl (by omega) wf3 z0 (fun h=>by have:=nr3 0 h; exact absurd this (by show ¬(1 ≤ 0); omega)) fun o4 N hz4 w4 le4 k4 r4=>?_
   have on4:=hz4.one
   have oc4:=hz4.cells
   have rl4:=hz4.rl (Nat.le_refl N.size)
   simp (maxSteps:=2000000) (disch:=first | omega | assumption | (simp only [DS,Nat.reduceAdd, *]; done) | (simp only [DZ]; omega)) only [RUN,RU,zA2,zA1,reduceIte,Nat.reduceEqDiff]
   refine zWQ (n:=d + 9) (R:=fun r=>Sl 10 isRn r (upTo v l)) tf26 rfl hz4 w4 zCE (fun a' ha'=>?_) fun r X' hr wX' sX' kX'=>?_
   ·refine zEP (d:=d + 1) ha' (Nat.le_trans (List.length_filter_le _ _) (by omega)) (fun q hq=>?_) (by have:=List.length_filter_le (fun r : Rn=>r.sp.f.hd.lb.leq v) l; omega)
    have:=zED hok.1 q (List.mem_filter.1 hq).1
    omega
   ·have orr:=hr.one
    simp (maxSteps:=2000000) (disch:=first | omega | assumption | (simp only [DS,Nat.reduceAdd, *]; done) | (simp only [DZ]; omega)) only [RUN,RU,zA2,zA1,zA0,zAB,frzL,reduceIte,Nat.reduceEqDiff,hr.fz.frz]
    exact ⟨r,hr,rfl⟩
 ·have e8 : upE l v = 8:=by rw [hiE,if_neg h8]
  have hz : imax (err (zD6 l)) (err v.may) = 8:=by
   cases ma : zD6 l <;> cases mb : v.may <;> first | rfl | exact absurd ⟨ma,mb⟩ h8
  rw [e8]
  simp (maxSteps:=2000000) (disch:=first | omega | assumption | (simp only [DS,Nat.reduceAdd, *]; done) | (simp only [DZ]; omega)) only [RUN,RU,zA2,zA1,zA0,zAB,frzL,slot,reduceIte,Nat.reduceEqDiff,Nat.reduceBEq,Nat.reduceAdd,Int.reduceEq,h0,h1,hck,hlc,hz,zCF,BMM]
  exact ⟨NIL,.inl ⟨rfl,rfl⟩,rfl⟩
end Go.Proofs.YteognbdgdcjeeaaGreat
namespace Go.Proofs.YteognbdgdcjeeaaGreat
open Go Go.Ax
variable {fuel : Nat} {M : Mem} {Q : AV → Mem → Prop} {d : Nat} {l : List Op} {a ra : AV} {v : Lb} {o : Op}
def zQW (l : List Op) (o : Op) : Int:=if zB6 [] l = true then (if o.may = true then fitE l o else 8) else 8
set_option maxHeartbeats 4000000 in
theorem zMG (hS : Sl 17 isOp a l) (hl : l.length ≤ 10000) (hf : l.length + 400 < fuel) (hR : Sl 1 zB1 ra o.rs) (ho : o.ok) (M : Mem) : zAE Tryz.prog (fsT tbl) fuel (d + 14) (.fn 10) [a,.agg (opR o ra)] M = some (I64 (zQW l o),M):=by
 have ora:=hR.one
 have hck:=fun M=>@zD2 fuel (d + 6) o ra hR ho (by omega) M
 apply zBN
 refine zAJ tf10 rfl (by simp only [icyL,fun M=>hS.icy M 12 (by omega),zHW hR.fz]) (by simp [a10]) fun b' ht hx=>?_
 have h0:=hx 0 _ rfl
 have h1:=hx 1 _ rfl
 clear hx
 simp only [a10,c10] at ht ⊢
 unfold zQW
 simp (maxSteps:=2000000) (disch:=first | omega | assumption | (simp only [DS,Nat.reduceAdd, *]; done) | (simp only [DZ]; omega)) only [RUN,RU,zA2,zA1,reduceIte,Nat.reduceEqDiff,h0,h1]
 refine of_0 (d:=d) hS hl hf (Wf.mem0.add _) (Nat.zero_le _) (fun N w s k hh=>?_) (fun N ops w s wm k hh hH htl=>?_)
 ·rw [if_neg (by rw [hh]; decide)]
  simp (maxSteps:=2000000) (disch:=first | omega | assumption | (simp only [DS,Nat.reduceAdd, *]; done) | (simp only [DZ]; omega)) only [RUN,RU,zA2,zA1,zA0,zAB,frzL,reduceIte,Nat.reduceEqDiff]
 ·rw [if_pos hh]
  have g0 : N.get 0 = some (.row false (opR o ra)):=by rw [k 0 (by simp (maxSteps:=2000000) (disch:=first | omega | assumption | (simp only [DS,Nat.reduceAdd, *]; done) | (simp only [DZ]; omega)) only [RUN,RU,Nat.reduceLT])]; simp (maxSteps:=2000000) (disch:=first | omega | assumption | (simp only [DS,Nat.reduceAdd, *]; done) | (simp only [DZ]; omega)) only [RUN]
  have l0:=Mem.get_lt g0
  cases hm : o.may with
  | false =>
   rw [hm] at hck
   simp (maxSteps:=2000000) (disch:=first | omega | assumption | (simp only [DS,Nat.reduceAdd, *]; done) | (simp only [DZ]; omega)) only [RUN,RU,zA2,zA1,zA0,zAB,frzL,slot,reduceIte,Nat.reduceEqDiff,Nat.reduceAdd,Int.reduceEq,g0,hck,zBF,Bool.false_eq_true,if_false]
  | true =>
   rw [hm] at hck
   simp (maxSteps:=2000000) (disch:=first | omega | assumption | (simp only [DS,Nat.reduceAdd, *]; done) | (simp only [DZ]; omega)) only [RUN,RU,zA2,zA1,slot,reduceIte,Nat.reduceEqDiff,Nat.reduceAdd,g0,hck,zAX,if_true]
   refine zX3 (d:=d + 1) hH (by omega) (by omega) hR ho hm (by omega) w (by rw [wm]; exact Nat.zero_le _) fun N2 hN2=>?_
   simp (maxSteps:=2000000) (disch:=first | omega | assumption | (simp only [DS,Nat.reduceAdd, *]; done) | (simp only [DZ]; omega)) only [RUN,RU,zA2,zA1,zA0,zAB,frzL,reduceIte,Nat.reduceEqDiff]
end Go.Proofs.YteognbdgdcjeeaaGreat
namespace Go.Proofs.YteognbdgdcjeeaaGreat
open Go Go.Ax
variable {fuel : Nat} {M : Mem} {Q : AV → Mem → Prop} {d : Nat} {l : List Op} {a : AV}
def wO (o : Op) : Int:=imax (imin (imax o.sp.n 0) 100) (imin (o.rs.length : Int) 1000)
def sumW (l : List Op) : Int:=(l.map wO).sum
def zKZ (l : List Op) (many : Int) : Bool:=decide (many < l.length) || decide (300 < sumW (l.take 300))
theorem zP0 (o : Op) : 0 ≤ wO o ∧ wO o ≤ 1000 ∧ ((o.rs.length : Int) ≤ wO o ∨ 1000 ≤ wO o):=by
 unfold wO imax imin
 repeat' split
 all_goals omega
theorem sumW_snoc (l : List Op) (o : Op) : sumW (l ++ [o]) = sumW l + wO o:=by unfold sumW; simp
theorem zKF : ∀ (l : List Op),0 ≤ sumW l ∧ sumW l ≤ 1000 * l.length
 | []=>by simp [sumW]
 | o :: l=>by
  have h1:=zKF l
  have h2:=zP0 o
  unfold sumW at *
  simp only [List.map_cons,List.sum_cons,List.length_cons]
  omega
theorem zOZ : ∀ (l : List Op) (o : Op),o ∈ l → wO o ≤ sumW l
 | [],_,h=>by cases h
 | p :: l,o,h=>by
  have h1:=zKF l
  have h2:=zP0 p
  rcases List.mem_cons.1 h with rfl | h
  ·unfold sumW at *; simp only [List.map_cons,List.sum_cons]; omega
  ·have:=zOZ l o h
   unfold sumW at *; simp only [List.map_cons,List.sum_cons]; omega
theorem zMS {many : Int} (hm : many ≤ 300) (h : zKZ l many = false) : (l.length : Int) ≤ many ∧ ∀ o ∈ l,o.rs.length ≤ 300:=by
 unfold zKZ at h
 simp only [Bool.or_eq_false_iff,decide_eq_false_iff_not] at h
 refine ⟨by omega,fun o ho=>?_⟩
 have ht : l.take 300 = l:=List.take_of_length_le (by omega)
 rw [ht] at h
 have:=zOZ l o ho
 have:=zP0 o
 omega
set_option maxHeartbeats 4000000 in
theorem zRK {many : Int} (hS : Sl 17 isOp a l) (hf : 400 < fuel) (M : Mem) : zAE Tryz.prog (fsT tbl) fuel (d + 1) (.fn 5) [a,I64 many] M = some (BL (zKZ l many),M):=by
 have ll:=hS.len
 apply zBN
 refine zAJ tf5 rfl (by simp only [icyL,fun M=>hS.icy M 12 (by omega),zRP]) (by simp [a5]) fun b' ht hx=>?_
 have h0:=hx 0 _ rfl
 have h1:=hx 1 _ rfl
 clear hx
 simp only [a5,c5] at ht ⊢
 unfold zKZ
 simp (maxSteps:=2000000) (disch:=first | omega | assumption | (simp only [DS,Nat.reduceAdd, *]; done) | (simp only [DZ]; omega)) only [RUN,RU,zA2,zA1]
 refine zBQ (I:=fun n t N => ∃ (i : Nat),n = 300 - i ∧ i ≤ 300 ∧ nth zA9 t 0 = a ∧ nth zA9 t 1 = I64 many ∧ nth zA9 t 5 = I64 (sumW (l.take i)) ∧ nth zA9 t 6 = I64 i ∧ N = mem0 ∧ i ≤ l.length) (n:=300) (by omega) ?_ ?_
 ·refine ⟨0,rfl,Nat.zero_le _, ?_, ?_, ?_, ?_,rfl,Nat.zero_le _⟩ <;> simp (maxSteps:=2000000) (disch:=first | omega | assumption | (simp only [DS,Nat.reduceAdd, *]; done) | (simp only [DZ]; omega)) only [RUN,RU,reduceIte,Nat.reduceEqDiff,h0,h1]
  all_goals first | rfl | assumption | done
 ·rintro n t N hlt ⟨i,rfl,hi,g0,g1,g5,g6,hm,hil⟩
  simp only [ht] at hlt ⊢
  subst hm
  by_cases hc : i < l.length
  ·have q1 : decide ((i : Int) < l.length) = true:=decide_eq_true (by omega)
   by_cases hc3 : i < 300
   ·have q2 : decide ((i : Int) < 300) = true:=decide_eq_true (by omega)
    have w1 : IntKind.i64.wrap ((i : Int) + 1) = ((i + 1 : Nat) : Int):=by rw [wrap_i64] <;> omega
    obtain ⟨r,hiad,hr,hrl⟩:=hS.iad i hc
    have hsn:=sumW_snoc (l.take i) l[i]
    rw [← take_snoc l i hc] at hsn
    have hps:=zKF (l.take i)
    rw [List.length_take] at hps
    have hwo:=zP0 l[i]
    generalize l[i] = e at *
    obtain ⟨ra,rfl,hra,hok⟩:=hr
    have lra:=hra.len
    have w2 : IntKind.i64.wrap (sumW (l.take i) + wO e) = sumW (l.take (i + 1)):=by rw [hsn]; exact wrap_i64 (by omega) (by omega)
    simp (maxSteps:=2000000) (disch:=first | omega | assumption | (simp only [DS,Nat.reduceAdd, *]; done) | (simp only [DZ]; omega)) only [RUN,RU,zA2,zA1,reduceIte,Nat.reduceEqDiff,Nat.reduceBEq,Nat.reduceAdd,g0,g1,g5,g6,ll,q1,q2,w1,hiad,lra,zCF,BMM]
    refine ⟨hlt,300 - (i + 1),by omega,i + 1,rfl,by omega, ?_,rfl,by omega⟩
    show AV.sc (.int .i64 (IntKind.i64.wrap (sumW (l.take i) + wO e))) = I64 _
    rw [w2]
   ·have q2 : decide ((i : Int) < 300) = false:=decide_eq_false (by omega)
    obtain rfl : i = 300:=by omega
    cases q3 : decide (many < (l.length : Int))
    all_goals simp (maxSteps:=2000000) (disch:=first | omega | assumption | (simp only [DS,Nat.reduceAdd, *]; done) | (simp only [DZ]; omega)) only [RUN,RU,zA2,zA1,zA0,zAB,frzL,reduceIte,Nat.reduceEqDiff,Nat.reduceSub,g0,g1,g5,g6,ll,q1,q2,q3]
  ·have q1 : decide ((i : Int) < l.length) = false:=decide_eq_false (by omega)
   obtain rfl : i = l.length:=by omega
   have et : l.take 300 = l.take l.length:=by rw [List.take_of_length_le (Nat.le_refl _),List.take_of_length_le (by omega)]
   rw [et]
   cases q3 : decide (many < (l.length : Int))
   all_goals simp (maxSteps:=2000000) (disch:=first | omega | assumption | (simp only [DS,Nat.reduceAdd, *]; done) | (simp only [DZ]; omega)) only [RUN,RU,zA2,zA1,zA0,zAB,frzL,reduceIte,Nat.reduceEqDiff,g0,g1,g5,g6,ll,q3]
end Go.Proofs.YteognbdgdcjeeaaGreat
namespace Go.Proofs.YteognbdgdcjeeaaGreat
open Go Go.Ax
theorem zaO : zRV (zAE Tryz.prog (fsT tbl) 4000000 60 (.fn 4) [] mem0) = true:=by kernel_rfl
theorem zQC (M : Mem) : zAE Tryz.prog (fsT tbl) 4000000 60 (.fn 4) [] M = some (BL true,M):=zME tf4 rfl zaO M
end Go.Proofs.YteognbdgdcjeeaaGreat
namespace Go.Proofs.YteognbdgdcjeeaaGreat
open Go Go.Ax
variable {fuel : Nat} {M : Mem} {Q : AV → Mem → Prop} {d : Nat} {l : List Op} {a ra : AV} {x : Eid} {v : Lb} {o : Op}
theorem zNI {t : List Rn} (h : zCJ t) : ∀ e ∈ t,e.rs.length ≤ 1000000 ∧ e.rs.length < 4000000:=fun e he=>by
 have:=(Rn.may_iff.1 (h.1 e he)).2.2.2.1
 omega
theorem zQX (h : zQW l o = 0) (hh : zB6 [] l = true) : o.may = true ∧ fitE l o = 0:=by
 unfold zQW at h
 rw [if_pos hh] at h
 split at h
 ·exact ⟨by assumption,h⟩
 ·cases h
set_option maxHeartbeats 16000000 in
theorem zMH (hS : Sl 17 isOp a l) (hR : Sl 1 zB1 ra o.rs) (ho : o.ok) (M : Mem) : zAE Tryz.prog (fsT tbl) 4000000 61 (.fn 3) [a,.agg (opR o ra),idA x,lbA v] M = some (BL true,M):=by
 have ll:=hS.len
 have lra:=hR.len
 have ora:=hR.one
 have hal:=zQC
 have hgr:=fun M=>zRK (fuel:=4000000) (d:=59) (many:=25) hS (by omega) M
 apply zBN
 refine zAJ tf3 rfl (by simp only [icyL,fun M=>hS.icy M 12 (by omega),zHW hR.fz,zBE (zE0 x) (show 1 < 12 by omega),zBE (zEU v) (show 1 < 12 by omega)]) (by simp [a3]) fun b' ht hx=>?_
 have h0:=hx 0 _ rfl
 have h1:=hx 1 _ rfl
 have h2:=hx 2 _ rfl
 have h3:=hx 3 _ rfl
 clear hx
 simp only [a3,c3] at ht ⊢
 cases q1 : zKZ l 25 with
 | true =>
  rw [q1] at hgr
  simp (maxSteps:=2000000) (disch:=first | omega | assumption | (simp only [DS,Nat.reduceAdd, *]; done) | (simp only [DZ]; omega)) only [RUN,RU,zA2,zA1,zA0,zAB,frzL,reduceIte,Nat.reduceEqDiff,Nat.reduceAdd,h0,h1,h2,h3,hal,hgr]
 | false =>
  rw [q1] at hgr
  obtain ⟨hl25,hrs⟩:=zMS (by omega) q1
  have hrs2 : ∀ o ∈ l,o.rs.length ≤ 1000000000:=fun o ho=>by have:=hrs o ho; omega
  cases q2 : decide ((300 : Int) < o.rs.length) with
  | true=>simp (maxSteps:=2000000) (disch:=first | omega | assumption | (simp only [DS,Nat.reduceAdd, *]; done) | (simp only [DZ]; omega)) only [RUN,RU,zA2,zA1,zA0,zAB,frzL,reduceIte,Nat.reduceEqDiff,Nat.reduceAdd,h0,h1,h2,h3,hal,hgr,lra,q2]
  | false =>
   obtain ⟨ro,⟨r2,rfl,hr2⟩,hon⟩:=zVU (fuel:=4000000) (d:=45) (v:=v) hS (by omega) (by omega) hrs2
   obtain ⟨rt,⟨r3,rfl,hr3⟩,htx⟩:=zKH (fuel:=4000000) (d:=45) hS (by omega) (by omega)
   cases q3 : zB6 [] l && v.may with
   | false =>
    have e1 : zN2 l v = 8:=by unfold zN2; rw [q3]; rfl
    rw [e1] at hon
    simp (maxSteps:=2000000) (disch:=first | omega | assumption | (simp only [DS,Nat.reduceAdd, *]; done) | (simp only [DZ]; omega)) only [RUN,RU,zA2,zA1,zA0,zAB,frzL,slot,reduceIte,Nat.reduceEqDiff,Nat.reduceAdd,Int.reduceEq,h0,h1,h2,h3,hal,hgr,lra,q2,hon,htx]
   | true =>
    have e1 : zN2 l v = 0:=by unfold zN2; rw [q3]; rfl
    obtain ⟨q4,q5⟩:=(Bool.and_eq_true _ _).mp q3
    rw [e1] at hon hr2
    rw [q4] at htx hr3
    simp only [if_true] at hr2 hr3
    have hlow:=zMY l v
    have q4l:=zL0 v q4
    obtain ⟨rt4,⟨r4,rfl,hr4⟩,htx4⟩:=zKH (fuel:=4000000) (d:=45) hr2 (by omega) (by omega)
    rw [q4l] at htx4 hr4
    simp only [if_true] at hr4
    obtain ⟨t1,t2⟩:=zWO q4 (zcB hS) v
    have hT:=zDL q4
    have htl:=zH1 l
    obtain ⟨r5,hr5,hto⟩:=zTA (fuel:=4000000) (d:=49) (v:=v) hr3 (by omega) (by omega)
    have e2 : upE (textOf l) v = 0:=by unfold upE; rw [if_pos ⟨hT.ok,q5⟩,if_pos t2]
    unfold upR at hr5
    rw [e2] at hto hr5
    simp only [if_true] at hr5
    rw [← t1] at hr5
    have hTl:=zDL q4l
    have htll:=zH1 (lowL l v)
    have hs1:=fun M=>zFW (fuel:=4000000) (d:=56) hr4 hr5 (by omega) (zNI hTl.ok) (by omega) M
    rw [zEG.2 rfl] at hs1
    have hft:=fun M=>zMG (fuel:=4000000) (d:=46) hS (by omega) (by omega) hR ho M
    by_cases q6 : zQW l o = 0
    ·have q6':=decide_eq_true q6
     obtain ⟨q7,q8⟩:=zQX q6 q4
     have q9 : zB6 [] (l ++ [o]) = true:=by rw [zHK,q4,q7,q8]; rfl
     have hTm:=zDL q9
     have htm:=zDZ l o
     have html:=zH1 (l ++ [o])
     rw [List.length_append,List.length_singleton] at html
     simp (maxSteps:=2000000) (disch:=first | omega | assumption | (simp only [DS,Nat.reduceAdd, *]; done) | (simp only [DZ]; omega)) only [RUN,RU,zA2,zA1,slot,reduceIte,Nat.reduceEqDiff,Nat.reduceAdd,h0,h1,h2,h3,hS.fz.rows,hal,hgr,lra,q2,hon,htx,htx4,hto,hs1,hft,q6,zAX]
     refine zXV (bytes:=112) (by simp (maxSteps:=2000000) (disch:=first | omega | assumption | (simp only [DS,Nat.reduceAdd, *]; done) | (simp only [DZ]; omega)) only [RUN]) SlM.nil zKY.cel hS (by omega) (by simp; omega) (by simp; omega) fun o1 M1 m1 w1 le1 sz1 kp1 nw1 wm1 rl1 on1 oc1=>?_
     have g0:=kp1 0 (by simp only [zA7,zB5]; omega) (by simp [rowOf])
     have g1:=kp1 1 (by simp only [zA7,zB5]; omega) (by simp [rowOf])
     have nn1 : ∀ id,rowOf o1 = some id → 3 ≤ id:=fun id h=>by
      rcases nw1 id h with h' | h'
      ·cases h'
      ·simp only [zA7,zB5] at h'; exact h'
     simp only [zA7,zB5,Nat.reduceAdd] at le1
     simp (maxSteps:=2000000) (disch:=first | omega | assumption | (simp only [DS,Nat.reduceAdd, *]; done) | (simp only [DZ]; omega)) only [RUN] at g0 g1
     clear kp1 nw1 sz1
     rw [List.nil_append] at m1
     have ap0:=@zTR 0 3 M1.size (by omega)
     have rl1':=zAV m1.rl (Nat.le_succ M1.size)
     simp (maxSteps:=2000000) (disch:=first | omega | assumption | (simp only [DS,Nat.reduceAdd, *]; done) | (simp only [DZ]; omega)) only [RUN,RU,zA2,slot,lay,zAI,zA6,reduceIte,Nat.reduceEqDiff,Nat.reduceBEq,Nat.reduceAdd,g0,rl1',ap0,zTQ]
     refine app1 (bytes:=112) (x:=o) w1 m1 zKY ⟨ra,rfl,hR,ho⟩ rfl (by omega) (by omega) (by omega) fun o2 M2 m2 w2 le2 kp2 nw2 wm2 rl2 on2 oc2=>?_
     have k0:=(kp2 0 (by omega) (fun h=>by have:=nn1 _ h; omega)).trans g0
     have k1:=(kp2 1 (by omega) (fun h=>by have:=nn1 _ h; omega)).trans g1
     have nn2 : ∀ id,rowOf o2 = some id → 3 ≤ id:=fun id h=>by
      rcases nw2 id h with h' | h'
      ·exact nn1 id h'
      ·omega
     clear kp2 nw2
     simp (maxSteps:=2000000) (disch:=first | omega | assumption | (simp only [DS,Nat.reduceAdd, *]; done) | (simp only [DZ]; omega)) only [RUN,RU,zA2,zA1,reduceIte,Nat.reduceEqDiff,Nat.reduceAdd]
     refine SlR.hand (rest:=[]) (n:=59) (R:=za3 (l ++ [o])) tf7 rfl (SlR.of m2) w2 zKY (fun M=>rfl) (fun a' ha'=>zKH (d:=45) ha' (by simp; omega) (by omega)) fun r M3 hr w3 s3 m3 k3=>?_
     obtain ⟨r6,rfl,hr6⟩:=hr
     rw [q9] at hr6
     simp only [if_true] at hr6
     have g30:=(k3 0 (fun h=>by have:=nn2 _ h; omega)).trans k0
     have g31:=(k3 1 (fun h=>by have:=nn2 _ h; omega)).trans k1
     have l30:=Mem.get_lt g30
     have l31:=Mem.get_lt g31
     have hgo : ∀ M,zAE Tryz.prog (fsT tbl) 4000000 60 (.fn 11) [a,.agg [U8 x.hd.lb.lv,U32 x.hd.lb.cats,U8 x.hd.num,I64 x.c]] M = some (.tup [BL (zHJ l x),I64 0],M):=fun M=>by
      have:=zO1 (fuel:=4000000) (d:=45) (x:=x) hS (by omega) (by omega) M
      rw [q4] at this
      exact this
     simp (maxSteps:=2000000) (disch:=first | omega | assumption | (simp only [DS,Nat.reduceAdd, *]; done) | (simp only [DZ]; omega)) only [RUN,RU,zA2,zA1,slot,reduceIte,Nat.reduceEqDiff,h0,q9,zAX,g31,hgo]
     refine SlR.hand (rest:=[idA x]) (n:=59) (R:=fun r=>r = .tup [BL (zHJ (l ++ [o]) x),I64 0]) tf11 rfl m3 w3 zKY (fun M=>by simp only [icyL,zBE (zE0 x) (show 1 < 12 by omega)]) (fun a' ha'=>⟨_,rfl,fun M=>by
      have:=zO1 (fuel:=4000000) (d:=45) (x:=x) ha' (by simp; omega) (by simp; omega) M
      rw [q9] at this
      exact this⟩) fun r M4 hr w4 s4 m4 k4=>?_
     subst hr
     have g40:=(k4 0 (fun h=>by have:=nn2 _ h; omega)).trans g30
     have l40:=Mem.get_lt g40
     have hgm : zHJ (l ++ [o]) x = false → zHJ l x = false:=fun h=>by
      rw [zUY] at h
      exact (Bool.or_eq_false_iff.1 h).1
     by_cases qk : o.kd = 1
     ·have qk':=decide_eq_true qk
      obtain ⟨hput,hrof⟩:=(hT.step q8 q7).2 qk
      obtain ⟨r7,hr7,hins⟩:=zIV (fuel:=4000000) (d:=49) (x:=o.rn) hr3 hR (zXS ho) (by omega) (by omega)
      have hins' : ∀ M,zAE Tryz.prog (fsT tbl) 4000000 60 (.fn 12) [r3,.agg [U8 o.sp.f.hd.lb.lv,U32 o.sp.f.hd.lb.cats,U8 o.sp.f.hd.num,I64 o.sp.f.c,I64 o.sp.n,U8 o.af.hd.lb.lv,U32 o.af.hd.lb.cats,U8 o.af.hd.num,I64 o.af.c,ra]] M = some (.tup [r7,I64 0],M):=fun M=>by
       have:=hins M
       rw [hput] at this
       exact this
      unfold insR at hr7
      rw [if_pos hput] at hr7
      unfold stepT at htm
      rw [if_pos hrof] at htm
      rw [← htm] at hr7
      have hs2:=fun M=>zFW (fuel:=4000000) (d:=56) hr6 hr7 (by omega) (zNI hTm.ok) (by omega) M
      rw [zEG.2 rfl] at hs2
      simp (maxSteps:=2000000) (disch:=first | omega | assumption | (simp only [DS,Nat.reduceAdd, *]; done) | (simp only [DZ]; omega)) only [RUN,RU,zA2,zA1,slot,lay,zAI,reduceIte,Nat.reduceEqDiff,Nat.reduceBEq,Nat.reduceAdd,g40,qk',hR.fz.cells]
      simp (maxSteps:=2000000) (disch:=first | omega | assumption | (simp only [DS,Nat.reduceAdd, *]; done) | (simp only [DZ]; omega)) only [RUN,RU,zA2,zA1,reduceIte,Nat.reduceEqDiff,hins']
      cases gm : zHJ (l ++ [o]) x with
      | true=>simp (maxSteps:=2000000) (disch:=first | omega | assumption | (simp only [DS,Nat.reduceAdd, *]; done) | (simp only [DZ]; omega)) only [RUN,RU,zA2,zA1,zA0,zAB,frzL,reduceIte,Nat.reduceEqDiff,hs2]
      | false =>
       have g5:=hgm gm
       simp (maxSteps:=2000000) (disch:=first | omega | assumption | (simp only [DS,Nat.reduceAdd, *]; done) | (simp only [DZ]; omega)) only [RUN,RU,zA2,zA1,zA0,zAB,frzL,reduceIte,Nat.reduceEqDiff,hs2,g5]
     ·have qk':=decide_eq_false qk
      have hrof : ¬rofE o = 0:=fun h=>qk (zJ6 h).2.1
      unfold stepT at htm
      rw [if_neg hrof] at htm
      rw [htm] at hr6
      have hs2:=fun M=>zFW (fuel:=4000000) (d:=56) hr6 hr3 (by omega) (zNI hT.ok) (by omega) M
      rw [zEG.2 rfl] at hs2
      cases gm : zHJ (l ++ [o]) x with
      | true=>simp (maxSteps:=2000000) (disch:=first | omega | assumption | (simp only [DS,Nat.reduceAdd, *]; done) | (simp only [DZ]; omega)) only [RUN,RU,zA2,zA1,zA0,zAB,frzL,reduceIte,Nat.reduceEqDiff,g40,qk',hs2]
      | false =>
       have g5:=hgm gm
       simp (maxSteps:=2000000) (disch:=first | omega | assumption | (simp only [DS,Nat.reduceAdd, *]; done) | (simp only [DZ]; omega)) only [RUN,RU,zA2,zA1,zA0,zAB,frzL,reduceIte,Nat.reduceEqDiff,g40,qk',hs2,g5]
    ·have q6':=decide_eq_false q6
     simp (maxSteps:=2000000) (disch:=first | omega | assumption | (simp only [DS,Nat.reduceAdd, *]; done) | (simp only [DZ]; omega)) only [RUN,RU,zA2,zA1,zA0,zAB,frzL,slot,reduceIte,Nat.reduceEqDiff,Nat.reduceAdd,h0,h1,h2,h3,hal,hgr,lra,q2,hon,htx,htx4,hto,hs1,hft,q6',zAX]
end Go.Proofs.YteognbdgdcjeeaaGreat
namespace Go.Proofs.YteognbdgdcjeeaaGreat
open Go Go.Ax
abbrev gLb : GT:=.ag [.int .u8,.int .u32]
abbrev gHd : GT:=.ag [gLb,.int .u8]
abbrev gId : GT:=.ag [gHd,.int .i64]
abbrev gSp : GT:=.ag [gId,.int .i64]
abbrev gOp : GT:=.ag [.int .u8,gHd,.int .i64,gSp,gId,gLb,.sl (.int .i32)]
theorem zEX {n : Int} (h : (Lit.int .u8 n).wf = true) : 0 ≤ n ∧ n ≤ 255:=by
 simp [Lit.wf,IntKind.min,IntKind.max,IntKind.signed,IntKind.bits] at h
 omega
theorem zGD {n : Int} (h : (Lit.int .u32 n).wf = true) : 0 ≤ n ∧ n < 4294967296:=by
 simp [Lit.wf,IntKind.min,IntKind.max,IntKind.signed,IntKind.bits] at h
 omega
theorem zK8 {n : Int} (h : (Lit.int .i64 n).wf = true) : i64R n:=by
 simp [Lit.wf,IntKind.min,IntKind.max,IntKind.signed,IntKind.bits] at h
 unfold i64R
 omega
def zRT (r : List AV) (x : Int) : Prop:=zB1 r x ∧ (-2147483648 ≤ x ∧ x ≤ 2147483647)
theorem zbR (r : List AV) (h : Is (.int .i32) r) : ∃ x,zRT r x:=by
 simp only [Is] at h
 obtain ⟨n,rfl,hw⟩:=h
 refine ⟨n,rfl, ?_⟩
 simp [Lit.wf,IntKind.min,IntKind.max,IntKind.signed,IntKind.bits] at hw
 omega
theorem zNQ : ∀ {rows : List (List AV)} {l : List Int},All2 zRT rows l → All2 zB1 rows l ∧ i32s l
 | _,_,.nil=>⟨.nil,fun x h=>by cases h⟩
 | _,_,.cons a t=>by
  obtain ⟨h1,h2⟩:=zNQ t
  refine ⟨.cons a.1 h1,fun x h=>?_⟩
  rcases List.mem_cons.1 h with rfl | h
  ·exact a.2
  ·exact h2 x h
theorem zcT {a : AV} {l : List Int} (h : Sl 1 zRT a l) : Sl 1 zB1 a l ∧ i32s l:=by
 rcases h with ⟨rfl,rfl⟩ | ⟨rows,cap,rfl,hA,hr⟩
 ·exact ⟨.inl ⟨rfl,rfl⟩,fun x h=>by cases h⟩
 ·obtain ⟨h1,h2⟩:=zNQ hA
  exact ⟨.inr ⟨rows,cap,rfl,h1,hr⟩,h2⟩
theorem zVR {r : List AV} (h : Is (.sl (.int .i32)) r) : ∃ a l,r = [a] ∧ Sl 1 zB1 a l ∧ i32s l:=by
 obtain ⟨a,l,e,hs⟩:=Is.slice zbR h
 obtain ⟨h1,h2⟩:=zcT hs
 exact ⟨a,l,e,h1,h2⟩
theorem of_lb (r : List AV) (h : Is gLb r) : ∃ x,isLb r x:=by
 simp only [Is,IsL] at h
 obtain ⟨_,_,rfl,⟨n1,rfl,w1⟩,_,_,rfl,⟨n2,rfl,w2⟩,rfl⟩:=h
 exact ⟨⟨n1,n2⟩,rfl,(zEX w1).1,(zEX w1).2,(zGD w2).1,(zGD w2).2⟩
theorem zbS (r : List AV) (h : Is gOp r) : ∃ x,isOp r x:=by
 simp only [Is,IsL] at h
 obtain ⟨_,_,rfl,⟨n1,rfl,w1⟩,_,_,rfl,⟨_,_,rfl,⟨_,_,rfl,⟨n2,rfl,w2⟩,_,_,rfl,⟨n3,rfl,w3⟩,rfl⟩,_,_,rfl,⟨n4,rfl,w4⟩,rfl⟩,_,_,rfl,⟨n5,rfl,w5⟩,_,_,rfl,⟨_,_,rfl,⟨_,_,rfl,⟨_,_,rfl,⟨_,_,rfl,⟨n6,rfl,w6⟩,_,_,rfl,⟨n7,rfl,w7⟩,rfl⟩,_,_,rfl,⟨n8,rfl,w8⟩,rfl⟩,_,_,rfl,⟨n9,rfl,w9⟩,rfl⟩,_,_,rfl,⟨n10,rfl,w10⟩,rfl⟩,_,_,rfl,⟨_,_,rfl,⟨_,_,rfl,⟨_,_,rfl,⟨n11,rfl,w11⟩,_,_,rfl,⟨n12,rfl,w12⟩,rfl⟩,_,_,rfl,⟨n13,rfl,w13⟩,rfl⟩,_,_,rfl,⟨n14,rfl,w14⟩,rfl⟩,_,_,rfl,⟨_,_,rfl,⟨n15,rfl,w15⟩,_,_,rfl,⟨n16,rfl,w16⟩,rfl⟩,_,_,rfl,hr,rfl⟩:=h
 have r1 : 0 ≤ n1 ∧ n1 ≤ 255:=by exact zEX w1
 have r2 : 0 ≤ n2 ∧ n2 ≤ 255:=by exact zEX w2
 have r3 : 0 ≤ n3 ∧ n3 < 4294967296:=by exact zGD w3
 have r4 : 0 ≤ n4 ∧ n4 ≤ 255:=by exact zEX w4
 have r5 : i64R n5:=by exact zK8 w5
 have r6 : 0 ≤ n6 ∧ n6 ≤ 255:=by exact zEX w6
 have r7 : 0 ≤ n7 ∧ n7 < 4294967296:=by exact zGD w7
 have r8 : 0 ≤ n8 ∧ n8 ≤ 255:=by exact zEX w8
 have r9 : i64R n9:=by exact zK8 w9
 have r10 : i64R n10:=by exact zK8 w10
 have r11 : 0 ≤ n11 ∧ n11 ≤ 255:=by exact zEX w11
 have r12 : 0 ≤ n12 ∧ n12 < 4294967296:=by exact zGD w12
 have r13 : 0 ≤ n13 ∧ n13 ≤ 255:=by exact zEX w13
 have r14 : i64R n14:=by exact zK8 w14
 have r15 : 0 ≤ n15 ∧ n15 ≤ 255:=by exact zEX w15
 have r16 : 0 ≤ n16 ∧ n16 < 4294967296:=by exact zGD w16
 obtain ⟨ra,l,e,hs,hi⟩:=zVR (r:=_) (by simp only [Is]; exact hr)
 subst e
 exact ⟨⟨n1,⟨⟨n2,n3⟩,n4⟩,n5,⟨⟨⟨⟨n6,n7⟩,n8⟩,n9⟩,n10⟩,⟨⟨⟨n11,n12⟩,n13⟩,n14⟩,⟨n15,n16⟩,l⟩,ra,rfl,hs,r1,⟨⟨r2.1,r2.2,r3.1,r3.2⟩,r4⟩,r5,⟨⟨⟨⟨r6.1,r6.2,r7.1,r7.2⟩,r8⟩,r9⟩,r10⟩,⟨⟨⟨r11.1,r11.2,r12.1,r12.2⟩,r13⟩,r14⟩,⟨r15.1,r15.2,r16.1,r16.2⟩,hi⟩
end Go.Proofs.YteognbdgdcjeeaaGreat
namespace Go.Proofs.YteognbdgdcjeeaaGreat.docText
open Go Go.Ax
theorem of_id (r : List AV) (h : Is gId r) : ∃ x : Eid,r = idR x:=by
 simp only [Is,IsL] at h
 obtain ⟨_,_,rfl,⟨_,_,rfl,⟨_,_,rfl,⟨n1,rfl,w1⟩,_,_,rfl,⟨n2,rfl,w2⟩,rfl⟩,_,_,rfl,⟨n3,rfl,w3⟩,rfl⟩,_,_,rfl,⟨n4,rfl,w4⟩,rfl⟩:=h
 exact ⟨⟨⟨⟨n1,n2⟩,n3⟩,n4⟩,rfl⟩
theorem run_args (a0 a1 a2 a3 : AV) (h0 : IsA (.sl gOp) a0) (h1 : IsA gOp a1) (h2 : IsA gId a2) (h3 : IsA gLb a3) : zAE Tryz.prog (fsT tbl) 4000000 61 (.fn 3) [a0,a1,a2,a3] mem0 = some (BL true,mem0):=by
 obtain ⟨a,l,ha,hl⟩:=Is.slice zbS h0
 obtain rfl : a0 = a:=by simpa using ha
 obtain ⟨c1,rfl,h1⟩:=h1
 obtain ⟨o,ra,rfl,hR,ho⟩:=zbS c1 h1
 obtain ⟨c2,rfl,h2⟩:=h2
 obtain ⟨x,rfl⟩:=of_id c2 h2
 obtain ⟨c3,rfl,h3⟩:=h3
 obtain ⟨v,rfl,_⟩:=of_lb c3 h3
 exact zMH hl hR ho mem0
end Go.Proofs.YteognbdgdcjeeaaGreat.docText
