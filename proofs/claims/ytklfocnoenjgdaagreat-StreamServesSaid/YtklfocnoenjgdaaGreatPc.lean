/-
  Texts joined: VsC SaW SaY VsD SaX VuD VuE VqC VqA VqB TrG TrH TrI TrJ TrK TrM TwA TwC VqE.
-/
import Derived.Test.YtklfocnoenjgdaaGreatEf
import Derived.Test.YtklfocnoenjgdaaGreatPb
set_option linter.unusedSimpArgs false
set_option linter.unusedVariables false
set_option maxRecDepth 100000
namespace Go.Proofs.YtklfocnoenjgdaaGreat
open Go Go.Ax
theorem zQC : ∀ {l m : List Op},SimL l m → ∀ x,zGO m x = zGO l x
 | _,_,.nil,_=>rfl
 | _,_,.cons (x:=o) (l:=l) (m:=m) ⟨r,e,_,_⟩ t,x=>by
  have h1:=zQC t x
  subst e
  unfold zGO at *
  rw [List.any_cons,List.any_cons,h1]
theorem zUV {L m : List Op} (h : SimL L m) (hL : zAP [] L = true) (x : Eid) (v : Lb) : zBS m x v = zBS L x v:=by
 unfold zBS askE
 rw [zC7 hL,zC7 (zHL h hL),zQD h]
theorem zUT : ∀ {l m : List Op} {v : Lb},SimL l m → (∀ o ∈ l,o.hd.lb.leq v = true) → lowL m v = m ∧ lowL l v = l
 | _,_,_,.nil,_=>⟨rfl,rfl⟩
 | _,_,v,.cons (x:=o) (l:=l) (m:=m) ⟨r,e,_,_⟩ t,h=>by
  obtain ⟨h1,h2⟩:=zUT t fun p hp=>h p (List.mem_cons_of_mem _ hp)
  have ho:=h o List.mem_cons_self
  subst e
  unfold lowL at *
  rw [List.filter_cons,List.filter_cons,h1,h2,if_pos ho,if_pos ho]
  exact ⟨rfl,rfl⟩
theorem zFA {α β : Type} {R : α → β → Prop} {p : α → Bool} {q : β → Bool} (hp : ∀ x y,R x y → q y = p x) : ∀ {l : List α} {m : List β},All2 R l m → All2 R (l.filter p) (m.filter q)
 | _,_,.nil => .nil
 | _,_,.cons (x:=x) (y:=y) a t=>by
  rw [List.filter_cons,List.filter_cons,hp _ _ a]
  split
  ·exact .cons a (zFA hp t)
  ·exact zFA hp t
theorem zLK {α β γ δ : Type} {R : α → β → Prop} {S : γ → δ → Prop} {f : α → γ} {g : β → δ} (h : ∀ x y,R x y → S (f x) (g y)) : ∀ {l : List α} {m : List β},All2 R l m → All2 S (l.map f) (m.map g)
 | _,_,.nil => .nil
 | _,_,.cons a t => .cons (h _ _ a) (zLK h t)
theorem zS3 {α : Type} : ∀ {l m : List α},All2 (fun x y=>y = x) l m → m = l
 | _,_,.nil=>rfl
 | _,_,.cons a t=>by rw [a,zS3 t]
def zd7 (l : List Op) (v : Lb) (d c : CellV) : Prop:=c.id = d.id ∧ (c.ch = d.ch ∨ (c.ch = -1 ∧ zBS l d.id v = false))
theorem zQK {l : List Op} {v : Lb} {L m : List Op} (hL : zAP [] L = true) (h : All2 (SimB l v) L m) (hv : ∀ o ∈ L,o.hd.lb.leq v = true) : All2 (zd7 l v) (zEN L v) (zEN m v):=by
 have hs:=zQB h
 obtain ⟨h1,h2⟩:=zUT hs hv
 have he:=zaN hL h
 unfold zEN
 rw [h1,h2]
 refine zLK (fun x y hxy=>?_) (zFA (p:=fun x => !zGO L x.id) (q:=fun x => !zGO m x.id) (fun x y hxy=>?_) he)
 ·obtain ⟨e1,_,e3⟩:=hxy
  refine ⟨e1, ?_⟩
  simp only [cellV]
  rw [e1,zUV hs hL]
  cases hsh : zBS L x.id v with
  | false=>simp
  | true=>simpa using e3
 ·rw [hxy.1,zQC hs]
theorem zOL {l : List Op} {v : Lb} (hl : zAP [] l = true) {m : List Op} (h : All2 (SimB l v) (lowL l v) m) : zEN m v = zEN l v:=by
 have hL:=zDR v hl
 have hv:=zQK hL h fun o ho=>(List.mem_filter.1 ho).2
 rw [zYS] at hv
 have hd : ∀ d ∈ zEN l v,zBS l d.id v = false → d.ch = -1:=fun d hd hs=>by
  unfold zEN at hd
  obtain ⟨x,_,rfl⟩:=List.mem_map.1 hd
  have hs : zBS l x.id v = false:=hs
  simp only [cellV]
  rw [zUR hl,hs]
  simp
 have key : ∀ {A B : List CellV},(∀ d ∈ A,zBS l d.id v = false → d.ch = -1) → All2 (zd7 l v) A B → All2 (fun x y=>y = x) A B:=by
  intro A B hA h
  induction h with
  | nil=>exact .nil
  | @cons d c A B a t ih =>
   refine .cons ?_ (ih fun x hx=>hA x (List.mem_cons_of_mem _ hx))
   obtain ⟨e1,e2⟩:=a
   have e3 : c.ch = d.ch:=by
    rcases e2 with e | ⟨e,hs⟩
    ·exact e
    ·rw [e,hA d List.mem_cons_self hs]
   obtain ⟨ci,cc⟩:=c
   obtain ⟨di,dc⟩:=d
   simp only at e1 e3
   rw [e1,e3]
 exact zS3 (key hd hv)
end Go.Proofs.YtklfocnoenjgdaaGreat
namespace Go.Proofs.YtklfocnoenjgdaaGreat
open Go Go.Ax
variable {fuel : Nat} {M : Mem} {Q : AV → Mem → Prop} {d : Nat} {x : Eid} {l : List Op} {o : Op} {ra ops a : AV} {B id m : Nat} {v : Lb}
def hid1 (l : List Op) (o : Op) (v : Lb) (n : Nat) (c : Int) : Int:=if zBS l (o.sp.at n) v then c else -1
def zFY (l : List Op) (o : Op) (v : Lb) : List Int:=o.rs.mapIdx fun n c=>hid1 l o v n c
set_option maxHeartbeats 8000000 in
theorem zb6 {rs : List Int} {n bo bl bv : Nat} (hS : Sl 17 isOp a l) (hl : l.length ≤ 40000) (hf : l.length + 200 < fuel) (ho : o.ok) (hc : 0 ≤ o.sp.f.c ∧ o.sp.f.c ≤ 2000000000000) (wf : Wf M) (hn : n < rs.length) (hn2 : n ≤ 100000) (hR : SlM M 1 zAT ra rs) (g1 : M.get bo = some (.row false (opR o ra))) (g2 : M.get bl = some (.row false [a])) (g3 : M.get bv = some (.row false (lbR v)))
  (k : ∀ u N,Wf N → M.size ≤ N.size → (∀ j,j < M.size → rowOf ra ≠ some j → N.get j = M.get j) → SlM N 1 zAT ra (rs.set n (hid1 l o v n (rs.getD n 0))) → N.wm = M.wm → Q u N) :
  W3 (zAE Tryz.prog (fsT tbl) fuel (d + 12) (.fn 45) [I64 n,.ptr bo 0,.ptr bl 0,.ptr bv 0] M) Q:=by
 have l1:=Mem.get_lt g1
 have l2:=Mem.get_lt g2
 have l3:=Mem.get_lt g3
 have oa:=hS.one
 have w1 : IntKind.i64.wrap (o.sp.f.c + n) = o.sp.f.c + n:=wrap_i64 (by omega) (by omega)
 have hx : (o.sp.at n).ok:=⟨ho.2.2.2.1.1.1,by show -9223372036854775808 ≤ o.sp.f.c + n; omega,by show o.sp.f.c + n ≤ _; omega⟩
 have hsh:=fun M=>zN0 (fuel:=fuel) (d:=d) (x:=o.sp.at n) (v:=v) hS hl hf hx M
 replace hsh : ∀ M,zAE Tryz.prog (fsT tbl) fuel (d + 11) (.fn 28) [a,.agg [U8 o.sp.f.hd.lb.lv,U32 o.sp.f.hd.lb.cats,U8 o.sp.f.hd.num,I64 (o.sp.f.c + n)],lbA v] M = some (.tup [BL (zBS l (o.sp.at n) v),I64 (askE l (o.sp.at n) v)],M):=hsh
 obtain ⟨id,cs,hrow,lid,hg,hcs,hiad,hset⟩:=hR.at1 hn
 have hgd : rs.getD n 0 = rs[n]:=by rw [List.getD_eq_getElem?_getD,List.getElem?_eq_getElem hn]; rfl
 rw [hgd] at k
 unfold hid1 at k
 refine zAZ tf45 rfl (by simp [a45]) fun b' ht hx=>?_
 have h0:=hx 0 _ rfl
 have h1:=hx 1 _ rfl
 have h2:=hx 2 _ rfl
 have h3:=hx 3 _ rfl
 clear hx
 simp only [a45,c45,zz3,zzm] at ht ⊢
 cases q : zBS l (o.sp.at n) v with
 | true =>
  rw [q] at hsh k
  rw [if_pos rfl] at k
  simp (maxSteps:=2000000) (disch:=first | omega | assumption | (simp only [DS,Nat.reduceAdd, *]; done) | (simp only [DZ]; omega)) only [RUN,RU,zA2,zA1,zA0,zAB,slot,lay,zAJ,reduceIte,Nat.reduceEqDiff,Nat.reduceBEq,Nat.reduceAdd,h0,h1,h2,h3,g1,g2,g3,w1,hsh]
  rw [List.set_getElem_self] at k
  refine k _ _ ((wf.add _).upd _ _) (by simp only [zA9,zA6]; omega) (fun j hj _=>?_) (hR.keep fun j hj=>?_) rfl
  ·rw [zA3 (wf.add _) _ _ _ (by omega),zAF wf _ _ hj]
  ·have:=hR.lt j hj
   rw [zA3 (wf.add _) _ _ _ (by omega),zAF wf _ _ this]
 | false =>
  rw [q] at hsh k
  rw [if_neg (by decide)] at k
  simp (maxSteps:=2000000) (disch:=first | omega | assumption | (simp only [DS,Nat.reduceAdd, *]; done) | (simp only [DZ]; omega)) only [RUN,RU,zA2,zA1,zA0,zAB,slot,lay,zAJ,reduceIte,Nat.reduceEqDiff,Nat.reduceBEq,Nat.reduceAdd,h0,h1,h2,h3,g1,g2,g3,w1,hsh,hiad,hg]
  have wA : ∀ p q,Wf ((M.add p).upd M.size q):=fun p q=>(wf.add p).upd _ _
  refine k _ _ ((wA _ _).upd _ _) (by simp only [zA9,zA6]; omega) (fun j hj hne=>?_) (hset (I32 (-1)) (-1) rfl _ ?_) rfl
  ·rw [zA3 (wA _ _) _ _ _ (fun e=>hne (by rw [hrow,e])),zA3 (wf.add _) _ _ _ (by omega),zAF wf _ _ hj]
  ·exact zAG (wA _ _) _ _ (by simp only [zA9,zA6]; omega)
def curL (l : List Op) (o : Op) (v : Lb) (i : Nat) : List Int:=(zFY l o v).take i ++ o.rs.drop i
theorem zFZ (l : List Op) (o : Op) (v : Lb) : (zFY l o v).length = o.rs.length:=by unfold zFY; exact List.length_mapIdx
theorem zaJ (l : List Op) (o : Op) (v : Lb) (i : Nat) (h : i ≤ o.rs.length) : (curL l o v i).length = o.rs.length:=by
 unfold curL
 rw [List.length_append,List.length_take,List.length_drop,zFZ]
 omega
theorem zW9 (l : List Op) (o : Op) (v : Lb) (i : Nat) (h : i < o.rs.length) : (curL l o v i).set i (hid1 l o v i ((curL l o v i).getD i 0)) = curL l o v (i + 1):=by
 have hl:=zFZ l o v
 have e1 : (curL l o v i).getD i 0 = o.rs[i]:=by
  unfold curL
  rw [List.getD_eq_getElem?_getD,List.getElem?_append_right (by rw [List.length_take]; omega),List.length_take,show i - min i (zFY l o v).length = 0 by omega,List.getElem?_drop,Nat.add_zero,List.getElem?_eq_getElem h]
  rfl
 have e2 : (zFY l o v)[i]'(by omega) = hid1 l o v i o.rs[i]:=by
  unfold zFY
  rw [List.getElem_mapIdx]
 rw [e1,← e2]
 unfold curL
 rw [List.set_append_right _ _ (by rw [List.length_take]; omega),List.length_take,show i - min i (zFY l o v).length = 0 by omega,List.drop_eq_getElem_cons h,List.set_cons_zero,take_snoc _ i (by omega),List.append_assoc]
 rfl
set_option maxHeartbeats 8000000 in
theorem ze2 (hS : Sl 17 isOp a l) (hl : l.length ≤ 40000) (hR : Sl 1 zAT ra o.rs) (ho : o.ok) (hc : 0 ≤ o.sp.f.c ∧ o.sp.f.c ≤ 2000000000000) (hrl : o.rs.length ≤ 100000) (hf : l.length + o.rs.length + 300 < fuel) (wf : Wf M) (hw : M.wm ≤ M.size)
  (k : ∀ a' N,Wf N → M.size ≤ N.size → (∀ j,j < M.size → N.get j = M.get j) → SlM N 1 zAT a' (zFY l o v) → (∀ id,rowOf a' = some id → M.size ≤ id) → N.wm = M.wm → Q (.agg (opR o a')) N) :
  W3 (zAE Tryz.prog (fsT tbl) fuel (d + 13) (.fn 30) [a,.agg (opR o ra),lbA v] M) Q:=by
 have oa:=hS.one
 have ora:=hR.one
 have z:=opR ⟨0,Hd.z,0,⟨Eid.z,0⟩,Eid.z,Lb.z,[]⟩ NIL
 have kA:=((((Kept.refl wf).add (.row false [a])).add (.row false (opR o ra))).add (.row false (lbR v))).add (.row false (opR ⟨0,Hd.z,0,⟨Eid.z,0⟩,Eid.z,Lb.z,[]⟩ NIL))
 have wA:=kA.wf
 have sA : ((((M.add (.row false [a])).add (.row false (opR o ra))).add (.row false (lbR v))).add (.row false (opR ⟨0,Hd.z,0,⟨Eid.z,0⟩,Eid.z,Lb.z,[]⟩ NIL))).size = M.size + 4:=rfl
 have y0 : ((((M.add (.row false [a])).add (.row false (opR o ra))).add (.row false (lbR v))).add (.row false (opR ⟨0,Hd.z,0,⟨Eid.z,0⟩,Eid.z,Lb.z,[]⟩ NIL))).get M.size = some (.row false [a]):=by simp (maxSteps:=2000000) (disch:=first | omega | assumption | (simp only [DS,Nat.reduceAdd, *]; done) | (simp only [DZ]; omega)) only [RUN]
 have y1 : ((((M.add (.row false [a])).add (.row false (opR o ra))).add (.row false (lbR v))).add (.row false (opR ⟨0,Hd.z,0,⟨Eid.z,0⟩,Eid.z,Lb.z,[]⟩ NIL))).get (M.size + 1) = some (.row false (opR o ra)):=by simp (maxSteps:=2000000) (disch:=first | omega | assumption | (simp only [DS,Nat.reduceAdd, *]; done) | (simp only [DZ]; omega)) only [RUN]
 have y2 : ((((M.add (.row false [a])).add (.row false (opR o ra))).add (.row false (lbR v))).add (.row false (opR ⟨0,Hd.z,0,⟨Eid.z,0⟩,Eid.z,Lb.z,[]⟩ NIL))).get (M.size + 1 + 1) = some (.row false (lbR v)):=by simp (maxSteps:=2000000) (disch:=first | omega | assumption | (simp only [DS,Nat.reduceAdd, *]; done) | (simp only [DZ]; omega)) only [RUN]
 have y3 : ((((M.add (.row false [a])).add (.row false (opR o ra))).add (.row false (lbR v))).add (.row false (opR ⟨0,Hd.z,0,⟨Eid.z,0⟩,Eid.z,Lb.z,[]⟩ NIL))).get (M.size + 1 + 1 + 1) = some (.row false (opR ⟨0,Hd.z,0,⟨Eid.z,0⟩,Eid.z,Lb.z,[]⟩ NIL)):=by simp (maxSteps:=2000000) (disch:=first | omega | assumption | (simp only [DS,Nat.reduceAdd, *]; done) | (simp only [DZ]; omega)) only [RUN]
 refine zAZ tf30 rfl (by simp [a30]) fun b' ht hx=>?_
 have h0:=hx 0 _ rfl
 have h1:=hx 1 _ rfl
 have h2:=hx 2 _ rfl
 clear hx
 simp only [a30,c30,zz5,zzm] at ht ⊢
 simp (maxSteps:=2000000) (disch:=first | omega | assumption | (simp only [DS,Nat.reduceAdd, *]; done) | (simp only [DZ]; omega)) only [RUN,RU,zA2,zA1,slot,reduceIte,Nat.reduceEqDiff,h0,h1,h2,hS.fz.cells]
 refine zKY (d:=d + 10) hR (by omega) (by simp (maxSteps:=2000000) (disch:=first | omega | assumption | (simp only [DS,Nat.reduceAdd, *]; done) | (simp only [DZ]; omega)) only [RUN,wf]) (by simp only [zA6]; show M.wm ≤ _; omega) fun a' N hN sm nw=>?_
 have hN' : Kept ((((M.add (.row false [a])).add (.row false (opR o ra))).add (.row false (lbR v))).add (.row false (opR ⟨0,Hd.z,0,⟨Eid.z,0⟩,Eid.z,Lb.z,[]⟩ NIL))) N:=hN
 replace nw : ∀ id,rowOf a' = some id → M.size + 4 ≤ id:=nw
 clear hN
 have hN:=hN'
 clear hN'
 generalize (((M.add (.row false [a])).add (.row false (opR o ra))).add (.row false (lbR v))).add (.row false (opR ⟨0,Hd.z,0,⟨Eid.z,0⟩,Eid.z,Lb.z,[]⟩ NIL)) = X at *
 have kN:=kA.trans hN
 have x0:=(hN.get _ (Mem.get_lt y0)).trans y0
 have x1:=(hN.get _ (Mem.get_lt y1)).trans y1
 have x2:=(hN.get _ (Mem.get_lt y2)).trans y2
 have x3:=(hN.get _ (Mem.get_lt y3)).trans y3
 have l1:=Mem.get_lt x1
 have wN:=hN.wf
 have oa':=sm.one
 have ca':=sm.cells
 have hln:=sm.len
 simp (maxSteps:=2000000) (disch:=first | omega | assumption | (simp only [DS,Nat.reduceAdd, *]; done) | (simp only [DZ]; omega)) only [RUN,RU,zA2,zA1,lay,reduceIte,Nat.reduceEqDiff,Nat.reduceAdd,x1,hln]
 have r1 : ∀ j,rowOf a' = some j → M.size + 4 ≤ j:=nw
 have eN : ∀ j,j ≠ M.size + 1 → (N.upd (M.size + 1) (.row false (opR o a'))).get j = N.get j:=fun j hj=>zA3 wN _ _ _ (fun e=>hj e.symm)
 have wY:=wN.upd (M.size + 1) (.row false (opR o a'))
 have sY : M.size + 4 ≤ (N.upd (M.size + 1) (.row false (opR o a'))).size:=by rw [zA9]; have:=hN.le; omega
 have z0:=(eN M.size (by omega)).trans x0
 have z1 : (N.upd (M.size + 1) (.row false (opR o a'))).get (M.size + 1) = some (.row false (opR o a')):=zAG wN _ _ l1
 have z2:=(eN (M.size + 1 + 1) (by omega)).trans x2
 have z3:=(eN (M.size + 1 + 1 + 1) (by omega)).trans x3
 have zm : SlM (N.upd (M.size + 1) (.row false (opR o a'))) 1 zAT a' o.rs:=sm.keep fun j hj=>eN j (by have:=r1 j hj; omega)
 have zw : (N.upd (M.size + 1) (.row false (opR o a'))).wm = M.wm:=kN.wm
 have zk : ∀ j,j < M.size → (N.upd (M.size + 1) (.row false (opR o a'))).get j = M.get j:=fun j hj=>(eN j (by omega)).trans (kN.get j hj)
 generalize N.upd (M.size + 1) (.row false (opR o a')) = Y at *
 have c0 : curL l o v 0 = o.rs:=by unfold curL; simp
 refine zB8 (I:=fun nq tq Nq => ∃ (iq : Nat),nq = o.rs.length - iq ∧ iq ≤ o.rs.length ∧ nth zA5 tq 4 = .ptr (M.size + 1) 0 ∧ nth zA5 tq 6 = .ptr (M.size + 1 + 1 + 1) 0 ∧ nth zA5 tq 7 = .fn 45 [] [.ptr (M.size + 1) 0,.ptr M.size 0,.ptr (M.size + 1 + 1) 0] ∧ nth zA5 tq 14 = I64 o.rs.length ∧ nth zA5 tq 15 = I64 iq ∧ Wf Nq ∧ M.size + 4 ≤ Nq.size ∧ (∀ j,j < M.size → Nq.get j = M.get j) ∧ Nq.get M.size = some (.row false [a]) ∧ Nq.get (M.size + 1) = some (.row false (opR o a')) ∧ Nq.get (M.size + 1 + 1) = some (.row false (lbR v)) ∧ Nq.get (M.size + 1 + 1 + 1) = some (.row false (opR ⟨0,Hd.z,0,⟨Eid.z,0⟩,Eid.z,Lb.z,[]⟩ NIL)) ∧ SlM Nq 1 zAT a' (curL l o v iq) ∧ Nq.wm = M.wm) (n:=o.rs.length) (by omega) ?_ ?_
 ·refine ⟨0,rfl,Nat.zero_le _, ?_, ?_, ?_, ?_, ?_,wY,sY,zk,z0,z1,z2,z3,(by rw [c0]; exact zm),zw⟩ <;> simp (maxSteps:=2000000) (disch:=first | omega | assumption | (simp only [DS,Nat.reduceAdd, *]; done) | (simp only [DZ]; omega)) only [RUN,reduceIte,Nat.reduceEqDiff]
  all_goals first | rfl | assumption | done
 ·rintro nq tq Nq hltq ⟨iq,rfl,hiq,gq4,gq6,gq7,gq14,gq15,w,sz,kp,p0,p1,p2,p3,sm2,wm⟩
  simp only [ht] at hltq ⊢
  have oa2:=sm2.one
  have ca2:=sm2.cells
  have lp1:=Mem.get_lt p1
  have lp3:=Mem.get_lt p3
  by_cases hcc : iq < o.rs.length
  ·have q1 : decide ((iq : Int) < o.rs.length) = true:=decide_eq_true (by omega)
   have w1 : IntKind.i64.wrap ((iq : Int) + 1) = ((iq + 1 : Nat) : Int):=by rw [wrap_i64] <;> omega
   simp (maxSteps:=2000000) (disch:=first | omega | assumption | (simp only [DS,Nat.reduceAdd, *]; done) | (simp only [DZ]; omega)) only [RUN,RU,zA2,zA1,reduceIte,Nat.reduceEqDiff,gq7,gq14,gq15,q1]
   refine zb6 (d:=d) (n:=iq) hS hl (by omega) ho hc w (by rw [zaJ _ _ _ _ (by omega)]; exact hcc) (by omega) sm2 p1 p0 p2 fun u N' w' le' kp' sm' wm'=>?_
   rw [zW9 _ _ _ _ hcc] at sm'
   have nr : ∀ j,j < M.size + 4 → rowOf a' ≠ some j:=fun j hj e=>by have:=r1 j e; omega
   simp (maxSteps:=2000000) (disch:=first | omega | assumption | (simp only [DS,Nat.reduceAdd, *]; done) | (simp only [DZ]; omega)) only [RUN,RU,zA2,zA1,reduceIte,Nat.reduceEqDiff,gq4,gq6,gq7,gq14,gq15,w1]
   exact ⟨hltq,o.rs.length - (iq + 1),by omega,iq + 1,rfl,by omega,rfl,w',by omega,fun j hj=>(kp' j (by omega) (nr j (by omega))).trans (kp j hj),(kp' _ (by omega) (nr _ (by omega))).trans p0,(kp' _ (by omega) (nr _ (by omega))).trans p1,(kp' _ (by omega) (nr _ (by omega))).trans p2,(kp' _ (by omega) (nr _ (by omega))).trans p3,sm',wm'.trans wm⟩
  ·obtain rfl : iq = o.rs.length:=by omega
   have q1 : decide ((o.rs.length : Int) < o.rs.length) = false:=decide_eq_false (by omega)
   have cl : curL l o v o.rs.length = zFY l o v:=by unfold curL; rw [List.drop_length,List.append_nil,List.take_of_length_le (by rw [zFZ]; exact Nat.le_refl _)]
   rw [cl] at sm2
   simp (maxSteps:=2000000) (disch:=first | omega | assumption | (simp only [DS,Nat.reduceAdd, *]; done) | (simp only [DZ]; omega)) only [RUN,RU,zA2,zA1,zA0,zAB,slot,lay,reduceIte,Nat.reduceEqDiff,Nat.reduceAdd,gq4,gq6,gq14,gq15,p1,p3]
   refine k a' _ (w.upd _ _) (by rw [zA9]; omega) (fun j hj=>?_) (sm2.keep fun j hj=>?_) (fun j hj=>by have:=r1 j hj; omega) wm
   ·rw [zA3 w _ _ _ (by omega)]; exact kp j hj
   ·rw [zA3 w _ _ _ (by have:=r1 j hj; omega)]
end Go.Proofs.YtklfocnoenjgdaaGreat
namespace Go.Proofs.YtklfocnoenjgdaaGreat
open Go Go.Ax
def zGP (l : List Op) (v : Lb) (o : Op) : Op:={ o with rs:=zFY l o v }
def zRF (l : List Op) (v : Lb) (fr : Int) : Int:=if zED l v = 0 then (if fr < 0 ∨ ((lowL l v).length : Int) < fr then 2 else 0) else zED l v
def zXZ (l : List Op) (v : Lb) (fr : Int) : Int:=if zRF l v fr = 0 then (lowL l v).length else 0
def zXY (l : List Op) (v : Lb) (fr : Int) : List Op:=if zRF l v fr = 0 then (((lowL l v).drop fr.toNat).take 3).map (zGP l v) else []
def zfD (l : List Op) (v : Lb) (fr : Int) (r : AV) : Prop:=∃ r1,r = .tup [r1,I64 (zXZ l v fr),I64 (zRF l v fr)] ∧ Sl 17 isOp r1 (zXY l v fr)
theorem zWX {l : List Op} {v : Lb} {o : Op} (h : o.ok) : (zGP l v o).ok:=by
 obtain ⟨h1,h2,h3,h4,h5,h6,h7⟩:=h
 refine ⟨h1,h2,h3,h4,h5,h6,fun x hx=>?_⟩
 simp only [zGP,zFY] at hx
 obtain ⟨i,hi,rfl⟩:=List.mem_mapIdx.1 hx
 unfold hid1
 split
 ·exact h7 _ (List.getElem_mem hi)
 ·omega
end Go.Proofs.YtklfocnoenjgdaaGreat
namespace Go.Proofs.YtklfocnoenjgdaaGreat
open Go Go.Ax
theorem zG2 {l : List Op} (h : zAP [] l = true) (n : Nat) : zAP [] (l.take n) = true:=by
 have e:=List.take_append_drop n l
 rw [← e] at h
 exact zKJ h
theorem zUS {l : List Op} (h : zAP [] l = true) {n : Nat} {x : Eid} {v : Lb} (hs : zBS l x v = true) : zBS (l.take n) x v = true:=by
 obtain ⟨h1,h2,h3⟩:=(zMZ h).1 hs
 exact (zMZ (zG2 h n)).2 ⟨h1,h2,fun o ho=>h3 o (List.mem_of_mem_take ho)⟩
theorem zWY {l : List Op} (h : zAP [] l = true) (n : Nat) (v : Lb) (o : Op) : SimB l v o (zGP (l.take n) v o):=by
 refine ⟨zFY (l.take n) o v,rfl,zFZ _ _ _,fun k hk=>?_⟩
 have hk' : k < (zFY (l.take n) o v).length:=by rw [zFZ]; exact hk
 rw [List.getD_eq_getElem?_getD,List.getElem?_eq_getElem hk',List.getD_eq_getElem?_getD,List.getElem?_eq_getElem hk]
 simp only [Option.getD_some]
 simp only [zFY,List.getElem_mapIdx,hid1]
 cases hs : zBS (l.take n) (o.sp.at k) v with
 | true=>left; rfl
 | false =>
  right
  refine ⟨rfl, ?_⟩
  cases hl : zBS l (o.sp.at k) v with
  | false=>rfl
  | true=>rw [zUS h hl] at hs; cases hs
theorem zbI (l : List Op) (n : Nat) (v : Lb) : lowL l v = lowL (l.take n) v ++ lowL (l.drop n) v:=by
 unfold lowL
 rw [← List.filter_append,List.take_append_drop]
def zJ8 (l : List Op) (v : Lb) (mine : List Op) (n : Nat) : List Op:=if (lowL (l.take n) v).length < mine.length then mine else mine ++ (((lowL (l.take n) v).drop mine.length).take 3).map (zGP (l.take n) v)
def zFG (l : List Op) (v : Lb) (ns : List Nat) : List Op:=ns.foldl (zJ8 l v) []
def Got (l : List Op) (v : Lb) (mine : List Op) : Prop:=All2 (SimB l v) ((lowL l v).take mine.length) mine
theorem zOU {α β : Type} {R : α → β → Prop} : ∀ {l l' : List α} {m m' : List β},All2 R l m → All2 R l' m' → All2 R (l ++ l') (m ++ m')
 | _,_,_,_,.nil,h=>h
 | _,_,_,_,.cons a t,h => .cons a (zOU t h)
theorem zLM {l : List Op} {v : Lb} {f : Op → Op} (h : ∀ o,SimB l v o (f o)) : ∀ (L : List Op),All2 (SimB l v) L (L.map f)
 | [] => .nil
 | o :: L => .cons (h o) (zLM h L)
theorem zPC {l : List Op} {v : Lb} {mine : List Op} (h : Got l v mine) : mine.length ≤ (lowL l v).length:=by
 have:=All2.length_eq h
 rw [List.length_take] at this
 omega
theorem zQ2 {l : List Op} (hl : zAP [] l = true) {v : Lb} {mine : List Op} (h : Got l v mine) (n : Nat) : Got l v (zJ8 l v mine n):=by
 unfold zJ8
 split
 ·exact h
 ·rename_i hn
  have hp:=zbI l n v
  have hm:=zPC h
  generalize hL : lowL (l.take n) v = L at *
  have hj : ((L.drop mine.length).take 3).length = min 3 (L.length - mine.length):=by rw [List.length_take,List.length_drop]
  unfold Got
  rw [List.length_append,List.length_map,hj,hp]
  have e : (L ++ lowL (l.drop n) v).take (mine.length + min 3 (L.length - mine.length)) = (L ++ lowL (l.drop n) v).take mine.length ++ (L.drop mine.length).take 3:=by
   rw [List.take_append_of_le_length (by omega),List.take_append_of_le_length (by omega),List.take_add]
   congr 1
   rcases Nat.le_total 3 (L.length - mine.length) with h3 | h3
   ·rw [Nat.min_eq_left h3]
   ·rw [Nat.min_eq_right h3,List.take_of_length_le (by rw [List.length_drop]; omega),List.take_of_length_le (by rw [List.length_drop]; omega)]
  rw [e]
  unfold Got at h
  rw [hp] at h
  exact zOU h (zLM (zWY hl n v) _)
theorem zGU (l : List Op) (v : Lb) (ns : List Nat) (n : Nat) : zFG l v (ns ++ [n]) = zJ8 l v (zFG l v ns) n:=by simp [zFG]
theorem zMO {l : List Op} (hl : zAP [] l = true) (v : Lb) (ns : List Nat) : Got l v (zFG l v ns):=by
 refine zCH (P:=fun ns=>Got l v (zFG l v ns)) (by unfold Got zFG; exact .nil) (fun ns n ih=>?_) ns
 rw [zGU]
 exact zQ2 hl ih n
theorem zMN {l : List Op} (hl : zAP [] l = true) (v : Lb) (ns : List Nat) : ∀ k,min (lowL l v).length k ≤ (zFG l v (ns ++ List.replicate k l.length)).length
 | 0=>by simp
 | k + 1=>by
  have ih:=zMN hl v ns k
  have e : ns ++ List.replicate (k + 1) l.length = (ns ++ List.replicate k l.length) ++ [l.length]:=by rw [List.replicate_succ',List.append_assoc]
  rw [e,zGU]
  unfold zJ8
  rw [List.take_length]
  split
  ·omega
  ·rw [List.length_append,List.length_map,List.length_take,List.length_drop]
   omega
theorem zUC {l : List Op} (hl : zAP [] l = true) (v : Lb) (ns : List Nat) : All2 (SimB l v) (lowL l v) (zFG l v (ns ++ List.replicate (l.length + 1) l.length)):=by
 have h1:=zMO hl v (ns ++ List.replicate (l.length + 1) l.length)
 have h2:=zMN hl v ns (l.length + 1)
 have h3:=zPC h1
 have h4:=zE4 l v
 unfold Got at h1
 rw [List.take_of_length_le (by omega)] at h1
 exact h1
end Go.Proofs.YtklfocnoenjgdaaGreat
namespace Go.Proofs.YtklfocnoenjgdaaGreat
open Go Go.Ax
variable {fuel : Nat} {M : Mem} {Q : AV → Mem → Prop} {d : Nat} {x : Eid} {l : List Op} {o : Op} {ra ops a : AV} {B id m : Nat} {v : Lb} {from_ : Int}
set_option maxHeartbeats 8000000 in
theorem zY0 (hS : Sl 17 isOp a l) (hl : l.length ≤ 10000) (hf : l.length + 500 < fuel) (hd : ∀ o ∈ l,o.rs.length ≤ 1000000000) : ∃ r,zfD l v from_ r ∧ ∀ M,zAE Tryz.prog (fsT tbl) fuel (d + 16) (.fn 13) [a,lbA v,I64 from_] M = some (r,M):=by
 have ll:=hS.len
 obtain ⟨ro,⟨r1,rfl,hr1⟩,hon⟩:=zHO (fuel:=fuel) (d:=d) (v:=v) hS hl (by omega) hd
 have oa:=hS.one
 have hlow:=zE4 l v
 refine zEC tf13 rfl (fun M=>by simp only [icyL,fun M=>hS.icy M 12 (by omega),zAV (zCD v) (show 1 < 12 by omega),zJ7]) ?_
 refine zAI tf13 rfl (by simp only [icyL,fun M=>hS.icy M 12 (by omega),zAV (zCD v) (show 1 < 12 by omega),zJ7]) (by simp [a13]) fun b' ht hx=>?_
 have h0:=hx 0 _ rfl
 have h1:=hx 1 _ rfl
 have h2:=hx 2 _ rfl
 clear hx
 simp only [a13,c13,zz5,zzm] at ht ⊢
 unfold zfD zXZ zXY zRF
 by_cases q0 : zED l v = 0
 ·rw [q0] at hon hr1
  simp only [q0,if_true] at hr1 ⊢
  have hrl:=hr1.len
  by_cases q1 : from_ < 0
  ·have q1':=decide_eq_true q1
   simp (maxSteps:=2000000) (disch:=first | omega | assumption | (simp only [DS,Nat.reduceAdd, *]; done) | (simp only [DZ]; omega)) only [RUN,RU,zA2,zA1,zA0,zAB,frzL,slot,reduceIte,Nat.reduceEqDiff,Int.reduceEq,h0,h1,h2,hon,hrl,q1,true_or,if_true]
   exact ⟨_,⟨NIL,rfl,.inl ⟨rfl,rfl⟩⟩,rfl⟩
  ·have q1':=decide_eq_false q1
   by_cases q2 : ((lowL l v).length : Int) < from_
   ·have q2':=decide_eq_true q2
    simp (maxSteps:=2000000) (disch:=first | omega | assumption | (simp only [DS,Nat.reduceAdd, *]; done) | (simp only [DZ]; omega)) only [RUN,RU,zA2,zA1,zA0,zAB,frzL,slot,reduceIte,Nat.reduceEqDiff,Int.reduceEq,h0,h1,h2,hon,hrl,q1,q2,or_true,if_true]
    exact ⟨_,⟨NIL,rfl,.inl ⟨rfl,rfl⟩⟩,rfl⟩
   ·have q2':=decide_eq_false q2
    simp only [q1,q2,or_self,if_false,if_true]
    obtain ⟨fn,hfn⟩ : ∃ n : Nat,from_ = n:=⟨from_.toNat,by omega⟩
    subst hfn
    have w1 : IntKind.i64.wrap ((fn : Int) + 3) = (fn : Int) + 3:=wrap_i64 (by omega) (by omega)
    have mn : (if ((lowL l v).length : Int) < (fn : Int) + 3 then ((lowL l v).length : Int) else (fn : Int) + 3) = ((min (fn + 3) (lowL l v).length : Nat) : Int):=by split <;> omega
    obtain ⟨r2,hs2,hr2⟩:=sl_3 hr1 (i:=fn) (j:=min (fn + 3) (lowL l v).length) (by omega) (by omega)
    have hrl2:=hr2.len
    simp (maxSteps:=2000000) (disch:=first | omega | assumption | (simp only [DS,Nat.reduceAdd, *]; done) | (simp only [DZ]; omega)) only [RUN,RU,zA2,zA1,slot,reduceIte,Nat.reduceEqDiff,h0,h1,h2,hr1.fz.rows,hon,hrl,q1',q2',w1,mn,hs2,hrl2]
    generalize hpg : ((lowL l v).drop fn).take (min (fn + 3) (lowL l v).length - fn) = pg at *
    have e3 : ((lowL l v).drop (fn : Int).toNat).take 3 = pg:=by
     rw [← hpg,Int.toNat_natCast]
     exact List.take_eq_take_iff.2 (by rw [List.length_drop]; omega)
    rw [e3]
    have hpl : pg.length ≤ 3:=by rw [← hpg,List.length_take]; omega
    have hpm : ∀ o ∈ pg,o ∈ l:=fun o ho=>by rw [← hpg] at ho; exact (List.mem_filter.1 (List.mem_of_mem_drop (List.mem_of_mem_take ho))).1
    have hmay:=zKI (zbO q0)
    refine zB8 (I:=fun n t N => ∃ (i : Nat) (out : AV),n = pg.length - i ∧ i ≤ pg.length ∧ nth zA5 t 0 = a ∧ nth zA5 t 4 = .ptr 0 0 ∧ nth zA5 t 6 = out ∧ nth zA5 t 7 = I64 (lowL l v).length ∧ nth zA5 t 39 = r2 ∧ nth zA5 t 40 = I64 pg.length ∧ nth zA5 t 41 = I64 i ∧ Wf N ∧ N.get 0 = some (.row false (lbR v)) ∧ N.wm = 0 ∧ opK.NN N 1 out ((pg.take i).map (zGP l v))) (n:=pg.length) (by omega) ?_ ?_
    ·refine ⟨0,NIL,rfl,Nat.zero_le _, ?_, ?_, ?_, ?_, ?_, ?_, ?_,Wf.mem0.add _,by simp (maxSteps:=2000000) (disch:=first | omega | assumption | (simp only [DS,Nat.reduceAdd, *]; done) | (simp only [DZ]; omega)) only [RUN],rfl,NK.NN.nil _ _⟩ <;> simp (maxSteps:=2000000) (disch:=first | omega | assumption | (simp only [DS,Nat.reduceAdd, *]; done) | (simp only [DZ]; omega)) only [RUN,reduceIte,Nat.reduceEqDiff,h0]
     all_goals first | rfl | assumption | done
    ·rintro n t N hlt ⟨i,out,rfl,hi,g0,g4,g6,g7,g39,g40,g41,w,g,wm,hN⟩
     simp only [ht] at hlt ⊢
     have oo:=hN.one
     have oc:=hN.cells
     by_cases hc : i < pg.length
     ·have q3 : decide ((i : Int) < pg.length) = true:=decide_eq_true (by omega)
      have w1 : IntKind.i64.wrap ((i : Int) + 1) = ((i + 1 : Nat) : Int):=by rw [wrap_i64] <;> omega
      obtain ⟨r,hiad,hr,hrl⟩:=hr2.iad i hc
      have hsn : (pg.take (i + 1)).map (zGP l v) = (pg.take i).map (zGP l v) ++ [zGP l v pg[i]]:=by rw [take_snoc pg i hc,List.map_append]; rfl
      have hil:=hpm pg[i] (List.getElem_mem hc)
      have hlo:=hd _ hil
      have hm:=hmay _ hil
      generalize pg[i] = e at *
      obtain ⟨ra,rfl,hra,hok⟩:=hr
      have ora:=hra.one
      have hb:=Spn.may_le (may_sp hm)
      have hml:=may_len hm
      have lN:=Mem.get_lt g
      have kX:=((Kept.refl w).add (.row false (opR ⟨0,Hd.z,0,⟨Eid.z,0⟩,Eid.z,Lb.z,[]⟩ NIL))).upd (by omega) (Nat.le_refl _) (.row false (opR e ra))
      simp (maxSteps:=2000000) (disch:=first | omega | assumption | (simp only [DS,Nat.reduceAdd, *]; done) | (simp only [DZ]; omega)) only [RUN,RU,zA2,zA1,slot,lay,reduceIte,Nat.reduceEqDiff,Nat.reduceAdd,g0,g4,g6,g39,g40,g41,q3,hiad,g]
      refine ze2 (d:=d + 2) hS (by omega) hra hok ⟨by omega,by omega⟩ (by omega) (by omega) kX.wf (by rw [kX.wm]; omega) fun a' N2 w2 le2 kp2 sm2 nw2 wm2=>?_
      simp only [zA9,zA6] at le2 kp2 nw2
      have k2 : ∀ j,j < N.size → N2.get j = N.get j:=fun j hj=>by
       rw [kp2 j (by omega)]; exact kX.get j hj
      have oa2:=sm2.one
      have ca2:=sm2.cells
      have rl2:=zAW sm2.rl (Nat.le_refl N2.size)
      have rr2:=hN.rows (show N.size ≤ N2.size + 1 by omega)
      simp (maxSteps:=2000000) (disch:=first | omega | assumption | (simp only [DS,Nat.reduceAdd, *]; done) | (simp only [DZ]; omega)) only [RUN,RU,zA2,zA1,lay,zAJ,zAA,reduceIte,Nat.reduceEqDiff,Nat.reduceBEq,Nat.reduceAdd,rr2]
      refine NK.NN.app (K:=opK) (B:=1) (l:=(pg.take i).map (zGP l v)) (x:=zGP l v e) (ra:=a') w2 (hN.keep fun j a b=>k2 j b) ⟨rfl,oa2,ca2⟩ ⟨sm2,fun j hj=>by have:=nw2 j hj; omega,zWX hok⟩ (fun j hj hj2=>by have h1:=hN.lt j hj; have h2:=nw2 j hj2; omega) (by simp; omega) (by simp; omega) (by omega) fun o' M' hN' w' le' kp' nw' wm'=>?_
      simp (maxSteps:=2000000) (disch:=first | omega | assumption | (simp only [DS,Nat.reduceAdd, *]; done) | (simp only [DZ]; omega)) only [RUN,RU,zA2,zA1,reduceIte,Nat.reduceEqDiff,g0,g4,g6,g7,g39,g40,g41,w1]
      refine ⟨hlt,pg.length - (i + 1),by omega,i + 1,o',rfl,by omega,rfl,rfl,w', ?_, ?_,by rw [hsn]; exact hN'⟩
      ·rw [kp' 0 (by omega) (fun h=>by have:=hN.lt 0 h; omega),k2 0 lN]; exact g
      ·rw [wm',wm2]; exact wm
     ·obtain rfl : i = pg.length:=by omega
      have q3 : decide ((pg.length : Int) < pg.length) = false:=decide_eq_false (by omega)
      rw [List.take_length] at hN
      obtain ⟨o',hz,hs⟩:=hN.frz (k:=11) (by omega)
      have hz:=hz N (fun _ _=>rfl)
      simp (maxSteps:=2000000) (disch:=first | omega | assumption | (simp only [DS,Nat.reduceAdd, *]; done) | (simp only [DZ]; omega)) only [RUN,RU,zA2,zA1,zA0,zAB,frzL,reduceIte,Nat.reduceEqDiff,g6,g7,g40,g41,hz]
      exact ⟨_,⟨o',rfl,zPV hs⟩,rfl⟩
 ·have q1' : decide (zED l v = 0) = false:=decide_eq_false q0
  simp only [q0,if_false]
  simp (maxSteps:=2000000) (disch:=first | omega | assumption | (simp only [DS,Nat.reduceAdd, *]; done) | (simp only [DZ]; omega)) only [RUN,RU,zA2,zA1,zA0,zAB,frzL,slot,reduceIte,Nat.reduceEqDiff,h0,h1,hon,q1']
  exact ⟨_,⟨NIL,rfl,.inl ⟨rfl,rfl⟩⟩,rfl⟩
end Go.Proofs.YtklfocnoenjgdaaGreat
namespace Go.Proofs.YtklfocnoenjgdaaGreat
open Go Go.Ax
variable {fuel : Nat} {M : Mem} {Q : AV → Mem → Prop} {d : Nat} {l : List Op} {a : AV} {v : Lb}
def zbC (r : List AV) (n : Int) : Prop:=r = [I64 n]
theorem zNJ (hS : Sl 17 isOp a l) (hl : l.length ≤ 10000) (hf : l.length + 400 < fuel) (hd : ∀ o ∈ l,o.rs.length ≤ 1000000000) (q : zED l v = 0) (M : Mem) : zAE Tryz.prog (fsT tbl) fuel (d + 16) (.fn 21) [a,lbA v] M = some (I64 (lowL l v).length,M):=by
 obtain ⟨r,⟨r1,rfl,hr1⟩,hon⟩:=zHO (fuel:=fuel) (d:=d) (v:=v) hS hl hf hd
 rw [q] at hon
 rw [if_pos q] at hr1
 have lr1:=hr1.len
 apply zBI
 refine zAI tf21 rfl (by simp only [icyL,fun M=>hS.icy M 12 (by omega),zAV (zCD v) (show 1 < 12 by omega)]) (by simp [a21]) fun b' ht hx=>?_
 have h0:=hx 0 _ rfl
 have h1:=hx 1 _ rfl
 clear hx
 simp only [a21,c21,zzm] at ht ⊢
 simp (maxSteps:=2000000) (disch:=first | omega | assumption | (simp only [DS,Nat.reduceAdd, *]; done) | (simp only [DZ]; omega)) only [RUN,RU,zA2,zA1,zA0,zAB,frzL,slot,reduceIte,Nat.reduceEqDiff,h0,h1,hon,lr1]
/-! ### What is pulled,plain -/
def zI4 (n : Nat) (w : Int) : Nat:=(imax 0 (imin w n)).toNat
theorem zP1 (n : Nat) (w : Int) : zI4 n w ≤ n:=by
 unfold zI4 imax imin
 split <;> split <;> omega
theorem zK4 (n : Nat) (w : Int) : imax 0 (imin w n) = (zI4 n w : Int):=by
 unfold zI4 imax imin
 split <;> split <;> omega
abbrev nsF (l : List Op) (when_ : List Int) : List Nat:=when_.map (zI4 l.length) ++ List.replicate (l.length + 1) l.length
theorem zeL (l : List Op) (w : List Int) : (nsF l w).length = w.length + l.length + 1:=by
 unfold nsF
 rw [List.length_append,List.length_map,List.length_replicate]
 omega
theorem zeM {l : List Op} {w : List Int} {i : Nat} (h : i < w.length) (h' : i < (nsF l w).length) : (nsF l w)[i] = zI4 l.length w[i]:=by
 unfold nsF
 rw [List.getElem_append_left (by simpa using h),List.getElem_map]
theorem zeK {l : List Op} {w : List Int} {i : Nat} (h : w.length ≤ i) (h' : i < (nsF l w).length) : (nsF l w)[i] = l.length:=by
 unfold nsF
 rw [List.getElem_append_right (by simpa using h),List.getElem_replicate]
theorem zHJ (hl : zAP [] l = true) {mine : List Op} (h : Got l v mine) : zAP [] mine = true:=zHL (zQB h) (zG2 (zDR v hl) _)
theorem zZC {mine : List Op} (h : Got l v mine) {b : Nat} (hd : ∀ o ∈ l,o.rs.length ≤ b) : ∀ o ∈ mine,o.rs.length ≤ b:=fun o ho=>by
 obtain ⟨p,hp,r,rfl,hr,_⟩:=zHG h o ho
 have:=hd p (List.mem_filter.1 (List.mem_of_mem_take hp)).1
 show r.length ≤ b
 omega
theorem zKW (hl : zAP [] l = true) (hv : v.may = true) : zED l v = 0:=by unfold zED; rw [hl,hv]; rfl
set_option maxHeartbeats 16000000 in
theorem zRG {b : AV} {when_ : List Int} (hS : Sl 17 isOp a l) (hW : Sl 1 zbC b when_) (hl : l.length ≤ 1000) (hw : when_.length ≤ 1000) (hf : 10000 < fuel) (hd : ∀ o ∈ l,o.rs.length ≤ 10000) (q : zAP [] l = true) (q' : v.may = true) : ∃ r,Sl 17 isOp r (zFG l v (nsF l when_)) ∧ ∀ M,zAE Tryz.prog (fsT tbl) fuel (d + 17) (.fn 7) [a,lbA v,b] M = some (.tup [r,BL true],M):=by
 have ll:=hS.len
 have lw:=hW.len
 have hnl:=zeL l when_
 have c1 : IntKind.i64.wrap ((when_.length : Int) + l.length) = ((when_.length + l.length : Nat) : Int):=by rw [wrap_i64] <;> omega
 have c2 : IntKind.i64.wrap (((when_.length + l.length : Nat) : Int) + 1) = ((nsF l when_).length : Int):=by rw [wrap_i64] <;> omega
 have hd1 : ∀ o ∈ l,o.rs.length ≤ 1000000000:=fun o ho=>by have:=hd o ho; omega
 refine zEC tf7 rfl (fun M=>by simp only [icyL,fun M=>hS.icy M 12 (by omega),fun M=>hW.icy M 12 (by omega),zAV (zCD v) (show 1 < 12 by omega)]) ?_
 refine zAI tf7 rfl (by simp only [icyL,fun M=>hS.icy M 12 (by omega),fun M=>hW.icy M 12 (by omega),zAV (zCD v) (show 1 < 12 by omega)]) (by simp [a7]) fun b' ht hx=>?_
 have h0:=hx 0 _ rfl
 have h1:=hx 1 _ rfl
 have h2:=hx 2 _ rfl
 clear hx
 simp only [a7,c7,zzm] at ht ⊢
 simp (maxSteps:=2000000) (disch:=first | omega | assumption | (simp only [DS,Nat.reduceAdd, *]; done) | (simp only [DZ]; omega)) only [RUN,RU,zA2,zA1,h1]
 refine zB8 (I:=fun n t N => ∃ (i : Nat) (mine : AV),n = (nsF l when_).length - i ∧ i ≤ (nsF l when_).length ∧ nth zA5 t 0 = a ∧ nth zA5 t 2 = b ∧ nth zA5 t 4 = .ptr 0 0 ∧ nth zA5 t 8 = mine ∧ nth zA5 t 9 = I64 i ∧ N = mem0.add (.row false (lbR v)) ∧ Sl 17 isOp mine (zFG l v ((nsF l when_).take i))) (n:=(nsF l when_).length) (by omega) ?_ ?_
 ·refine ⟨0,NIL,rfl,Nat.zero_le _, ?_, ?_, ?_, ?_, ?_,rfl,.inl ⟨rfl,rfl⟩⟩ <;> simp (maxSteps:=2000000) (disch:=first | omega | assumption | (simp only [DS,Nat.reduceAdd, *]; done) | (simp only [DZ]; omega)) only [RUN,reduceIte,Nat.reduceEqDiff,h0,h2]
  all_goals first | rfl | assumption | done
 ·rintro n t N hlt ⟨i,mine,rfl,hi,g0,g2,g4,g8,g9,hN,hm⟩
  simp only [ht] at hlt ⊢
  subst hN
  have lm:=hm.len
  have hgot:=zMO q v ((nsF l when_).take i)
  have hle:=zPC hgot
  have hlow:=zE4 l v
  by_cases hc : i < (nsF l when_).length
  ·have c3 : decide ((i : Int) < (nsF l when_).length) = true:=decide_eq_true (by omega)
   have w1 : IntKind.i64.wrap ((i : Int) + 1) = ((i + 1 : Nat) : Int):=by rw [wrap_i64] <;> omega
   have hsn : zFG l v ((nsF l when_).take (i + 1)) = zJ8 l v (zFG l v ((nsF l when_).take i)) (nsF l when_)[i]:=by rw [take_snoc _ i hc,zGU]
   have tail : ∀ n : Nat,(nsF l when_)[i] = n → n ≤ l.length → True:=fun _ _ _=>trivial
   clear tail
   generalize hmi : zFG l v ((nsF l when_).take i) = mi at *
   have hnn : (nsF l when_)[i] ≤ l.length:=by
    by_cases hi2 : i < when_.length
    ·rw [zeM hi2 hc]; exact zP1 _ _
    ·rw [zeK (by omega) hc]; exact Nat.le_refl _
   have hlo:=fun h=>zeM (l:=l) (w:=when_) (i:=i) h hc
   have hhi:=fun h=>zeK (l:=l) (w:=when_) (i:=i) h hc
   generalize (nsF l when_)[i] = n at *
   have qn:=zG2 q n
   have qo:=zKW (v:=v) qn q'
   have hltk : (l.take n).length ≤ 1000:=by rw [List.length_take]; omega
   have hdn : ∀ o ∈ l.take n,o.rs.length ≤ 1000000000:=fun o ho=>hd1 o (List.mem_of_mem_take ho)
   obtain ⟨a1,hsl,h1s⟩:=zRP hS hnn
   have hct:=fun M=>zNJ (fuel:=fuel) (d:=d) (v:=v) h1s (by omega) (by omega) hdn qo M
   have hlwn:=zE4 (l.take n) v
   have hmin : (if ((lowL (l.take n) v).length : Int) < mi.length then ((lowL (l.take n) v).length : Int) else mi.length) = ((min mi.length (lowL (l.take n) v).length : Nat) : Int):=by split <;> omega
   obtain ⟨rp,⟨r1,rfl,hr1⟩,hpg⟩:=zY0 (fuel:=fuel) (d:=d) (v:=v) (from_:=((min mi.length (lowL (l.take n) v).length : Nat) : Int)) h1s (by omega) (by omega) hdn
   have pe : zRF (l.take n) v ((min mi.length (lowL (l.take n) v).length : Nat) : Int) = 0:=by
    unfold zRF
    rw [if_pos qo,if_neg (by omega)]
   have pt : zXZ (l.take n) v ((min mi.length (lowL (l.take n) v).length : Nat) : Int) = (lowL (l.take n) v).length:=by
    unfold zXZ
    rw [if_pos pe]
   have pl : zXY (l.take n) v ((min mi.length (lowL (l.take n) v).length : Nat) : Int) = (((lowL (l.take n) v).drop (min mi.length (lowL (l.take n) v).length)).take 3).map (zGP (l.take n) v):=by
    unfold zXY
    rw [if_pos pe,Int.toNat_natCast]
   rw [pe,pt] at hpg
   rw [pl] at hr1
   have q5 : decide (((lowL (l.take n) v).length : Int) = (lowL (l.take n) v).length) = true:=decide_eq_true rfl
   by_cases hc2 : (lowL (l.take n) v).length < mi.length
   ·have c4 : decide (((lowL (l.take n) v).length : Int) < mi.length) = true:=decide_eq_true (by omega)
    have hst : zJ8 l v mi n = mi:=by unfold zJ8; rw [if_pos hc2]
    by_cases hi2 : i < when_.length
    ·have c5 : decide ((i : Int) < when_.length) = true:=decide_eq_true (by omega)
     obtain ⟨r,hiad,rfl,_⟩:=hW.iad i hi2
     have hcl:=zK4 l.length when_[i]
     rw [← hlo hi2] at hcl
     unfold imin at hcl
     simp (maxSteps:=2000000) (disch:=first | omega | assumption | (simp only [DS,Nat.reduceAdd, *]; done) | (simp only [DZ]; omega)) only [RUN,RU,zA2,zA1,slot,reduceIte,Nat.reduceEqDiff,Nat.reduceBEq,Nat.reduceAdd,g0,g2,g4,g8,g9,ll,lw,lm,c1,c2,c3,c5,hiad,hcl,hsl,hct,hmin,hpg,c4,w1,zC6,BMM,hS.fz.rows]
     exact ⟨hlt,_,by omega,i + 1,mine,rfl,by omega,rfl,rfl,by rw [hsn,hst]; exact hm⟩
    ·have c5 : decide ((i : Int) < when_.length) = false:=decide_eq_false (by omega)
     have hcl:=hhi (by omega)
     subst hcl
     simp (maxSteps:=2000000) (disch:=first | omega | assumption | (simp only [DS,Nat.reduceAdd, *]; done) | (simp only [DZ]; omega)) only [RUN,RU,zA2,zA1,slot,reduceIte,Nat.reduceEqDiff,Nat.reduceBEq,Nat.reduceAdd,g0,g2,g4,g8,g9,ll,lw,lm,c1,c2,c3,c5,hsl,hct,hmin,hpg,c4,w1,hS.fz.rows]
     exact ⟨hlt,_,by omega,i + 1,mine,rfl,by omega,rfl,rfl,by rw [hsn,hst]; exact hm⟩
   ·have c4 : decide (((lowL (l.take n) v).length : Int) < mi.length) = false:=decide_eq_false (by omega)
    have emin : min mi.length (lowL (l.take n) v).length = mi.length:=by omega
    rw [emin] at hr1 hpg hmin
    have hst : zJ8 l v mi n = mi ++ (((lowL (l.take n) v).drop mi.length).take 3).map (zGP (l.take n) v):=by unfold zJ8; rw [if_neg hc2]
    have hg2:=zQ2 q hgot n
    rw [hst] at hg2
    have hh2:=zHJ q hg2
    have hle2:=zPC hg2
    obtain ⟨r2,hr2,htk⟩:=zYQ (fuel:=fuel) (d:=d) (v:=v) hm hr1 (by omega) (by omega) (fun o ho=>by have:=zZC hg2 hd o ho; omega) (zHJ q hgot) q' (by rw [List.length_map,List.length_take]; omega) (fun o ho=>by
     obtain ⟨p,hp,rfl⟩:=List.mem_map.1 ho
     exact (List.mem_filter.1 (List.mem_of_mem_drop (List.mem_of_mem_take hp))).2) hh2
    by_cases hi2 : i < when_.length
    ·have c5 : decide ((i : Int) < when_.length) = true:=decide_eq_true (by omega)
     obtain ⟨r,hiad,rfl,_⟩:=hW.iad i hi2
     have hcl:=zK4 l.length when_[i]
     rw [← hlo hi2] at hcl
     unfold imin at hcl
     simp (maxSteps:=2000000) (disch:=first | omega | assumption | (simp only [DS,Nat.reduceAdd, *]; done) | (simp only [DZ]; omega)) only [RUN,RU,zA2,zA1,slot,reduceIte,Nat.reduceEqDiff,Nat.reduceBEq,Nat.reduceAdd,g0,g2,g4,g8,g9,ll,lw,lm,c1,c2,c3,c5,hiad,hcl,hsl,hct,hmin,hpg,c4,w1,htk,zC6,BMM,hS.fz.rows]
     exact ⟨hlt,_,by omega,i + 1,r2,rfl,by omega,rfl,rfl,by rw [hsn,hst]; exact hr2⟩
    ·have c5 : decide ((i : Int) < when_.length) = false:=decide_eq_false (by omega)
     have hcl:=hhi (by omega)
     subst hcl
     simp (maxSteps:=2000000) (disch:=first | omega | assumption | (simp only [DS,Nat.reduceAdd, *]; done) | (simp only [DZ]; omega)) only [RUN,RU,zA2,zA1,slot,reduceIte,Nat.reduceEqDiff,Nat.reduceBEq,Nat.reduceAdd,g0,g2,g4,g8,g9,ll,lw,lm,c1,c2,c3,c5,hsl,hct,hmin,hpg,c4,w1,htk,hS.fz.rows]
     exact ⟨hlt,_,by omega,i + 1,r2,rfl,by omega,rfl,rfl,by rw [hsn,hst]; exact hr2⟩
  ·obtain rfl : i = (nsF l when_).length:=by omega
   have c3 : decide (((nsF l when_).length : Int) < (nsF l when_).length) = false:=decide_eq_false (by omega)
   rw [List.take_length] at hm
   simp (maxSteps:=2000000) (disch:=first | omega | assumption | (simp only [DS,Nat.reduceAdd, *]; done) | (simp only [DZ]; omega)) only [RUN,RU,zA2,zA1,zA0,zAB,frzL,reduceIte,Nat.reduceEqDiff,g0,g2,g8,g9,ll,lw,c1,c2,hm.fz.frz]
   exact ⟨mine,hm,rfl⟩
end Go.Proofs.YtklfocnoenjgdaaGreat
namespace Go.Proofs.YtklfocnoenjgdaaGreat
open Go Go.Ax
variable {M : Mem} {l : List Op} {a : AV} {v : Lb}
theorem zP6 : ∀ {rows : List (List AV)} {l : List Int},All2 zAT rows l → rows.flatten = l.map fun x=>I32 x
 | _,_,.nil=>rfl
 | _,_,.cons a t=>by
  rw [List.flatten_cons,zP6 t,show _ = [I32 _] from a]
  rfl
theorem zfO {l : List Int} (h : SlM M 1 zAT a l) {i : Nat} (hi : i < l.length) : ∃ id cs,rowOf a = some id ∧ id < M.size ∧ M.get id = some (.row false cs) ∧ cs[i]? = some (I32 l[i]) ∧ i < cs.length ∧ (∀ N,iadO N 1 a (some i) = some (.ptr id i,N)) ∧
  ∀ x,∀ N : Mem,N.get id = some (.row false (lay cs i [I32 x])) → SlM N 1 zAT a (l.set i x):=by
 obtain ⟨id,cs,h1,h2,h3,h4,h5,h6⟩:=h.at1 hi
 refine ⟨id,cs,h1,h2,h3, ?_,h4,h5,fun x N hN=>h6 _ x rfl N hN⟩
 rcases h with ⟨rfl,rfl⟩ | ⟨id',rows,cap,rfl,hc,hg,hA,hr⟩
 ·cases h1
 ·cases h1
  rw [hg] at h3
  cases h3
  rw [zP6 hA,List.getElem?_map,List.getElem?_eq_getElem hi]
  rfl
abbrev patL (o r : List Int) (j : Nat) : List Int:=o.take j ++ r.drop j
theorem zY2 (o r : List Int) : patL o r 0 = r:=by simp [patL]
theorem zbY {o r : List Int} (h : r.length = o.length) : patL o r o.length = o:=by
 unfold patL
 rw [List.take_length,List.drop_of_length_le (by omega),List.append_nil]
theorem zc0 {o r : List Int} (h : r.length = o.length) (j : Nat) (hj : j ≤ o.length) : (patL o r j).length = o.length:=by
 unfold patL
 rw [List.length_append,List.length_take,List.length_drop]
 omega
theorem zbZ {o r : List Int} (h : r.length = o.length) {j : Nat} (hj : j < o.length) (hj' : j < (patL o r j).length) : (patL o r j)[j] = r[j]:=by
 unfold patL
 rw [List.getElem_append_right (by rw [List.length_take]; omega)]
 simp only [List.getElem_drop,List.length_take]
 congr 1
 omega
theorem zc1 {o r : List Int} (h : r.length = o.length) {j : Nat} (hj : j < o.length) : (patL o r j).set j o[j] = patL o r (j + 1):=by
 unfold patL
 rw [List.set_append_right _ _ (by rw [List.length_take]; omega),List.length_take,show j - min j o.length = 0 by omega,List.drop_eq_getElem_cons (show j < r.length by omega),List.set_cons_zero,take_snoc _ j hj,List.append_assoc]
 rfl
theorem zY1 {o r : List Int} (h : r.length = o.length) {j : Nat} (hj : j < o.length) (he : r[j] = o[j]) : patL o r (j + 1) = patL o r j:=by
 unfold patL
 rw [List.drop_eq_getElem_cons (show j < r.length by omega),he,take_snoc _ j hj,List.append_assoc]
 rfl
theorem zS2 {α β : Type} {R : α → β → Prop} {l : List α} {m : List β} (h : All2 R l m) {i : Nat} (h1 : i < l.length) (h2 : i < m.length) : R l[i] m[i]:=h.get h1 h2
theorem zGG {α β : Type} {R : α → β → Prop} : ∀ {l : List α} {m : List β} (n : Nat),All2 R l m → All2 R (l.take n) (m.take n)
 | _,_,0,_ => .nil
 | _,_,_ + 1,.nil => .nil
 | _,_,n + 1,.cons a t => .cons a (zGG n t)
theorem zb2 {m : List Op} (h : All2 (SimB l v) (lowL l v) m) : Got l v m:=by
 unfold Got
 rw [← h.length_eq,List.take_length]
 exact h
theorem zWV {m : List Op} (h : All2 (SimB l v) (lowL l v) m) {n : Nat} (hn : n ≤ m.length) : Got l v (m.take n):=by
 unfold Got
 rw [List.length_take,Nat.min_eq_left hn]
 exact zGG n h
end Go.Proofs.YtklfocnoenjgdaaGreat
namespace Go.Proofs.YtklfocnoenjgdaaGreat
open Go Go.Ax
abbrev zFQ (x : CellV) : List AV:=[U8 x.id.hd.lb.lv,U32 x.id.hd.lb.cats,U8 x.id.hd.num,I64 x.id.c,I32 x.ch]
abbrev zdH (x : CellV) : AV:=.agg (zFQ x)
def zDS (r : List AV) (x : CellV) : Prop:=r = zFQ x ∧ x.id.ok
theorem zWS (x : CellV) : ∀ y ∈ zFQ x,Fz y:=fun y hy=>by
 simp only [zFQ,List.mem_cons,List.not_mem_nil,or_false] at hy
 rcases hy with rfl | rfl | rfl | rfl | rfl <;> exact zCR _ _
theorem zKG : FzT zDS:=fun r x h=>by rw [h.1]; exact zWS x
theorem CellV.eta (x : CellV) : CellV.mk x.id x.ch = x:=rfl
theorem zZJ (a0 : Int) (a1 : Int) (a2 : Int) (a3 : Int) (a4 : Int) : PT.iss [.st [.st [.st [.int .u8,.int .u32],.int .u8],.int .i64],.int .i32] [.int .u8 a0,.int .u32 a1,.int .u8 a2,.int .i64 a3,.int .i32 a4]:=by
 simp only [PT.iss,PT.is]
 exact ⟨[.int .u8 a0,.int .u32 a1,.int .u8 a2,.int .i64 a3],[.int .i32 a4],rfl,⟨[.int .u8 a0,.int .u32 a1,.int .u8 a2],[.int .i64 a3],rfl,⟨[.int .u8 a0,.int .u32 a1],[.int .u8 a2],rfl,⟨[.int .u8 a0],[.int .u32 a1],rfl,⟨_,rfl⟩,⟨[.int .u32 a1],[],rfl,⟨_,rfl⟩,rfl⟩⟩,⟨[.int .u8 a2],[],rfl,⟨_,rfl⟩,rfl⟩⟩,⟨[.int .i64 a3],[],rfl,⟨_,rfl⟩,rfl⟩⟩,⟨[.int .i32 a4],[],rfl,⟨_,rfl⟩,rfl⟩⟩
def zY4 (d : Option AV) (u v : AV) : Option AV:=match u,v with
 | .agg [.sc (.int .u8 a0),.sc (.int .u32 a1),.sc (.int .u8 a2),.sc (.int .i64 a3),.sc (.int .i32 a4)],.agg [.sc (.int .u8 b0),.sc (.int .u32 b1),.sc (.int .u8 b2),.sc (.int .i64 b3),.sc (.int .i32 b4)]=>some (BL (!(decide (a0 = b0) && decide (a1 = b1) && decide (a2 = b2) && decide (a3 = b3) && decide (a4 = b4))))
 | _,_=>d
theorem pCeN {t : List AV} (i j : Nat) : zBB Tryz.prog t (mkO (.binOp .neq 50 (.tmp i) (.tmp j) 50) 4) = zY4 (zDM Tryz.prog t (mkO (.binOp .neq 50 (.tmp i) (.tmp j) 50) 4)) (zA8 t (.tmp i)) (zA8 t (.tmp j)):=by
 unfold zY4
 split
 ·rename_i a0 a1 a2 a3 a4 b0 b1 b2 b3 b4 h1 h2
  obtain ⟨r,hr,he⟩:=pEqS (P:=Tryz.prog) [.st [.st [.st [.int .u8,.int .u32],.int .u8],.int .i64],.int .i32] true 50 50 4 i j (by kernel_rfl) (by decide) (by kernel_rfl) h1 h2 rfl rfl (zZJ _ _ _ _ _) (zZJ _ _ _ _ _)
  have e : r = (decide (a0 = b0) && decide (a1 = b1) && decide (a2 = b2) && decide (a3 = b3) && decide (a4 = b4)):=by
   rw [Bool.eq_iff_iff,he]
   simp [and_assoc]
  rw [← e]
  exact hr
 ·rfl
theorem zMM (d : Option AV) (a0 a1 a2 a3 a4 : Int) (b0 b1 b2 b3 b4 : Int) : zY4 d (.agg [.sc (.int .u8 a0),.sc (.int .u32 a1),.sc (.int .u8 a2),.sc (.int .i64 a3),.sc (.int .i32 a4)]) (.agg [.sc (.int .u8 b0),.sc (.int .u32 b1),.sc (.int .u8 b2),.sc (.int .i64 b3),.sc (.int .i32 b4)]) = some (BL (!decide ((⟨⟨⟨⟨a0,a1⟩,a2⟩,a3⟩,a4⟩ : CellV) = ⟨⟨⟨⟨b0,b1⟩,b2⟩,b3⟩,b4⟩))):=by
 simp only [zY4]
 congr 4
 rw [Bool.eq_iff_iff]
 simp [and_assoc]
end Go.Proofs.YtklfocnoenjgdaaGreat
namespace Go.Proofs.YtklfocnoenjgdaaGreat
open Go Go.Ax
variable {fuel : Nat} {M : Mem} {Q : AV → Mem → Prop} {d : Nat}
def zD3 (E : List El) : List CellV:=E.map fun x=>⟨x.id,x.ch⟩
theorem zJC (E F : List El) : zD3 (E ++ F) = zD3 E ++ zD3 F:=by simp [zD3]
theorem zEO (E : List El) : (zD3 E).length = E.length:=List.length_map _
theorem zK8 {l : List Rn} (hm : ∀ r ∈ l,r.may = true) : (elsR l).length ≤ 64 * l.length:=by
 induction l with
 | nil=>simp [elsR]
 | cons r l ih =>
  have e : elsR (r :: l) = r.elR ++ elsR l:=by simp [elsR]
  have hb:=Spn.may_le (Rn.may_sp (hm r List.mem_cons_self))
  have:=ih fun q hq=>hm q (List.mem_cons_of_mem _ hq)
  rw [e,List.length_append,zB9,List.length_cons]
  omega
set_option maxHeartbeats 8000000 in
theorem za8 {a : AV} {l : List Rn} (hS : Sl 10 isRn a l) (hm : ∀ r ∈ l,r.may = true) (hl : l.length ≤ 100000) (hf : l.length + 200 < fuel) : ∃ r,Sl 5 zDS r (zD3 (elsR l)) ∧ ∀ M,zAE Tryz.prog (fsT tbl) fuel (d + 8) (.fn 25) [a] M = some (r,M):=by
 have ll:=hS.len
 refine zEC tf25 rfl (fun M=>by simp only [icyL,fun M=>hS.icy M 12 (by omega)]) ?_
 refine zAI tf25 rfl (by simp only [icyL,fun M=>hS.icy M 12 (by omega)]) (by simp [a25]) fun b' ht hx=>?_
 have h0:=hx 0 _ rfl
 clear hx
 simp only [a25,c25,zz0,zz1,zz3,zzm] at ht ⊢
 simp (maxSteps:=2000000) (disch:=first | omega | assumption | (simp only [DS,Nat.reduceAdd, *]; done) | (simp only [DZ]; omega)) only [RUN,RU,zA2,zA1,reduceIte,Nat.reduceEqDiff,h0,ll]
 refine zB8 (I:=fun n t N => ∃ (i : Nat) (o : AV),n = l.length - i ∧ i ≤ l.length ∧ nth zA5 t 2 = o ∧ nth zA5 t 10 = a ∧ nth zA5 t 11 = I64 l.length ∧ nth zA5 t 12 = I64 i ∧ Wf N ∧ N.wm = 0 ∧ SlM N 5 zDS o (zD3 (elsR (l.take i)))) (n:=l.length) (by omega) ?_ ?_
 ·refine ⟨0,NIL,rfl,Nat.zero_le _, ?_, ?_, ?_, ?_,Wf.mem0,rfl,SlM.nil⟩ <;> simp (maxSteps:=2000000) (disch:=first | omega | assumption | (simp only [DS,Nat.reduceAdd, *]; done) | (simp only [DZ]; omega)) only [RUN,reduceIte,Nat.reduceEqDiff]
  all_goals first | rfl | assumption | done
 ·rintro n t N hlt ⟨i,o,rfl,hi,g2,g10,g11,g12,w,wm,sm⟩
  simp only [ht] at hlt ⊢
  have oo:=sm.one
  have oc:=sm.cells
  by_cases hc : i < l.length
  ·have q1 : decide ((i : Int) < l.length) = true:=decide_eq_true (by omega)
   have w1 : IntKind.i64.wrap ((i : Int) + 1) = ((i + 1 : Nat) : Int):=by rw [wrap_i64] <;> omega
   obtain ⟨r,hiad,hr,hrl⟩:=hS.iad i hc
   have hts:=zCQ (l.take i) l[i]
   rw [← zBL l i hc] at hts
   have hme:=hm l[i] (List.getElem_mem hc)
   have hb:=Spn.may_le (Rn.may_sp hme)
   have hln:=zK8 (l:=l.take i) fun r hr=>hm r (List.mem_of_mem_take hr)
   rw [List.length_take] at hln
   generalize l[i] = e at *
   obtain ⟨ra,rfl,hra,hok⟩:=hr
   have ora:=hra.one
   have hat:=fun n M=>zMV (fuel:=fuel) (d:=d) (n:=n) hra (by omega) M
   have rlo:=zAW sm.rl (show N.size ≤ N.size + 1 by omega)
   have wX:=(w.add (.row false (rnR ⟨⟨Eid.z,0⟩,Eid.z,[]⟩ NIL))).upd N.size (.row false (rnR e ra))
   have gX : ((N.add (.row false (rnR ⟨⟨Eid.z,0⟩,Eid.z,[]⟩ NIL))).upd N.size (.row false (rnR e ra))).get N.size = some (.row false (rnR e ra)):=by simp (maxSteps:=2000000) (disch:=first | omega | assumption | (simp only [DS,Nat.reduceAdd, *]; done) | (simp only [DZ]; omega)) only [RUN]
   have smX : SlM ((N.add (.row false (rnR ⟨⟨Eid.z,0⟩,Eid.z,[]⟩ NIL))).upd N.size (.row false (rnR e ra))) 5 zDS o (zD3 (elsR (l.take i))):=sm.keep fun j hj=>by
    have:=sm.lt j hj
    rw [zA3 (w.add _) _ _ _ (by omega),zAF w _ _ this]
   have sX : ((N.add (.row false (rnR ⟨⟨Eid.z,0⟩,Eid.z,[]⟩ NIL))).upd N.size (.row false (rnR e ra))).size = N.size + 1:=rfl
   simp (maxSteps:=2000000) (disch:=first | omega | assumption | (simp only [DS,Nat.reduceAdd, *]; done) | (simp only [DZ]; omega)) only [RUN,RU,zA2,zA1,slot,lay,reduceIte,Nat.reduceEqDiff,Nat.reduceAdd,g10,g11,g12,q1,hiad]
   have mX : ((N.add (.row false (rnR ⟨⟨Eid.z,0⟩,Eid.z,[]⟩ NIL))).upd N.size (.row false (rnR e ra))).wm = 0:=wm
   revert wX gX smX sX mX
   generalize ((N.add _).upd N.size _) = X
   intro wX gX smX sX mX
   refine zB8 (I:=fun nk tk Nk => ∃ (ik : Nat) (p : AV),nk = e.sp.n.toNat - ik ∧ ik ≤ e.sp.n.toNat ∧ nth zA5 tk 2 = p ∧ nth zA5 tk 4 = .ptr N.size 0 ∧ nth zA5 tk 10 = a ∧ nth zA5 tk 11 = I64 l.length ∧ nth zA5 tk 12 = I64 i ∧ nth zA5 tk 18 = I64 e.sp.n ∧ nth zA5 tk 19 = I64 ik ∧ Wf Nk ∧ N.size + 1 ≤ Nk.size ∧ Nk.wm = 0 ∧ Nk.get N.size = some (.row false (rnR e ra)) ∧ SlM Nk 5 zDS p (zD3 (elsR (l.take i)) ++ zD3 (e.elR.take ik)) ∧ (∀ j,rowOf p = some j → j ≠ N.size)) (n:=e.sp.n.toNat) (by omega) ?_ ?_
   ·refine ⟨0,o,rfl,Nat.zero_le _, ?_, ?_, ?_, ?_, ?_, ?_, ?_,wX,Nat.le_of_eq sX.symm,mX,gX,(by simpa [zD3] using smX),(fun j hj=>by have:=sm.lt j hj; omega)⟩ <;> simp (maxSteps:=2000000) (disch:=first | omega | assumption | (simp only [DS,Nat.reduceAdd, *]; done) | (simp only [DZ]; omega)) only [RUN,reduceIte,Nat.reduceEqDiff,g2,g10,g11,g12]
    all_goals first | rfl | assumption | done
   ·rintro nk tk Nk hltk ⟨ik,p,rfl,hik,gk2,gk4,gk10,gk11,gk12,gk18,gk19,wk,lek,wmk,gk,smk,nrk⟩
    simp only [hlt] at hltk ⊢
    have op:=smk.one
    have cp:=smk.cells
    have lel:=zB9 e
    by_cases hck : ik < e.sp.n.toNat
    ·have q2 : decide ((ik : Int) < e.sp.n) = true:=decide_eq_true (by omega)
     have w2 : IntKind.i64.wrap ((ik : Int) + 1) = ((ik + 1 : Nat) : Int):=by rw [wrap_i64] <;> omega
     have ha0 : atE e (ik : Int) = 0:=by unfold atE; rw [if_pos hme,if_neg (by omega)]
     have hat':=hat (ik : Int)
     rw [ha0] at hat'
     simp only [if_true,Int.toNat_natCast] at hat'
     have hts2:=zBL e.elR ik (by omega)
     rw [zBU] at hts2
     have hid : (e.sp.at (ik : Int)).ok:=⟨hok.1.1.1,by show i64R (e.sp.f.c + (ik : Int)); unfold i64R; omega⟩
     have hll : (zD3 (elsR (l.take i)) ++ zD3 (e.elR.take ik)).length ≤ 64 * i + 64:=by
      rw [List.length_append,zEO,zEO,List.length_take]; omega
     simp (maxSteps:=2000000) (disch:=first | omega | assumption | (simp only [DS,Nat.reduceAdd, *]; done) | (simp only [DZ]; omega)) only [RUN,RU,zA2,zA1,slot,lay,zAJ,zAA,reduceIte,Nat.reduceEqDiff,Nat.reduceBEq,Nat.reduceAdd,gk2,gk4,gk18,gk19,q2,gk,hat']
     have wY:=(((wk.add (.row false (idR Eid.z))).add (.row false (idR Eid.z))).upd Nk.size (.row false (idR (e.sp.at (ik : Int))))).upd (Nk.size + 1) (.row false (idR (e.afAt (ik : Int))))
     have gY : ∀ j,j < Nk.size → ((((Nk.add (.row false (idR Eid.z))).add (.row false (idR Eid.z))).upd Nk.size (.row false (idR (e.sp.at (ik : Int))))).upd (Nk.size + 1) (.row false (idR (e.afAt (ik : Int))))).get j = Nk.get j:=fun j hj=>by
      rw [zA3 (((wk.add _).add _).upd _ _) _ _ _ (by omega),zA3 ((wk.add _).add _) _ _ _ (by omega),zAF (wk.add _) _ _ (by rw [zA6]; omega),zAF wk _ _ hj]
     refine ⟨zAW smk.rl (by omega), ?_⟩
     refine app1 (bytes:=32) (x:=⟨e.sp.at (ik : Int),e.rs.getD ik 0⟩) wY (smk.keep fun j hj=>gY j (smk.lt j hj)) zKG ⟨rfl,hid⟩ rfl (by omega) (by omega) (by omega) fun p2 M2 m2 wf2 le2 kp2 nw2 wm2 rl2 on2 oc2=>?_
     simp only [zA9,zA6] at le2
     simp (maxSteps:=2000000) (disch:=first | omega | assumption | (simp only [DS,Nat.reduceAdd, *]; done) | (simp only [DZ]; omega)) only [RUN,RU,zA2,zA1,reduceIte,Nat.reduceEqDiff,gk2,gk4,gk10,gk11,gk12,gk18,gk19,wf2,w2]
     refine ⟨hltk,e.sp.n.toNat - (ik + 1),by omega,ik + 1,p2,rfl,by omega,rfl,rfl,by omega,wm2.trans wmk, ?_, ?_,fun j hj=>?_⟩
     ·rw [kp2 N.size (by simp only [zA9,zA6]; omega) (fun h=>nrk _ h rfl),gY N.size (by omega)]; exact gk
     ·rw [hts2,zJC,← List.append_assoc]; exact m2
     ·rcases nw2 j hj with h | h
      ·exact nrk j h
      ·simp only [zA9,zA6] at h; omega
    ·obtain rfl : ik = e.sp.n.toNat:=by omega
     have q2 : decide (((e.sp.n.toNat : Nat) : Int) < e.sp.n) = false:=decide_eq_false (by omega)
     rw [List.take_of_length_le (Nat.le_of_eq lel)] at smk
     simp (maxSteps:=2000000) (disch:=first | omega | assumption | (simp only [DS,Nat.reduceAdd, *]; done) | (simp only [DZ]; omega)) only [RUN,RU,zA2,zA1,reduceIte,Nat.reduceEqDiff,gk2,gk10,gk11,gk12,gk18,gk19,q2,w1]
     exact ⟨hltk,l.length - (i + 1),by omega,i + 1,p,rfl,by omega,rfl,rfl,wk,wmk,by rw [hts,zJC]; exact smk⟩
  ·obtain rfl : i = l.length:=by omega
   have q1 : decide ((l.length : Int) < l.length) = false:=decide_eq_false (by omega)
   rw [List.take_length] at sm
   obtain ⟨ro,hz,hs⟩:=sm.frz zKG.cel (k:=12) (by omega)
   simp (maxSteps:=2000000) (disch:=first | omega | assumption | (simp only [DS,Nat.reduceAdd, *]; done) | (simp only [DZ]; omega)) only [RUN,RU,zA2,zA1,zA0,zAB,frzL,reduceIte,Nat.reduceEqDiff,g2,g11,g12,hz]
   exact ⟨_,hs,rfl⟩
end Go.Proofs.YtklfocnoenjgdaaGreat
namespace Go.Proofs.YtklfocnoenjgdaaGreat
open Go Go.Ax
variable {fuel : Nat} {M : Mem} {Q : AV → Mem → Prop} {d : Nat} {low : List Op} {al : AV} {v : Lb}
def zHX (l : List Op) (v : Lb) (c : CellV) : CellV:=⟨c.id,if zBS l c.id v = true then c.ch else -1⟩
def zID (l : List Op) (v : Lb) (c : List CellV) : List CellV:=(c.filter fun x => !zGO l x.id).map (zHX l v)
theorem zRA (l : List Op) (v : Lb) (c : List CellV) (x : CellV) : zID l v (c ++ [x]) = zID l v c ++ (if zGO l x.id = true then [] else [zHX l v x]):=by
 unfold zID
 rw [List.filter_append,List.map_append]
 cases h : zGO l x.id <;> simp [h]
theorem zTK (l : List Op) (v : Lb) (c : List CellV) : (zID l v c).length ≤ c.length:=by
 unfold zID
 rw [List.length_map]
 exact List.length_filter_le _ _
set_option maxHeartbeats 4000000 in
theorem zW1 {bl bv : Nat} {c : CellV} (hS : Sl 17 isOp al low) (hh : zAP [] low = true) (hl : low.length ≤ 10000) (hf : low.length + 400 < fuel) (hc : c.id.ok) (wf : Wf M) (hw : M.wm ≤ M.size) (g1 : M.get bl = some (.row false [al])) (g2 : M.get bv = some (.row false (lbR v))) (k : ∀ N,Kept M N → Q (.tup [zdH (zHX low v c),BL (!zGO low c.id)]) N) : W3 (zAE Tryz.prog (fsT tbl) fuel (d + 16) (.fn 26) [zdH c,.ptr bl 0,.ptr bv 0] M) Q:=by
 have l1:=Mem.get_lt g1
 have l2:=Mem.get_lt g2
 have oa:=hS.one
 have hgo:=fun M=>zWU (fuel:=fuel) (d:=d) (x:=c.id) hS hl hf M
 have hsh:=fun M=>zN0 (fuel:=fuel) (d:=d + 4) (v:=v) hS (by omega) (by omega) hc M
 simp only [hh,Bool.true_and] at hgo
 have kk:=fun q r=>(((((Kept.refl wf).add (.row false (zFQ c))).add (.row false (zFQ ⟨Eid.z,0⟩))).upd hw (Nat.le_refl _) q).upd hw (Nat.le_succ M.size) r)
 have kk1:=fun r=>((((Kept.refl wf).add (.row false (zFQ c))).add (.row false (zFQ ⟨Eid.z,0⟩))).upd hw (Nat.le_succ M.size) r)
 unfold zHX at k
 refine zAZ tf26 rfl (by simp [a26]) fun b' ht hx=>?_
 have h0:=hx 0 _ rfl
 have h1:=hx 1 _ rfl
 have h2:=hx 2 _ rfl
 clear hx
 simp only [a26,c26,zz0,zzm] at ht ⊢
 cases q : zBS low c.id v with
 | true =>
  rw [q] at k
  simp only [q] at hsh
  rw [if_pos rfl] at k
  simp (maxSteps:=2000000) (disch:=first | omega | assumption | (simp only [DS,Nat.reduceAdd, *]; done) | (simp only [DZ]; omega)) only [RUN,RU,zA2,zA1,zA0,zAB,slot,lay,reduceIte,Nat.reduceEqDiff,Nat.reduceAdd,h0,h1,h2,g1,g2,hgo,hsh]
  exact k _ (kk1 _)
 | false =>
  rw [q] at k
  simp only [q] at hsh
  rw [if_neg (by decide)] at k
  simp (maxSteps:=2000000) (disch:=first | omega | assumption | (simp only [DS,Nat.reduceAdd, *]; done) | (simp only [DZ]; omega)) only [RUN,RU,zA2,zA1,zA0,zAB,slot,lay,reduceIte,Nat.reduceEqDiff,Nat.reduceAdd,h0,h1,h2,g1,g2,hgo,hsh]
  exact k _ (kk _ _)
set_option maxHeartbeats 8000000 in
theorem zcJ {a : AV} {cs : List CellV} {bl bv : Nat} (hA : Sl 5 zDS a cs) (hcl : cs.length ≤ 1000000) (hS : Sl 17 isOp al low) (hh : zAP [] low = true) (hl : low.length ≤ 10000) (hf : low.length + cs.length + 400 < fuel) (wf : Wf M) (hw : M.wm ≤ M.size) (m1 : M.get bl = some (.row false [al])) (m2 : M.get bv = some (.row false (lbR v)))
  (k : ∀ o N,Wf N → M.size ≤ N.size → (∀ j,j < M.size → N.get j = M.get j) → SlM N 5 zDS o (zID low v cs) → (∀ j,rowOf o = some j → M.size ≤ j) → N.wm = M.wm → Q o N) :
  W3 (zAE Tryz.prog (fsT tbl) fuel (d + 17) (.fn 24) [a,.fn 26 [] [.ptr bl 0,.ptr bv 0]] M) Q:=by
 have la:=hA.len
 have l1:=Mem.get_lt m1
 have l2:=Mem.get_lt m2
 refine zAZ tf24 rfl (by simp [a24]) fun b' ht hx=>?_
 have h0:=hx 0 _ rfl
 have h1:=hx 1 _ rfl
 clear hx
 simp only [a24,c24,zz0,zzm] at ht ⊢
 simp (maxSteps:=2000000) (disch:=first | omega | assumption | (simp only [DS,Nat.reduceAdd, *]; done) | (simp only [DZ]; omega)) only [RUN,RU,zA2,zA1,reduceIte,Nat.reduceEqDiff,h0,la]
 refine zB8 (I:=fun n t N => ∃ (i : Nat) (o : AV),n = cs.length - i ∧ i ≤ cs.length ∧ nth zA5 t 1 = .fn 26 [] [.ptr bl 0,.ptr bv 0] ∧ nth zA5 t 4 = o ∧ nth zA5 t 9 = a ∧ nth zA5 t 10 = I64 cs.length ∧ nth zA5 t 11 = I64 i ∧ Wf N ∧ M.size ≤ N.size ∧ (∀ j,j < M.size → N.get j = M.get j) ∧ N.wm = M.wm ∧ SlM N 5 zDS o (zID low v (cs.take i)) ∧ (∀ j,rowOf o = some j → M.size ≤ j)) (n:=cs.length) (by omega) ?_ ?_
 ·refine ⟨0,NIL,rfl,Nat.zero_le _, ?_, ?_, ?_, ?_, ?_,wf,Nat.le_refl _,(fun _ _=>rfl),rfl,SlM.nil,(fun _ h=>by cases h)⟩ <;> simp (maxSteps:=2000000) (disch:=first | omega | assumption | (simp only [DS,Nat.reduceAdd, *]; done) | (simp only [DZ]; omega)) only [RUN,reduceIte,Nat.reduceEqDiff,h1]
  all_goals first | rfl | assumption | done
 ·rintro n t N hlt ⟨i,o,rfl,hi,g1,g4,g9,g10,g11,w,le,kp,wm,sm,nr⟩
  simp only [ht] at hlt ⊢
  have oo:=sm.one
  have oc:=sm.cells
  by_cases hc : i < cs.length
  ·have q1 : decide ((i : Int) < cs.length) = true:=decide_eq_true (by omega)
   have w1 : IntKind.i64.wrap ((i : Int) + 1) = ((i + 1 : Nat) : Int):=by rw [wrap_i64] <;> omega
   obtain ⟨r,hiad,hr,hrl⟩:=hA.iad i hc
   have hts:=zRA low v (cs.take i) cs[i]
   rw [← take_snoc cs i hc] at hts
   have hkl:=zTK low v (cs.take i)
   rw [List.length_take] at hkl
   generalize cs[i] = c at *
   obtain ⟨rfl,hok⟩:=hr
   have hwN : N.wm ≤ N.size:=by rw [wm]; exact Nat.le_trans hw le
   have kX:=((Kept.refl w).add (.row false (zFQ ⟨Eid.z,0⟩))).upd hwN (Nat.le_refl _) (.row false (zFQ c))
   simp (maxSteps:=2000000) (disch:=first | omega | assumption | (simp only [DS,Nat.reduceAdd, *]; done) | (simp only [DZ]; omega)) only [RUN,RU,zA2,zA1,slot,lay,reduceIte,Nat.reduceEqDiff,Nat.reduceAdd,g1,g9,g10,g11,q1,hiad]
   refine zW1 (d:=d) (c:=c) hS hh hl (by omega) hok kX.wf (by rw [kX.wm]; exact Nat.le_trans hwN kX.le) ((kX.get bl (by omega)).trans ((kp bl l1).trans m1)) ((kX.get bv (by omega)).trans ((kp bv l2).trans m2)) fun N2 k2=>?_
   have w2:=k2.wf
   have k3:=kX.trans k2
   have le2:=k2.le
   simp only [zA9,zA6] at le2
   have smX : SlM N2 5 zDS o (zID low v (cs.take i)):=sm.keep fun j hj=>by
    have:=sm.lt j hj
    rw [k2.get j (by simp only [zA9,zA6]; omega),zA3 (w.add _) _ _ _ (by omega),zAF w _ _ this]
   have smY : ∀ y z,SlM ((N2.add y).upd N2.size z) 5 zDS o (zID low v (cs.take i)):=fun y z=>smX.keep fun j hj=>by
    have:=smX.lt j hj
    rw [zA3 (w2.add _) _ _ _ (by omega),zAF w2 _ _ this]
   cases q2 : zGO low c.id with
   | true =>
    rw [q2,if_pos rfl,List.append_nil] at hts
    have k4:=(k3.add (.row false (zFQ ⟨Eid.z,0⟩))).upd hwN k3.le (.row false (zFQ (zHX low v c)))
    simp (maxSteps:=2000000) (disch:=first | omega | assumption | (simp only [DS,Nat.reduceAdd, *]; done) | (simp only [DZ]; omega)) only [RUN,RU,zA2,zA1,lay,reduceIte,Nat.reduceEqDiff,Nat.reduceAdd,g1,g4,g9,g10,g11,w2,w1]
    exact ⟨hlt,cs.length - (i + 1),by omega,i + 1,o,rfl,by omega,rfl,rfl,by have:=k3.le; omega,fun j hj=>(k4.get j (by omega)).trans (kp j hj),k4.wm.trans wm,by rw [hts]; exact smY _ _,nr⟩
   | false =>
    rw [q2,if_neg (by decide)] at hts
    simp (maxSteps:=2000000) (disch:=first | omega | assumption | (simp only [DS,Nat.reduceAdd, *]; done) | (simp only [DZ]; omega)) only [RUN,RU,zA2,zA1,slot,lay,zAJ,zAA,reduceIte,Nat.reduceEqDiff,Nat.reduceBEq,Nat.reduceAdd,g4]
    refine ⟨zAW smX.rl (by omega), ?_⟩
    refine app1 (bytes:=32) (x:=zHX low v c) ((w2.add _).upd _ _) (smY _ _) zKG ⟨rfl,hok⟩ rfl (by omega) (by omega) (by omega) fun p2 M2 m2' wf2 le3 kp2 nw2 wm2 rl2 on2 oc2=>?_
    simp only [zA9,zA6] at le3
    have k5:=(k3.add (.row false (zFQ ⟨Eid.z,0⟩))).upd hwN k3.le (.row false (zFQ (zHX low v c)))
    simp (maxSteps:=2000000) (disch:=first | omega | assumption | (simp only [DS,Nat.reduceAdd, *]; done) | (simp only [DZ]; omega)) only [RUN,RU,zA2,zA1,reduceIte,Nat.reduceEqDiff,g1,g4,g9,g10,g11,wf2,w1]
    refine ⟨hlt,cs.length - (i + 1),by omega,i + 1,p2,rfl,by omega,rfl,rfl, ?_,fun j hj=>?_,(wm2.trans k5.wm).trans wm,by rw [hts]; exact m2',fun j hj=>?_⟩
    ·have:=k3.le; omega
    ·rw [kp2 j (by have:=k3.le; simp only [zA9,zA6]; omega) (fun h=>by have:=nr _ h; omega)]; exact (k5.get j (by omega)).trans (kp j hj)
    ·rcases nw2 j hj with h | h
     ·exact nr j h
     ·simp only [zA9,zA6] at h; have:=k3.le; omega
  ·obtain rfl : i = cs.length:=by omega
   have q1 : decide ((cs.length : Int) < cs.length) = false:=decide_eq_false (by omega)
   rw [List.take_length] at sm
   simp (maxSteps:=2000000) (disch:=first | omega | assumption | (simp only [DS,Nat.reduceAdd, *]; done) | (simp only [DZ]; omega)) only [RUN,RU,zA2,zA1,zA0,zAB,reduceIte,Nat.reduceEqDiff,g4,g10,g11]
   exact k _ _ w le kp sm nr wm
end Go.Proofs.YtklfocnoenjgdaaGreat
namespace Go.Proofs.YtklfocnoenjgdaaGreat
open Go Go.Ax
variable {fuel : Nat} {M : Mem} {Q : AV → Mem → Prop} {d : Nat}
def cO1 : ACode:=(.seq (.region [⟨some 5,.alloc 37 (.agg #[(.int .u8 0),(.int .u32 0),(.int .u8 0),(.int .i64 0)]),none,[]⟩,⟨none,.store 4 (.tmp 5) (.tmp 12),none,[]⟩] false) (.region [⟨some 6,.alloc 37 (.agg #[(.int .u8 0),(.int .u32 0),(.int .u8 0),(.int .i64 0)]),none,[]⟩,⟨none,.store 4 (.tmp 6) (.tmp 13),none,[]⟩] false))
def cO2 : ACode:=(.block 1 (.scope (.seq (.region [⟨some 7,.alloc 37 (.agg #[(.int .u8 0),(.int .u32 0),(.int .u8 0),(.int .i64 0)]),none,[]⟩] false) (.seq .label (.seq (.block 2 (.loop (.seq (.seq (.region [⟨some 14,.load 1 false (.tmp 3),none,[]⟩,⟨some 15,.len (.tmp 14),none,[]⟩,⟨some 16,.pur (mkO (.binOp .gtr 3 (.tmp 15) (.const (.int .i64 0)) 3) 4),none,[]⟩] false) (.cond (.tmp 16) .skip (.exit 2))) (.block 3 (.seq (.region [⟨some 17,.load 1 false (.tmp 3),none,[1,2,3,6]⟩,⟨some 18,.load 1 false (.tmp 3),none,[0,6]⟩,⟨some 19,.len (.tmp 18),none,[0,6]⟩,⟨some 20,.pur (mkO (.binOp .sub 3 (.tmp 19) (.const (.int .i64 1)) 3) 3),none,[0,6]⟩,⟨some 21,.iad 4 (.tmp 17) (.tmp 20),none,[6]⟩,⟨some 22,.load 4 true (.tmp 21),none,[6]⟩,⟨some 8,.alloc 37 (.agg #[(.int .u8 0),(.int .u32 0),(.int .u8 0),(.int .i64 0)]),none,[0,1,2,3,4,5]⟩,⟨none,.store 4 (.tmp 8) (.tmp 22),none,[]⟩] false) (.seq (.seq (.region [⟨some 23,.load 4 true (.tmp 8),none,[1]⟩,⟨some 24,.load 4 true (.tmp 6),none,[0]⟩,⟨some 25,.pur (mkO (.binOp .eql 37 (.tmp 23) (.tmp 24) 37) 4),none,[]⟩] false) (.cond (.tmp 25) (.exit 2) .skip)) (.region [⟨some 26,.load 4 true (.tmp 8),none,[1,2,3,4,5]⟩,⟨some 27,.load 1 false (.tmp 3),none,[0,2,3,4,6]⟩,⟨some 28,.load 1 false (.tmp 3),none,[0,1,6]⟩,⟨some 29,.len (.tmp 28),none,[0,1,6]⟩,⟨some 30,.pur (mkO (.binOp .sub 3 (.tmp 29) (.const (.int .i64 1)) 3) 3),none,[0,1,6]⟩,⟨some 31,.slc 4 (.tmp 27) none (some (.tmp 30)) none,none,[0,6]⟩,⟨none,.store 4 (.tmp 7) (.tmp 26),none,[1,2,3,4,5]⟩,⟨none,.store 1 (.tmp 3) (.tmp 31),none,[]⟩] true))))))) (.seq (.seq (.region [⟨some 32,.load 1 false (.tmp 3),none,[]⟩,⟨some 33,.len (.tmp 32),none,[]⟩,⟨some 34,.pur (mkO (.binOp .eql 3 (.tmp 33) (.const (.int .i64 0)) 3) 4),none,[]⟩,⟨some 35,.mov (.tmp 34),none,[]⟩,⟨some 36,.load 4 true (.tmp 6),some (35,true),[5]⟩,⟨some 37,.build (.agg #[(.int .u8 0),(.int .u32 0),(.int .u8 0),(.int .i64 0)]) [],some (35,true),[4]⟩,⟨some 38,.pur (mkO (.binOp .neq 37 (.tmp 36) (.tmp 37) 37) 4),some (35,true),[]⟩,⟨some 39,.pick (.tmp 35) (.tmp 38) (.const (.bool false)),none,[]⟩,⟨some 40,.mov (.tmp 39),none,[]⟩,⟨some 41,.load 4 true (.tmp 7),some (40,false),[10]⟩,⟨some 42,.build (.agg #[(.int .u8 0),(.int .u32 0),(.int .u8 0),(.int .i64 0)]) [],some (40,false),[9]⟩,⟨some 43,.pur (mkO (.binOp .neq 37 (.tmp 41) (.tmp 42) 37) 4),some (40,false),[]⟩,⟨some 44,.mov (.tmp 43),some (40,false),[]⟩,⟨some 45,.load 4 true (.tmp 5),some (44,true),[14]⟩,⟨some 46,.load 4 true (.tmp 7),some (44,true),[13]⟩,⟨some 47,.call (.func 57) [(.tmp 45),(.tmp 46)],some (44,true),[]⟩,⟨some 48,.pur (mkO (.unOp .not 4 (.tmp 47)) 4),some (44,true),[]⟩,⟨some 49,.pick (.tmp 44) (.tmp 48) (.const (.bool false)),some (40,false),[]⟩,⟨some 50,.pick (.tmp 40) (.const (.bool true)) (.tmp 49),none,[]⟩,⟨some 51,.mov (.tmp 50),none,[]⟩,⟨some 52,.load 1 false (.tmp 4),some (51,false),[21]⟩,⟨some 53,.load 4 true (.tmp 5),some (51,false),[20]⟩,⟨some 54,.lookup 37 (.int .i64 0) (.tmp 52) (.tmp 53) false,some (51,false),[]⟩,⟨some 55,.pur (mkO (.binOp .gtr 3 (.tmp 54) (.const (.int .i64 0)) 3) 4),some (51,false),[]⟩,⟨some 56,.pick (.tmp 51) (.const (.bool true)) (.tmp 55),none,[]⟩] false) (.cond (.tmp 56) (.seq (.region [⟨none,.store 1 (.tmp 2) (.const (.bool false)),none,[]⟩] false) .ret) .skip)) (.seq (.region [⟨some 57,.load 1 false (.tmp 4),none,[1]⟩,⟨some 58,.load 4 true (.tmp 5),none,[0]⟩,⟨none,.mupd 37 (.tmp 57) (.tmp 58) (.const (.int .i64 1)),none,[]⟩] false) (.region [⟨some 59,.load 1 false (.tmp 3),none,[1,2]⟩,⟨some 60,.load 4 true (.tmp 5),none,[0]⟩,⟨some 61,.bsl 37 4 (.agg #[(.int .u8 0),(.int .u32 0),(.int .u8 0),(.int .i64 0)]) 1 [(0,4,(.tmp 60))],none,[0]⟩,⟨some 62,.app 37 4 24 (.agg #[(.int .u8 0),(.int .u32 0),(.int .u8 0),(.int .i64 0)]) (.tmp 59) (.tmp 61),none,[]⟩,⟨none,.store 1 (.tmp 3) (.tmp 62),none,[]⟩] false))))))))
structure OI (tm : List AV) (pre : List (Eid × Eid)) (O : Nat → Prop) (N : Mem) : Prop where
 wf : Wf N
 sz : 7 ≤ N.size
 g0 : N.get 0 = some (.row false [BL false])
 g1 : ∃ o,N.get 1 = some (.row false [o]) ∧ SlP N 4 zKQ o (stk pre).reverse ∧ ∀ j,rowOf o = some j → O j ∧ 7 ≤ j
 g2 : ∃ obj,N.get 2 = some obj ∧ zHR idA (I64 1) obj (pre.map (·.1))
 g3 : N.get 3 = some (.row false [.mp 2])
 g5 : N.get 5 = some (.dfr false)
 g6 : N.get 6 = some (.loop .ready none tm [12,13] cO1 cO2 5)
 o1 : O 1
 o2 : O 2
 o6 : O 6
 ol : ∀ j,O j → j < N.size ∧ (j = 1 ∨ j = 2 ∨ 6 ≤ j)
 od : Ord pre
theorem OI.keep {tm : List AV} {pre : List (Eid × Eid)} {O : Nat → Prop} {N N' : Mem} (h : OI tm pre O N) (wf : Wf N') (hs : N.size ≤ N'.size) (k : ∀ j,j < N.size → N'.get j = N.get j) : OI tm pre O N':=by
 have:=h.sz
 obtain ⟨o,h1,h2,h3⟩:=h.g1
 obtain ⟨obj,h4,h5⟩:=h.g2
 exact ⟨wf,by omega,(k 0 (by omega)).trans h.g0,⟨o,(k 1 (by omega)).trans h1,h2.keep fun j hj=>k j (h2.lt j hj),h3⟩,⟨obj,(k 2 (by omega)).trans h4,h5⟩,(k 3 (by omega)).trans h.g3,(k 5 (by omega)).trans h.g5,(k 6 (by omega)).trans h.g6,h.o1,h.o2,h.o6,fun j hj=>⟨by have:=(h.ol j hj).1; omega,(h.ol j hj).2⟩,h.od⟩
structure OS (tm : List AV) (N : Mem) : Prop where
 wf : Wf N
 sz : 7 ≤ N.size
 g0 : N.get 0 = some (.row false [BL false])
 g5 : N.get 5 = some (.dfr false)
 g6 : N.get 6 = some (.loop .done (some .ret) tm [12,13] cO1 cO2 5)
theorem zHN : FzT zKQ:=fun r x h y hy=>by
 obtain ⟨rfl,_⟩:=h
 exact zE9 x y hy
theorem zQ1 (af : Eid) : ∀ (s : List Eid) (el : Eid),(popT af s el).2.length ≤ s.length
 | [],_=>Nat.le_refl _
 | t :: s,el=>by
  rw [popT]
  split
  ·exact Nat.le_refl _
  ·exact Nat.le_trans (zQ1 af s t) (Nat.le_succ _)
theorem zcN (l : List (Eid × Eid)) : (stk l).length ≤ l.length:=by
 refine zCH (P:=fun l=>(stk l).length ≤ l.length) (Nat.le_refl _) (fun l x ih=>?_) l
 rw [zE7,List.length_cons,List.length_append]
 have:=zQ1 x.2 (stk l) Eid.z
 simp only [List.length_singleton]
 omega
set_option maxHeartbeats 16000000 in
theorem zfB {B : Nat} {tm : List AV} {pre : List (Eid × Eid)} {O : Nat → Prop} {x : Eid × Eid} (h : OI tm pre O M) (h2 : nth zA5 tm 2 = .ptr 0 0) (h3' : nth zA5 tm 3 = .ptr 1 0) (h4' : nth zA5 tm 4 = .ptr 3 0) (hlen : tm.length = 63) (hx : x.1.ok) (hn : pre.length ≤ 100000) (hf : pre.length + 10 < fuel) :
  W3 (zAE Tryz.prog (fsT tbl) fuel (d + 7) (.yl 6) [idA x.1,idA x.2] M) (fun v N'=>(v = BL true ∧ Yl (OI tm) (pre ++ [x]) O B M N') ∨ (v = BL false ∧ OS tm N' ∧ ordS x (stk pre) (pre.map (·.1)) = false)):=by
 obtain ⟨o,g1,sp,ro⟩:=h.g1
 obtain ⟨obj,gm2,hset⟩:=h.g2
 have wf:=h.wf
 have sz:=h.sz
 have hsl:=zcN pre
 have g0:=h.g0
 have g3:=h.g3
 have g6:=h.g6
 have oo:=sp.one
 refine zW0 g6 rfl ?_
 have e1 : zF7 tm [12,13] [idA x.1,idA x.2] = St tm [(13,idA x.2),(12,idA x.1)]:=rfl
 rw [e1]
 unfold cO1 cO2
 simp (maxSteps:=2000000) (disch:=first | omega | assumption | (simp only [DS,Nat.reduceAdd, *]; done) | (simp only [DZ]; omega)) only [RUN,RU,zA2,zA1,lay,reduceIte,Nat.reduceEqDiff,Nat.reduceAdd,wf]
 refine ⟨tm,[12,13],_,_,5,g6, ?_⟩
 generalize hX : ((((((M.add _).upd M.size _).add _).upd (M.size + 1) _).upd 6 _).add _) = X
 have wX : Wf X:=by rw [← hX]; exact ((((((wf.add _).upd _ _).add _).upd _ _).upd _ _).add _)
 have sX : X.size = M.size + 1 + 1 + 1:=by rw [← hX]; rfl
 have gX : ∀ j,j < M.size → j ≠ 6 → X.get j = M.get j:=fun j a b=>by
  rw [← hX,zAF (((((wf.add _).upd _ _).add _).upd _ _).upd _ _) _ _ (by simp only [zA9,zA6]; omega),zA3 ((((wf.add _).upd _ _).add _).upd _ _) _ _ _ (fun e=>b e.symm),zA3 (((wf.add _).upd _ _).add _) _ _ _ (by omega),zAF ((wf.add _).upd _ _) _ _ (by simp only [zA9,zA6]; omega),zA3 (wf.add _) _ _ _ (by omega),zAF wf _ _ a]
 have x6 : X.get 6 = some (.loop .busy none tm [12,13] cO1 cO2 5):=by
  rw [← hX,zAF (((((wf.add _).upd _ _).add _).upd _ _).upd _ _) _ _ (by simp only [zA9,zA6]; omega),zAG ((((wf.add _).upd _ _).add _).upd _ _) _ _ (by simp only [zA9,zA6]; omega)]
 have xa : X.get M.size = some (.row false (idR x.1)):=by
  rw [← hX,zAF (((((wf.add _).upd _ _).add _).upd _ _).upd _ _) _ _ (by simp only [zA9,zA6]; omega),zA3 ((((wf.add _).upd _ _).add _).upd _ _) _ _ _ (by omega),zA3 (((wf.add _).upd _ _).add _) _ _ _ (by omega),zAF ((wf.add _).upd _ _) _ _ (by simp only [zA9,zA6]; omega),zAG (wf.add _) _ _ (by simp only [zA6]; omega)]
 have xb : X.get (M.size + 1) = some (.row false (idR x.2)):=by
  rw [← hX,zAF (((((wf.add _).upd _ _).add _).upd _ _).upd _ _) _ _ (by simp only [zA9,zA6]; omega),zA3 ((((wf.add _).upd _ _).add _).upd _ _) _ _ _ (by omega),zAG (((wf.add _).upd _ _).add _) _ _ (by simp only [zA9,zA6]; omega)]
 have xc : X.get (M.size + 1 + 1) = some (.row false (idR Eid.z)):=by
  rw [← hX]
  exact zAH (((((wf.add _).upd _ _).add _).upd _ _).upd _ _) _ _ (by simp only [zA9,zA6]; omega) (by simp only [zA9,zA6]; omega)
 clear hX
 have spX : SlP X 4 zKQ o (stk pre).reverse:=sp.keep fun j hj=>gX j (sp.lt j hj) (by have:=ro j hj; omega)
 refine zB8 (I:=fun n t N => ∃ (i : Nat) (o' : AV),n = (stk pre).length - i ∧ i ≤ (stk pre).length ∧ nth zA5 t 2 = .ptr 0 0 ∧ nth zA5 t 3 = .ptr 1 0 ∧ nth zA5 t 4 = .ptr 3 0 ∧ nth zA5 t 5 = .ptr M.size 0 ∧ nth zA5 t 6 = .ptr (M.size + 1) 0 ∧ nth zA5 t 7 = .ptr (M.size + 1 + 1) 0 ∧ Wf N ∧ X.size ≤ N.size ∧ (∀ j,j < M.size → j ≠ 1 → N.get j = X.get j) ∧ N.get 1 = some (.row false [o']) ∧ SlP N 4 zKQ o' ((stk pre).drop i).reverse ∧ rowOf o' = rowOf o ∧ N.get M.size = some (.row false (idR x.1)) ∧ N.get (M.size + 1) = some (.row false (idR x.2)) ∧ N.get (M.size + 1 + 1) = some (.row false (idR (((stk pre).take i).getLast?.getD Eid.z))) ∧ (∀ t ∈ (stk pre).take i,t ≠ x.2)) (n:=(stk pre).length) (by omega) ?_ ?_
 ·refine ⟨0,o,rfl,Nat.zero_le _, ?_, ?_, ?_, ?_, ?_, ?_,wX,Nat.le_refl _,(fun _ _ _=>rfl),((gX 1 (by omega) (by omega)).trans g1),(by rw [List.drop_zero]; exact spX),rfl,xa,xb,(by rw [List.take_zero]; exact xc),(fun t ht=>absurd ht (by simp))⟩ <;> simp (maxSteps:=2000000) (disch:=first | omega | assumption | (simp only [DS,Nat.reduceAdd, *]; done) | (simp only [DZ]; omega)) only [RUN,reduceIte,Nat.reduceEqDiff,h2,h3',h4']
  all_goals first | rfl | assumption | done
 ·rintro n t N hlt ⟨i,o',rfl,hi,g2,g3,g4,g5,g6,g7,w,le,kk,c1,spN,ro',ca,cb,cc,hm⟩
  simp only [hlen] at hlt ⊢
  have olen:=spN.len
  have oo':=spN.one
  rw [List.length_reverse,List.length_drop] at olen
  have l1:=Mem.get_lt c1
  have la:=Mem.get_lt ca
  have lb:=Mem.get_lt cb
  have lc:=Mem.get_lt cc
  by_cases hc : i < (stk pre).length
  ·have q1 : decide ((0 : Int) < ((stk pre).length - i : Nat)) = true:=decide_eq_true (by omega)
   have hil : (stk pre).length - i - 1 < ((stk pre).drop i).reverse.length:=by rw [List.length_reverse,List.length_drop]; omega
   obtain ⟨rid,cs,r,hrow,lrid,hgr,hiad,hr,hrl,hpt⟩:=spN.at hil
   have w1 : IntKind.i64.wrap (((stk pre).length - i : Nat) - 1) = ((stk pre).length - i - 1 : Nat):=by rw [wrap_i64] <;> omega
   obtain ⟨oc,hslc,spc,roc⟩:=spN.cut (by omega) (n:=(stk pre).length - i - 1) (by omega)
   have hel : ((stk pre).drop i).reverse[(stk pre).length - i - 1] = (stk pre)[i]:=by
    rw [List.getElem_reverse,List.getElem_drop]
    congr 1
    rw [List.length_drop]; omega
   rw [hel] at hr
   obtain ⟨rfl,hrok⟩:=hr
   simp (maxSteps:=2000000) (disch:=first | omega | assumption | (simp only [DS,Nat.reduceAdd, *]; done) | (simp only [DZ]; omega)) only [RUN,RU,zA2,zA1,slot,lay,reduceIte,Nat.reduceEqDiff,Nat.reduceAdd,g3,g6,olen,q1,w1,c1,hiad,hgr,hpt,cb,↓pIdE,zAS,ETA]
   by_cases hte : (stk pre)[i] = x.2
   ·have q2 : decide ((stk pre)[i] = x.2) = true:=decide_eq_true hte
    have hpop:=zIQ (el:=Eid.z) (q:=(stk pre).drop i) hm (.inr ⟨(stk pre).drop (i + 1),by rw [List.drop_eq_getElem_cons hc,hte]⟩)
    rw [List.take_append_drop] at hpop
    have hne : decide (((((stk pre).length - i : Nat) : Int)) = 0) = false:=decide_eq_false (by omega)
    have hqz : decide ((stk pre).drop i = []) = false:=decide_eq_false (fun e=>by have:=congrArg List.length e; rw [List.length_drop] at this; simp at this; omega)
    simp (maxSteps:=2000000) (disch:=first | omega | assumption | (simp only [DS,Nat.reduceAdd, *]; done) | (simp only [DZ]; omega)) only [RUN,RU,zA2,zA1,reduceIte,Nat.reduceEqDiff,g3,olen,q2,c1]
    generalize hY : (N.add _).upd N.size _ = Y
    have wY : Wf Y:=by rw [← hY]; exact (w.add _).upd _ _
    have lY : N.size ≤ Y.size:=by rw [← hY,zA9,zA6]; omega
    have kY : ∀ j,j < N.size → Y.get j = N.get j:=fun j hj=>by
     rw [← hY,zA3 (w.add _) _ _ _ (by omega),zAF w _ _ hj]
    clear hY
    have y0 : Y.get 0 = some (.row false [BL false]):=(kY 0 (by omega)).trans ((kk 0 (by omega) (by omega)).trans ((gX 0 (by omega) (by omega)).trans h.g0))
    have y1:=(kY 1 (by omega)).trans c1
    have y2:=(kY 2 (by omega)).trans ((kk 2 (by omega) (by omega)).trans ((gX 2 (by omega) (by omega)).trans gm2))
    have y3:=(kY 3 (by omega)).trans ((kk 3 (by omega) (by omega)).trans ((gX 3 (by omega) (by omega)).trans h.g3))
    have y6:=(kY 6 (by omega)).trans ((kk 6 (by omega) (by omega)).trans x6)
    have ya:=(kY _ (by omega)).trans ca
    have yb:=(kY _ (by omega)).trans cb
    have yc:=(kY _ (by omega)).trans cc
    have yj : ∀ j,j < M.size → j ≠ 1 → j ≠ 6 → Y.get j = M.get j:=fun j a b c=>(kY j (by omega)).trans ((kk j a b).trans (gX j a c))
    have spY : SlP Y 4 zKQ o' ((stk pre).drop i).reverse:=spN.keep fun j hj=>kY j (spN.lt j hj)
    clear kY kk w c1 ca cb cc spN l1 la lb lc
    have l1:=Mem.get_lt y1
    have la:=Mem.get_lt ya
    have lb:=Mem.get_lt yb
    have lc:=Mem.get_lt yc
    have l2:=Mem.get_lt y2
    have l3:=Mem.get_lt y3
    have l0:=Mem.get_lt y0
    have hlk:=zPM zKL (z:=.int .i64 0) y2 hset x.1
    unfold ordS
    rw [hpop]
    simp only [hqz]
    have hql : ((stk pre).drop i).length ≤ pre.length:=by rw [List.length_drop]; omega
    generalize (stk pre).drop i = q at *
    generalize ((stk pre).take i).getLast?.getD Eid.z = el at *
    have hls:=fun M=>@zEU fuel (d + 4) x.1 el M
    have c2 : True:=trivial
    cases c3 : decide (el = Eid.z)
    ·cases c4 : x.1.less el
     ·rw [c4] at hls
      simp (maxSteps:=2000000) (disch:=first | omega | assumption | (simp only [DS,Nat.reduceAdd, *]; done) | (simp only [DZ]; omega)) only [RUN,RU,zA2,zA1,slot,lay,zAJ,reduceIte,Nat.reduceEqDiff,g2,g5,g7,hne,y0,ya,yc,wY,↓pIdN,zB5,ETA,c3,hls]
      have os : OS tm ((Y.upd 0 (.row false [BL false])).upd 6 (.loop .done (some .ret) tm [12,13] cO1 cO2 5)):=by
       refine ⟨(wY.upd _ _).upd _ _,by simp only [zA9]; omega, ?_, ?_, ?_⟩
       ·rw [zA3 (wY.upd _ _) _ _ _ (by omega)]
        exact zAG wY _ _ l0
       ·rw [zA3 (wY.upd _ _) _ _ _ (by omega),zA3 wY _ _ _ (by omega)]
        exact (yj 5 (by omega) (by omega) (by omega)).trans h.g5
       ·exact zAG (wY.upd _ _) _ _ (by simp only [zA9]; omega)
      refine ⟨_,_,_,_,_,_,_,y6,.inr (.inr ?_)⟩
      first
      | exact os
      | exact ⟨os,by simp [*]⟩
     ·rw [c4] at hls
      by_cases c5 : x.1 ∈ pre.map (·.1)
      ·simp only [c5,if_true] at hlk
       simp (maxSteps:=2000000) (disch:=first | omega | assumption | (simp only [DS,Nat.reduceAdd, *]; done) | (simp only [DZ]; omega)) only [RUN,RU,zA2,zA1,slot,lay,zAJ,reduceIte,Nat.reduceEqDiff,Int.reduceLT,g2,g4,g5,g7,hne,y0,y3,ya,yc,wY,↓pIdN,zB5,ETA,c3,hls,x_lk,hlk]
       have os : OS tm ((Y.upd 0 (.row false [BL false])).upd 6 (.loop .done (some .ret) tm [12,13] cO1 cO2 5)):=by
        refine ⟨(wY.upd _ _).upd _ _,by simp only [zA9]; omega, ?_, ?_, ?_⟩
        ·rw [zA3 (wY.upd _ _) _ _ _ (by omega)]
         exact zAG wY _ _ l0
        ·rw [zA3 (wY.upd _ _) _ _ _ (by omega),zA3 wY _ _ _ (by omega)]
         exact (yj 5 (by omega) (by omega) (by omega)).trans h.g5
        ·exact zAG (wY.upd _ _) _ _ (by simp only [zA9]; omega)
       refine ⟨_,_,_,_,_,_,_,y6,.inr (.inr ?_)⟩
       first
       | exact os
       | exact ⟨os,by simp [*]⟩
      ·simp only [c5,if_false] at hlk
       simp (maxSteps:=2000000) (disch:=first | omega | assumption | (simp only [DS,Nat.reduceAdd, *]; done) | (simp only [DZ]; omega)) only [RUN,RU,zA2,zA1,slot,zAJ,reduceIte,Nat.reduceEqDiff,g4,g5,g7,hne,y3,ya,yc,↓pIdN,zB5,ETA,c3,hls,x_lk,hlk,x_mu]
       refine zM8 zKL wY l2 y2 hset x.1 fun obj' hset'=>?_
       simp only [c5,if_false] at hset'
       simp (maxSteps:=2000000) (disch:=first | omega | assumption | (simp only [DS,Nat.reduceAdd, *]; done) | (simp only [DZ]; omega)) only [RUN,RU,zA2,zA1,slot,lay,zAJ,zAA,reduceIte,Nat.reduceEqDiff,Nat.reduceBEq,Nat.reduceAdd,g3,g5,y1,ya]
       refine ⟨spY.rows (by omega),SlP.app1 (bytes:=24) (x:=x.1) (wY.upd 2 obj') (spY.keep fun j hj=>zA3 wY _ _ _ (by have:=(ro j (ro' ▸ hj)).2; omega)) zHN ⟨rfl,hx⟩ rfl (by omega) (by rw [List.length_reverse]; omega) (by rw [List.length_reverse]; omega) fun o2 M2 sp2 w2 le2 kp2 nw2 rl2 on2 oc2=>?_⟩
       rw [zA9] at le2 kp2 nw2
       have hS : ordS x (stk pre) (pre.map (·.1)) = true:=by
        unfold ordS
        rw [hpop]
        simp [*]
       have hst : (stk (pre ++ [x])).reverse = q.reverse ++ [x.1]:=by rw [zE7,hpop,List.reverse_cons]
       have ro2 : ∀ j,rowOf o' = some j → O j ∧ 7 ≤ j:=fun j hj=>ro j (ro' ▸ hj)
       have k2 : ∀ j,j < M.size → j ≠ 1 → j ≠ 2 → j ≠ 6 → rowOf o' ≠ some j → M2.get j = M.get j:=fun j a b c e f=>by
        rw [kp2 j (by omega) f,zA3 wY _ _ _ (fun e=>c e.symm)]
        exact yj j a b e
       have m6 : M2.get 6 = some (.loop .busy none tm [12,13] cO1 cO2 5):=by
        rw [kp2 6 (by omega) (fun e=>by have:=(ro2 6 e).2; omega),zA3 wY _ _ _ (by omega)]
        exact y6
       have m2 : M2.get 2 = some obj':=by
        rw [kp2 2 (by omega) (fun e=>by have:=(ro2 2 e).2; omega)]
        exact zAG wY _ _ l2
       have m1 : 1 < M2.size:=by omega
       have n1 : M2.get 1 = some (.row false [o']):=by
        rw [kp2 1 (by omega) (fun e=>by have:=(ro2 1 e).2; omega),zA3 wY _ _ _ (by omega)]
        exact y1
       simp (maxSteps:=2000000) (disch:=first | omega | assumption | (simp only [DS,Nat.reduceAdd, *]; done) | (simp only [DZ]; omega)) only [RUN,RU,zA2,zA1,lay,reduceIte,Nat.reduceEqDiff,g3,oc2,w2,m6,n1]
       have yl : Yl (OI tm) (pre ++ [x]) O B M ((M2.upd 1 (.row false [o2])).upd 6 (.loop .ready none tm [12,13] cO1 cO2 5)):=by
        have wZ:=w2.upd 1 (.row false [o2])
        have zk : ∀ j,j ≠ 1 → j ≠ 6 → ((M2.upd 1 (.row false [o2])).upd 6 (.loop .ready none tm [12,13] cO1 cO2 5)).get j = M2.get j:=fun j a b=>by
         rw [zA3 wZ _ _ _ (fun e=>b e.symm),zA3 w2 _ _ _ (fun e=>a e.symm)]
        have nro : ∀ j,j < 7 → rowOf o' ≠ some j:=fun j hj e=>by have:=(ro2 j e).2; omega
        have no2 : ∀ j,rowOf o2 = some j → 7 ≤ j ∧ (O j ∨ M.size ≤ j):=fun j hj=>by
         rcases nw2 j hj with e | e
         ·exact ⟨(ro2 j e).2,.inl (ro2 j e).1⟩
         ·exact ⟨by omega,.inr (by omega)⟩
        refine ⟨⟨fun j=>O j ∨ rowOf o2 = some j,⟨wZ.upd _ _,by simp only [zA9]; omega, ?_,⟨o2, ?_, ?_,fun j hj=>⟨.inr hj,(no2 j hj).1⟩⟩,⟨obj', ?_, ?_⟩, ?_, ?_, ?_,.inl h.o1,.inl h.o2,.inl h.o6, ?_,h.od.snoc hS⟩, ?_⟩,wZ.upd _ _,by simp only [zA9]; omega, ?_⟩
        ·rw [zk 0 (by omega) (by omega),k2 0 (by omega) (by omega) (by omega) (by omega) (nro 0 (by omega))]; exact h.g0
        ·rw [zA3 wZ _ _ _ (by omega)]; exact zAG w2 _ _ m1
        ·rw [hst]
         exact sp2.keep fun j hj=>zk j (by have:=(no2 j hj).1; omega) (by have:=(no2 j hj).1; omega)
        ·rw [zk 2 (by omega) (by omega)]; exact m2
        ·rw [List.map_append]; exact hset'
        ·rw [zk 3 (by omega) (by omega),k2 3 (by omega) (by omega) (by omega) (by omega) (nro 3 (by omega))]; exact h.g3
        ·rw [zk 5 (by omega) (by omega),k2 5 (by omega) (by omega) (by omega) (by omega) (nro 5 (by omega))]; exact h.g5
        ·exact zAG wZ _ _ (by simp only [zA9]; omega)
        ·intro j hj
         simp only [zA9]
         rcases hj with hj | hj
         ·exact ⟨by have:=(h.ol j hj).1; omega,(h.ol j hj).2⟩
         ·exact ⟨sp2.lt j hj,.inr (.inr (by have:=(no2 j hj).1; omega))⟩
        ·rintro j (hj | hj)
         ·exact .inl hj
         ·exact (no2 j hj).2
        ·intro j hj hO
         have h1 : j ≠ 1:=fun e=>hO (e ▸ h.o1)
         have h2 : j ≠ 2:=fun e=>hO (e ▸ h.o2)
         have h6 : j ≠ 6:=fun e=>hO (e ▸ h.o6)
         rw [zk j h1 h6]
         exact k2 j hj h1 h2 h6 fun e=>hO (ro2 j e).1
       exact ⟨_,_,_,_,_,_,_,rfl,.inl (.inl yl)⟩
    ·skip
     by_cases c5 : x.1 ∈ pre.map (·.1)
     ·simp only [c5,if_true] at hlk
      simp (maxSteps:=2000000) (disch:=first | omega | assumption | (simp only [DS,Nat.reduceAdd, *]; done) | (simp only [DZ]; omega)) only [RUN,RU,zA2,zA1,slot,lay,zAJ,reduceIte,Nat.reduceEqDiff,Int.reduceLT,g2,g4,g5,g7,hne,y0,y3,ya,yc,wY,↓pIdN,zB5,ETA,c3,x_lk,hlk]
      have os : OS tm ((Y.upd 0 (.row false [BL false])).upd 6 (.loop .done (some .ret) tm [12,13] cO1 cO2 5)):=by
       refine ⟨(wY.upd _ _).upd _ _,by simp only [zA9]; omega, ?_, ?_, ?_⟩
       ·rw [zA3 (wY.upd _ _) _ _ _ (by omega)]
        exact zAG wY _ _ l0
       ·rw [zA3 (wY.upd _ _) _ _ _ (by omega),zA3 wY _ _ _ (by omega)]
        exact (yj 5 (by omega) (by omega) (by omega)).trans h.g5
       ·exact zAG (wY.upd _ _) _ _ (by simp only [zA9]; omega)
      refine ⟨_,_,_,_,_,_,_,y6,.inr (.inr ?_)⟩
      first
      | exact os
      | exact ⟨os,by simp [*]⟩
     ·simp only [c5,if_false] at hlk
      simp (maxSteps:=2000000) (disch:=first | omega | assumption | (simp only [DS,Nat.reduceAdd, *]; done) | (simp only [DZ]; omega)) only [RUN,RU,zA2,zA1,slot,zAJ,reduceIte,Nat.reduceEqDiff,g4,g5,g7,hne,y3,ya,yc,↓pIdN,zB5,ETA,c3,x_lk,hlk,x_mu]
      refine zM8 zKL wY l2 y2 hset x.1 fun obj' hset'=>?_
      simp only [c5,if_false] at hset'
      simp (maxSteps:=2000000) (disch:=first | omega | assumption | (simp only [DS,Nat.reduceAdd, *]; done) | (simp only [DZ]; omega)) only [RUN,RU,zA2,zA1,slot,lay,zAJ,zAA,reduceIte,Nat.reduceEqDiff,Nat.reduceBEq,Nat.reduceAdd,g3,g5,y1,ya]
      refine ⟨spY.rows (by omega),SlP.app1 (bytes:=24) (x:=x.1) (wY.upd 2 obj') (spY.keep fun j hj=>zA3 wY _ _ _ (by have:=(ro j (ro' ▸ hj)).2; omega)) zHN ⟨rfl,hx⟩ rfl (by omega) (by rw [List.length_reverse]; omega) (by rw [List.length_reverse]; omega) fun o2 M2 sp2 w2 le2 kp2 nw2 rl2 on2 oc2=>?_⟩
      rw [zA9] at le2 kp2 nw2
      have hS : ordS x (stk pre) (pre.map (·.1)) = true:=by
       unfold ordS
       rw [hpop]
       simp [*]
      have hst : (stk (pre ++ [x])).reverse = q.reverse ++ [x.1]:=by rw [zE7,hpop,List.reverse_cons]
      have ro2 : ∀ j,rowOf o' = some j → O j ∧ 7 ≤ j:=fun j hj=>ro j (ro' ▸ hj)
      have k2 : ∀ j,j < M.size → j ≠ 1 → j ≠ 2 → j ≠ 6 → rowOf o' ≠ some j → M2.get j = M.get j:=fun j a b c e f=>by
       rw [kp2 j (by omega) f,zA3 wY _ _ _ (fun e=>c e.symm)]
       exact yj j a b e
      have m6 : M2.get 6 = some (.loop .busy none tm [12,13] cO1 cO2 5):=by
       rw [kp2 6 (by omega) (fun e=>by have:=(ro2 6 e).2; omega),zA3 wY _ _ _ (by omega)]
       exact y6
      have m2 : M2.get 2 = some obj':=by
       rw [kp2 2 (by omega) (fun e=>by have:=(ro2 2 e).2; omega)]
       exact zAG wY _ _ l2
      have m1 : 1 < M2.size:=by omega
      have n1 : M2.get 1 = some (.row false [o']):=by
       rw [kp2 1 (by omega) (fun e=>by have:=(ro2 1 e).2; omega),zA3 wY _ _ _ (by omega)]
       exact y1
      simp (maxSteps:=2000000) (disch:=first | omega | assumption | (simp only [DS,Nat.reduceAdd, *]; done) | (simp only [DZ]; omega)) only [RUN,RU,zA2,zA1,lay,reduceIte,Nat.reduceEqDiff,g3,oc2,w2,m6,n1]
      have yl : Yl (OI tm) (pre ++ [x]) O B M ((M2.upd 1 (.row false [o2])).upd 6 (.loop .ready none tm [12,13] cO1 cO2 5)):=by
       have wZ:=w2.upd 1 (.row false [o2])
       have zk : ∀ j,j ≠ 1 → j ≠ 6 → ((M2.upd 1 (.row false [o2])).upd 6 (.loop .ready none tm [12,13] cO1 cO2 5)).get j = M2.get j:=fun j a b=>by
        rw [zA3 wZ _ _ _ (fun e=>b e.symm),zA3 w2 _ _ _ (fun e=>a e.symm)]
       have nro : ∀ j,j < 7 → rowOf o' ≠ some j:=fun j hj e=>by have:=(ro2 j e).2; omega
       have no2 : ∀ j,rowOf o2 = some j → 7 ≤ j ∧ (O j ∨ M.size ≤ j):=fun j hj=>by
        rcases nw2 j hj with e | e
        ·exact ⟨(ro2 j e).2,.inl (ro2 j e).1⟩
        ·exact ⟨by omega,.inr (by omega)⟩
       refine ⟨⟨fun j=>O j ∨ rowOf o2 = some j,⟨wZ.upd _ _,by simp only [zA9]; omega, ?_,⟨o2, ?_, ?_,fun j hj=>⟨.inr hj,(no2 j hj).1⟩⟩,⟨obj', ?_, ?_⟩, ?_, ?_, ?_,.inl h.o1,.inl h.o2,.inl h.o6, ?_,h.od.snoc hS⟩, ?_⟩,wZ.upd _ _,by simp only [zA9]; omega, ?_⟩
       ·rw [zk 0 (by omega) (by omega),k2 0 (by omega) (by omega) (by omega) (by omega) (nro 0 (by omega))]; exact h.g0
       ·rw [zA3 wZ _ _ _ (by omega)]; exact zAG w2 _ _ m1
       ·rw [hst]
        exact sp2.keep fun j hj=>zk j (by have:=(no2 j hj).1; omega) (by have:=(no2 j hj).1; omega)
       ·rw [zk 2 (by omega) (by omega)]; exact m2
       ·rw [List.map_append]; exact hset'
       ·rw [zk 3 (by omega) (by omega),k2 3 (by omega) (by omega) (by omega) (by omega) (nro 3 (by omega))]; exact h.g3
       ·rw [zk 5 (by omega) (by omega),k2 5 (by omega) (by omega) (by omega) (by omega) (nro 5 (by omega))]; exact h.g5
       ·exact zAG wZ _ _ (by simp only [zA9]; omega)
       ·intro j hj
        simp only [zA9]
        rcases hj with hj | hj
        ·exact ⟨by have:=(h.ol j hj).1; omega,(h.ol j hj).2⟩
        ·exact ⟨sp2.lt j hj,.inr (.inr (by have:=(no2 j hj).1; omega))⟩
       ·rintro j (hj | hj)
        ·exact .inl hj
        ·exact (no2 j hj).2
       ·intro j hj hO
        have h1 : j ≠ 1:=fun e=>hO (e ▸ h.o1)
        have h2 : j ≠ 2:=fun e=>hO (e ▸ h.o2)
        have h6 : j ≠ 6:=fun e=>hO (e ▸ h.o6)
        rw [zk j h1 h6]
        exact k2 j hj h1 h2 h6 fun e=>hO (ro2 j e).1
      exact ⟨_,_,_,_,_,_,_,rfl,.inl (.inl yl)⟩
   ·have q2 : decide ((stk pre)[i] = x.2) = false:=decide_eq_false hte
    simp (maxSteps:=2000000) (disch:=first | omega | assumption | (simp only [DS,Nat.reduceAdd, *]; done) | (simp only [DZ]; omega)) only [RUN,RU,zA2,slot,reduceIte,Nat.reduceEqDiff,Nat.reduceBEq,Nat.reduceAdd,g3,olen,q2,w1,c1]
    refine ⟨spN.rows (by omega), ?_⟩
    rw [hslc _ (fun id hid=>by
     have:=spN.lt id hid
     rw [zA3 (w.add _) _ _ _ (by omega),zAF w _ _ this])]
    have oco:=spc.one
    have occ:=spc.cells
    have ocr:=fun m hm=>spc.rows (m:=m) hm
    simp (maxSteps:=2000000) (disch:=first | omega | assumption | (simp only [DS,Nat.reduceAdd, *]; done) | (simp only [DZ]; omega)) only [RUN,RU,zA2,lay,reduceIte,Nat.reduceEqDiff,Nat.reduceBEq,Nat.reduceAdd,g2,g3,g4,g5,g6,g7,occ,c1,ca,cb,cc,w]
    have ror:=spN.row1 hrow
    have rid7 : 7 ≤ rid ∧ rid < M.size:=by
     have e : rowOf o = some rid:=ro' ▸ hrow
     exact ⟨(ro rid e).2,sp.lt rid e⟩
    refine ⟨?_,hlt,(stk pre).length - (i + 1),by omega,i + 1,oc,rfl,by omega,by omega,fun j a b=>?_,rfl, ?_,roc.trans ro', ?_, ?_⟩
    ·have e1 : ¬(M.size + 1 + 1 = 1):=by omega
     have e2 : ¬(M.size + 1 + 1 = rid):=by omega
     rw [ror]
     simp [FP.apart,disj,FP.reads,FP.writes,fpOf,e2]
    ·rw [zA3 (((w.add _).upd _ _).upd _ _) _ _ _ (by omega),zA3 ((w.add _).upd _ _) _ _ _ (by omega),zA3 (w.add _) _ _ _ (by omega),zAF w _ _ (by omega)]
     exact kk j a b
    ·have e : ((stk pre).drop i).reverse.take ((stk pre).length - i - 1) = ((stk pre).drop (i + 1)).reverse:=by
      rw [List.take_reverse,List.drop_drop,List.length_drop]
      congr 2
      omega
     rw [← e]
     refine spc.keep fun j hj=>?_
     rw [roc,hrow] at hj
     injection hj with hj
     subst hj
     rw [zA3 (((w.add _).upd _ _).upd _ _) _ _ _ (by omega),zA3 ((w.add _).upd _ _) _ _ _ (by omega),zA3 (w.add _) _ _ _ (by omega),zAF w _ _ (by omega)]
    ·have e : ((stk pre).take (i + 1)).getLast?.getD Eid.z = (stk pre)[i]:=by
      rw [zBL _ _ hc,List.getLast?_concat]; rfl
     rw [e]
    ·intro t ht
     rw [zBL _ _ hc] at ht
     rcases List.mem_append.1 ht with ht | ht
     ·exact hm t ht
     ·rw [List.mem_singleton] at ht; subst ht; exact hte
  ·obtain rfl : i = (stk pre).length:=by omega
   have q1 : decide ((0 : Int) < ((stk pre).length - (stk pre).length : Nat)) = false:=decide_eq_false (by omega)
   have hne : decide (((((stk pre).length - (stk pre).length : Nat) : Int)) = 0) = true:=decide_eq_true (by omega)
   have hqz : decide ((stk pre).drop (stk pre).length = []) = true:=decide_eq_true (List.drop_length)
   have hpop:=zIQ (el:=Eid.z) (q:=(stk pre).drop (stk pre).length) hm (.inl List.drop_length)
   rw [List.take_append_drop] at hpop
   simp (maxSteps:=2000000) (disch:=first | omega | assumption | (simp only [DS,Nat.reduceAdd, *]; done) | (simp only [DZ]; omega)) only [RUN,RU,zA2,zA1,reduceIte,Nat.reduceEqDiff,g3,olen,q1,c1]
   obtain ⟨Y,hY⟩ : ∃ Y,Y = N:=⟨N,rfl⟩
   rw [← hY]
   have wY : Wf Y:=by rw [hY]; exact w
   have lY : N.size ≤ Y.size:=by rw [hY]; omega
   have kY : ∀ j,j < N.size → Y.get j = N.get j:=fun j hj=>by rw [hY]
   clear hY
   have y0 : Y.get 0 = some (.row false [BL false]):=(kY 0 (by omega)).trans ((kk 0 (by omega) (by omega)).trans ((gX 0 (by omega) (by omega)).trans h.g0))
   have y1:=(kY 1 (by omega)).trans c1
   have y2:=(kY 2 (by omega)).trans ((kk 2 (by omega) (by omega)).trans ((gX 2 (by omega) (by omega)).trans gm2))
   have y3:=(kY 3 (by omega)).trans ((kk 3 (by omega) (by omega)).trans ((gX 3 (by omega) (by omega)).trans h.g3))
   have y6:=(kY 6 (by omega)).trans ((kk 6 (by omega) (by omega)).trans x6)
   have ya:=(kY _ (by omega)).trans ca
   have yb:=(kY _ (by omega)).trans cb
   have yc:=(kY _ (by omega)).trans cc
   have yj : ∀ j,j < M.size → j ≠ 1 → j ≠ 6 → Y.get j = M.get j:=fun j a b c=>(kY j (by omega)).trans ((kk j a b).trans (gX j a c))
   have spY : SlP Y 4 zKQ o' ((stk pre).drop (stk pre).length).reverse:=spN.keep fun j hj=>kY j (spN.lt j hj)
   clear kY kk w c1 ca cb cc spN l1 la lb lc
   have l1:=Mem.get_lt y1
   have la:=Mem.get_lt ya
   have lb:=Mem.get_lt yb
   have lc:=Mem.get_lt yc
   have l2:=Mem.get_lt y2
   have l3:=Mem.get_lt y3
   have l0:=Mem.get_lt y0
   have hlk:=zPM zKL (z:=.int .i64 0) y2 hset x.1
   unfold ordS
   rw [hpop]
   simp only [hqz]
   have hql : ((stk pre).drop (stk pre).length).length ≤ pre.length:=by rw [List.length_drop]; omega
   generalize (stk pre).drop (stk pre).length = q at *
   generalize ((stk pre).take (stk pre).length).getLast?.getD Eid.z = el at *
   have hls:=fun M=>@zEU fuel (d + 4) x.1 el M
   cases c2 : decide (x.2 = Eid.z)
   ·simp (maxSteps:=2000000) (disch:=first | omega | assumption | (simp only [DS,Nat.reduceAdd, *]; done) | (simp only [DZ]; omega)) only [RUN,RU,zA2,zA1,slot,lay,zAJ,reduceIte,Nat.reduceEqDiff,g2,g6,hne,y0,yb,wY,↓pIdN,zB5,ETA,c2]
    have os : OS tm ((Y.upd 0 (.row false [BL false])).upd 6 (.loop .done (some .ret) tm [12,13] cO1 cO2 5)):=by
     refine ⟨(wY.upd _ _).upd _ _,by simp only [zA9]; omega, ?_, ?_, ?_⟩
     ·rw [zA3 (wY.upd _ _) _ _ _ (by omega)]
      exact zAG wY _ _ l0
     ·rw [zA3 (wY.upd _ _) _ _ _ (by omega),zA3 wY _ _ _ (by omega)]
      exact (yj 5 (by omega) (by omega) (by omega)).trans h.g5
     ·exact zAG (wY.upd _ _) _ _ (by simp only [zA9]; omega)
    refine ⟨_,_,_,_,_,_,_,y6,.inr (.inr ?_)⟩
    first
    | exact os
    | exact ⟨os,by simp [*]⟩
   ·skip
    cases c3 : decide (el = Eid.z)
    ·cases c4 : x.1.less el
     ·rw [c4] at hls
      simp (maxSteps:=2000000) (disch:=first | omega | assumption | (simp only [DS,Nat.reduceAdd, *]; done) | (simp only [DZ]; omega)) only [RUN,RU,zA2,zA1,slot,lay,zAJ,reduceIte,Nat.reduceEqDiff,g2,g5,g6,g7,hne,y0,ya,yb,yc,wY,↓pIdN,zB5,ETA,c2,c3,hls]
      have os : OS tm ((Y.upd 0 (.row false [BL false])).upd 6 (.loop .done (some .ret) tm [12,13] cO1 cO2 5)):=by
       refine ⟨(wY.upd _ _).upd _ _,by simp only [zA9]; omega, ?_, ?_, ?_⟩
       ·rw [zA3 (wY.upd _ _) _ _ _ (by omega)]
        exact zAG wY _ _ l0
       ·rw [zA3 (wY.upd _ _) _ _ _ (by omega),zA3 wY _ _ _ (by omega)]
        exact (yj 5 (by omega) (by omega) (by omega)).trans h.g5
       ·exact zAG (wY.upd _ _) _ _ (by simp only [zA9]; omega)
      refine ⟨_,_,_,_,_,_,_,y6,.inr (.inr ?_)⟩
      first
      | exact os
      | exact ⟨os,by simp [*]⟩
     ·rw [c4] at hls
      by_cases c5 : x.1 ∈ pre.map (·.1)
      ·simp only [c5,if_true] at hlk
       simp (maxSteps:=2000000) (disch:=first | omega | assumption | (simp only [DS,Nat.reduceAdd, *]; done) | (simp only [DZ]; omega)) only [RUN,RU,zA2,zA1,slot,lay,zAJ,reduceIte,Nat.reduceEqDiff,Int.reduceLT,g2,g4,g5,g6,g7,hne,y0,y3,ya,yb,yc,wY,↓pIdN,zB5,ETA,c2,c3,hls,x_lk,hlk]
       have os : OS tm ((Y.upd 0 (.row false [BL false])).upd 6 (.loop .done (some .ret) tm [12,13] cO1 cO2 5)):=by
        refine ⟨(wY.upd _ _).upd _ _,by simp only [zA9]; omega, ?_, ?_, ?_⟩
        ·rw [zA3 (wY.upd _ _) _ _ _ (by omega)]
         exact zAG wY _ _ l0
        ·rw [zA3 (wY.upd _ _) _ _ _ (by omega),zA3 wY _ _ _ (by omega)]
         exact (yj 5 (by omega) (by omega) (by omega)).trans h.g5
        ·exact zAG (wY.upd _ _) _ _ (by simp only [zA9]; omega)
       refine ⟨_,_,_,_,_,_,_,y6,.inr (.inr ?_)⟩
       first
       | exact os
       | exact ⟨os,by simp [*]⟩
      ·simp only [c5,if_false] at hlk
       simp (maxSteps:=2000000) (disch:=first | omega | assumption | (simp only [DS,Nat.reduceAdd, *]; done) | (simp only [DZ]; omega)) only [RUN,RU,zA2,zA1,slot,zAJ,reduceIte,Nat.reduceEqDiff,g4,g5,g6,g7,hne,y3,ya,yb,yc,↓pIdN,zB5,ETA,c2,c3,hls,x_lk,hlk,x_mu]
       refine zM8 zKL wY l2 y2 hset x.1 fun obj' hset'=>?_
       simp only [c5,if_false] at hset'
       simp (maxSteps:=2000000) (disch:=first | omega | assumption | (simp only [DS,Nat.reduceAdd, *]; done) | (simp only [DZ]; omega)) only [RUN,RU,zA2,zA1,slot,lay,zAJ,zAA,reduceIte,Nat.reduceEqDiff,Nat.reduceBEq,Nat.reduceAdd,g3,g5,y1,ya]
       refine ⟨spY.rows (by omega),SlP.app1 (bytes:=24) (x:=x.1) (wY.upd 2 obj') (spY.keep fun j hj=>zA3 wY _ _ _ (by have:=(ro j (ro' ▸ hj)).2; omega)) zHN ⟨rfl,hx⟩ rfl (by omega) (by rw [List.length_reverse]; omega) (by rw [List.length_reverse]; omega) fun o2 M2 sp2 w2 le2 kp2 nw2 rl2 on2 oc2=>?_⟩
       rw [zA9] at le2 kp2 nw2
       have hS : ordS x (stk pre) (pre.map (·.1)) = true:=by
        unfold ordS
        rw [hpop]
        simp [*]
       have hst : (stk (pre ++ [x])).reverse = q.reverse ++ [x.1]:=by rw [zE7,hpop,List.reverse_cons]
       have ro2 : ∀ j,rowOf o' = some j → O j ∧ 7 ≤ j:=fun j hj=>ro j (ro' ▸ hj)
       have k2 : ∀ j,j < M.size → j ≠ 1 → j ≠ 2 → j ≠ 6 → rowOf o' ≠ some j → M2.get j = M.get j:=fun j a b c e f=>by
        rw [kp2 j (by omega) f,zA3 wY _ _ _ (fun e=>c e.symm)]
        exact yj j a b e
       have m6 : M2.get 6 = some (.loop .busy none tm [12,13] cO1 cO2 5):=by
        rw [kp2 6 (by omega) (fun e=>by have:=(ro2 6 e).2; omega),zA3 wY _ _ _ (by omega)]
        exact y6
       have m2 : M2.get 2 = some obj':=by
        rw [kp2 2 (by omega) (fun e=>by have:=(ro2 2 e).2; omega)]
        exact zAG wY _ _ l2
       have m1 : 1 < M2.size:=by omega
       have n1 : M2.get 1 = some (.row false [o']):=by
        rw [kp2 1 (by omega) (fun e=>by have:=(ro2 1 e).2; omega),zA3 wY _ _ _ (by omega)]
        exact y1
       simp (maxSteps:=2000000) (disch:=first | omega | assumption | (simp only [DS,Nat.reduceAdd, *]; done) | (simp only [DZ]; omega)) only [RUN,RU,zA2,zA1,lay,reduceIte,Nat.reduceEqDiff,g3,oc2,w2,m6,n1]
       have yl : Yl (OI tm) (pre ++ [x]) O B M ((M2.upd 1 (.row false [o2])).upd 6 (.loop .ready none tm [12,13] cO1 cO2 5)):=by
        have wZ:=w2.upd 1 (.row false [o2])
        have zk : ∀ j,j ≠ 1 → j ≠ 6 → ((M2.upd 1 (.row false [o2])).upd 6 (.loop .ready none tm [12,13] cO1 cO2 5)).get j = M2.get j:=fun j a b=>by
         rw [zA3 wZ _ _ _ (fun e=>b e.symm),zA3 w2 _ _ _ (fun e=>a e.symm)]
        have nro : ∀ j,j < 7 → rowOf o' ≠ some j:=fun j hj e=>by have:=(ro2 j e).2; omega
        have no2 : ∀ j,rowOf o2 = some j → 7 ≤ j ∧ (O j ∨ M.size ≤ j):=fun j hj=>by
         rcases nw2 j hj with e | e
         ·exact ⟨(ro2 j e).2,.inl (ro2 j e).1⟩
         ·exact ⟨by omega,.inr (by omega)⟩
        refine ⟨⟨fun j=>O j ∨ rowOf o2 = some j,⟨wZ.upd _ _,by simp only [zA9]; omega, ?_,⟨o2, ?_, ?_,fun j hj=>⟨.inr hj,(no2 j hj).1⟩⟩,⟨obj', ?_, ?_⟩, ?_, ?_, ?_,.inl h.o1,.inl h.o2,.inl h.o6, ?_,h.od.snoc hS⟩, ?_⟩,wZ.upd _ _,by simp only [zA9]; omega, ?_⟩
        ·rw [zk 0 (by omega) (by omega),k2 0 (by omega) (by omega) (by omega) (by omega) (nro 0 (by omega))]; exact h.g0
        ·rw [zA3 wZ _ _ _ (by omega)]; exact zAG w2 _ _ m1
        ·rw [hst]
         exact sp2.keep fun j hj=>zk j (by have:=(no2 j hj).1; omega) (by have:=(no2 j hj).1; omega)
        ·rw [zk 2 (by omega) (by omega)]; exact m2
        ·rw [List.map_append]; exact hset'
        ·rw [zk 3 (by omega) (by omega),k2 3 (by omega) (by omega) (by omega) (by omega) (nro 3 (by omega))]; exact h.g3
        ·rw [zk 5 (by omega) (by omega),k2 5 (by omega) (by omega) (by omega) (by omega) (nro 5 (by omega))]; exact h.g5
        ·exact zAG wZ _ _ (by simp only [zA9]; omega)
        ·intro j hj
         simp only [zA9]
         rcases hj with hj | hj
         ·exact ⟨by have:=(h.ol j hj).1; omega,(h.ol j hj).2⟩
         ·exact ⟨sp2.lt j hj,.inr (.inr (by have:=(no2 j hj).1; omega))⟩
        ·rintro j (hj | hj)
         ·exact .inl hj
         ·exact (no2 j hj).2
        ·intro j hj hO
         have h1 : j ≠ 1:=fun e=>hO (e ▸ h.o1)
         have h2 : j ≠ 2:=fun e=>hO (e ▸ h.o2)
         have h6 : j ≠ 6:=fun e=>hO (e ▸ h.o6)
         rw [zk j h1 h6]
         exact k2 j hj h1 h2 h6 fun e=>hO (ro2 j e).1
       exact ⟨_,_,_,_,_,_,_,rfl,.inl (.inl yl)⟩
    ·skip
     by_cases c5 : x.1 ∈ pre.map (·.1)
     ·simp only [c5,if_true] at hlk
      simp (maxSteps:=2000000) (disch:=first | omega | assumption | (simp only [DS,Nat.reduceAdd, *]; done) | (simp only [DZ]; omega)) only [RUN,RU,zA2,zA1,slot,lay,zAJ,reduceIte,Nat.reduceEqDiff,Int.reduceLT,g2,g4,g5,g6,g7,hne,y0,y3,ya,yb,yc,wY,↓pIdN,zB5,ETA,c2,c3,x_lk,hlk]
      have os : OS tm ((Y.upd 0 (.row false [BL false])).upd 6 (.loop .done (some .ret) tm [12,13] cO1 cO2 5)):=by
       refine ⟨(wY.upd _ _).upd _ _,by simp only [zA9]; omega, ?_, ?_, ?_⟩
       ·rw [zA3 (wY.upd _ _) _ _ _ (by omega)]
        exact zAG wY _ _ l0
       ·rw [zA3 (wY.upd _ _) _ _ _ (by omega),zA3 wY _ _ _ (by omega)]
        exact (yj 5 (by omega) (by omega) (by omega)).trans h.g5
       ·exact zAG (wY.upd _ _) _ _ (by simp only [zA9]; omega)
      refine ⟨_,_,_,_,_,_,_,y6,.inr (.inr ?_)⟩
      first
      | exact os
      | exact ⟨os,by simp [*]⟩
     ·simp only [c5,if_false] at hlk
      simp (maxSteps:=2000000) (disch:=first | omega | assumption | (simp only [DS,Nat.reduceAdd, *]; done) | (simp only [DZ]; omega)) only [RUN,RU,zA2,zA1,slot,zAJ,reduceIte,Nat.reduceEqDiff,g4,g5,g6,g7,hne,y3,ya,yb,yc,↓pIdN,zB5,ETA,c2,c3,x_lk,hlk,x_mu]
      refine zM8 zKL wY l2 y2 hset x.1 fun obj' hset'=>?_
      simp only [c5,if_false] at hset'
      simp (maxSteps:=2000000) (disch:=first | omega | assumption | (simp only [DS,Nat.reduceAdd, *]; done) | (simp only [DZ]; omega)) only [RUN,RU,zA2,zA1,slot,lay,zAJ,zAA,reduceIte,Nat.reduceEqDiff,Nat.reduceBEq,Nat.reduceAdd,g3,g5,y1,ya]
      refine ⟨spY.rows (by omega),SlP.app1 (bytes:=24) (x:=x.1) (wY.upd 2 obj') (spY.keep fun j hj=>zA3 wY _ _ _ (by have:=(ro j (ro' ▸ hj)).2; omega)) zHN ⟨rfl,hx⟩ rfl (by omega) (by rw [List.length_reverse]; omega) (by rw [List.length_reverse]; omega) fun o2 M2 sp2 w2 le2 kp2 nw2 rl2 on2 oc2=>?_⟩
      rw [zA9] at le2 kp2 nw2
      have hS : ordS x (stk pre) (pre.map (·.1)) = true:=by
       unfold ordS
       rw [hpop]
       simp [*]
      have hst : (stk (pre ++ [x])).reverse = q.reverse ++ [x.1]:=by rw [zE7,hpop,List.reverse_cons]
      have ro2 : ∀ j,rowOf o' = some j → O j ∧ 7 ≤ j:=fun j hj=>ro j (ro' ▸ hj)
      have k2 : ∀ j,j < M.size → j ≠ 1 → j ≠ 2 → j ≠ 6 → rowOf o' ≠ some j → M2.get j = M.get j:=fun j a b c e f=>by
       rw [kp2 j (by omega) f,zA3 wY _ _ _ (fun e=>c e.symm)]
       exact yj j a b e
      have m6 : M2.get 6 = some (.loop .busy none tm [12,13] cO1 cO2 5):=by
       rw [kp2 6 (by omega) (fun e=>by have:=(ro2 6 e).2; omega),zA3 wY _ _ _ (by omega)]
       exact y6
      have m2 : M2.get 2 = some obj':=by
       rw [kp2 2 (by omega) (fun e=>by have:=(ro2 2 e).2; omega)]
       exact zAG wY _ _ l2
      have m1 : 1 < M2.size:=by omega
      have n1 : M2.get 1 = some (.row false [o']):=by
       rw [kp2 1 (by omega) (fun e=>by have:=(ro2 1 e).2; omega),zA3 wY _ _ _ (by omega)]
       exact y1
      simp (maxSteps:=2000000) (disch:=first | omega | assumption | (simp only [DS,Nat.reduceAdd, *]; done) | (simp only [DZ]; omega)) only [RUN,RU,zA2,zA1,lay,reduceIte,Nat.reduceEqDiff,g3,oc2,w2,m6,n1]
      have yl : Yl (OI tm) (pre ++ [x]) O B M ((M2.upd 1 (.row false [o2])).upd 6 (.loop .ready none tm [12,13] cO1 cO2 5)):=by
       have wZ:=w2.upd 1 (.row false [o2])
       have zk : ∀ j,j ≠ 1 → j ≠ 6 → ((M2.upd 1 (.row false [o2])).upd 6 (.loop .ready none tm [12,13] cO1 cO2 5)).get j = M2.get j:=fun j a b=>by
        rw [zA3 wZ _ _ _ (fun e=>b e.symm),zA3 w2 _ _ _ (fun e=>a e.symm)]
       have nro : ∀ j,j < 7 → rowOf o' ≠ some j:=fun j hj e=>by have:=(ro2 j e).2; omega
       have no2 : ∀ j,rowOf o2 = some j → 7 ≤ j ∧ (O j ∨ M.size ≤ j):=fun j hj=>by
        rcases nw2 j hj with e | e
        ·exact ⟨(ro2 j e).2,.inl (ro2 j e).1⟩
        ·exact ⟨by omega,.inr (by omega)⟩
       refine ⟨⟨fun j=>O j ∨ rowOf o2 = some j,⟨wZ.upd _ _,by simp only [zA9]; omega, ?_,⟨o2, ?_, ?_,fun j hj=>⟨.inr hj,(no2 j hj).1⟩⟩,⟨obj', ?_, ?_⟩, ?_, ?_, ?_,.inl h.o1,.inl h.o2,.inl h.o6, ?_,h.od.snoc hS⟩, ?_⟩,wZ.upd _ _,by simp only [zA9]; omega, ?_⟩
       ·rw [zk 0 (by omega) (by omega),k2 0 (by omega) (by omega) (by omega) (by omega) (nro 0 (by omega))]; exact h.g0
       ·rw [zA3 wZ _ _ _ (by omega)]; exact zAG w2 _ _ m1
       ·rw [hst]
        exact sp2.keep fun j hj=>zk j (by have:=(no2 j hj).1; omega) (by have:=(no2 j hj).1; omega)
       ·rw [zk 2 (by omega) (by omega)]; exact m2
       ·rw [List.map_append]; exact hset'
       ·rw [zk 3 (by omega) (by omega),k2 3 (by omega) (by omega) (by omega) (by omega) (nro 3 (by omega))]; exact h.g3
       ·rw [zk 5 (by omega) (by omega),k2 5 (by omega) (by omega) (by omega) (by omega) (nro 5 (by omega))]; exact h.g5
       ·exact zAG wZ _ _ (by simp only [zA9]; omega)
       ·intro j hj
        simp only [zA9]
        rcases hj with hj | hj
        ·exact ⟨by have:=(h.ol j hj).1; omega,(h.ol j hj).2⟩
        ·exact ⟨sp2.lt j hj,.inr (.inr (by have:=(no2 j hj).1; omega))⟩
       ·rintro j (hj | hj)
        ·exact .inl hj
        ·exact (no2 j hj).2
       ·intro j hj hO
        have h1 : j ≠ 1:=fun e=>hO (e ▸ h.o1)
        have h2 : j ≠ 2:=fun e=>hO (e ▸ h.o2)
        have h6 : j ≠ 6:=fun e=>hO (e ▸ h.o6)
        rw [zk j h1 h6]
        exact k2 j hj h1 h2 h6 fun e=>hO (ro2 j e).1
      exact ⟨_,_,_,_,_,_,_,rfl,.inl (.inl yl)⟩
end Go.Proofs.YtklfocnoenjgdaaGreat
namespace Go.Proofs.YtklfocnoenjgdaaGreat
open Go Go.Ax
variable {fuel : Nat} {M : Mem} {Q : AV → Mem → Prop} {d : Nat}
theorem zQX {a : AV} {l : List Rn} (hS : Sl 10 isRn a l) (wf : Wf M) (k : Q (.fn 119 [] [.ptr M.size 0]) (M.add (.row false [a]))) :
  W3 (zAE Tryz.prog (fsT tbl) fuel (d + 1) (.fn 108) [a] M) Q:=by
 have oa:=hS.one
 refine zAZ tf108 rfl (by simp [a108]) fun b' ht hx=>?_
 have h0:=hx 0 _ rfl
 clear hx
 simp only [a108,c108,zzm] at ht ⊢
 simp (maxSteps:=2000000) (disch:=first | omega | assumption | (simp only [DS,Nat.reduceAdd, *]; done) | (simp only [DZ]; omega)) only [RUN,RU,zA2,zA1,zA0,zAB,reduceIte,Nat.reduceEqDiff,h0,hS.fz.cells]
 exact k
theorem zcD {a : AV} {l : List Rn} (hS : Sl 10 isRn a l) : ∀ r ∈ l,r.ok:=by
 intro r hr
 obtain ⟨i,hi,rfl⟩:=List.getElem_of_mem hr
 obtain ⟨_,_,⟨_,_,_,hok⟩,_⟩:=hS.iad i hi
 exact hok
theorem zZ5 {l : List Rn} (h : ∀ r ∈ l,r.ok) (hm : ∀ r ∈ l,r.may = true) : ∀ x ∈ elsL l,x.1.ok:=by
 intro x hx
 obtain ⟨r,hr,hx⟩:=List.mem_flatMap.1 hx
 obtain ⟨i,hi,rfl⟩:=List.mem_map.1 hx
 rw [List.mem_range] at hi
 have hb:=Spn.may_le (Rn.may_sp (hm r hr))
 have hk:=h r hr
 refine ⟨hk.1.1.1, ?_⟩
 simp only [Spn.at,i64R]
 omega
theorem zJD {l : List Rn} (hm : ∀ r ∈ l,r.may = true) : (elsL l).length ≤ 64 * l.length:=by
 have:=zEI hm
 have e:=zDP hm
 rw [← zL1]
 unfold prs
 rw [List.length_map]
 omega
theorem zaM {X : Mem} {tm : List AV} {a : AV} {l : List Rn} (hS : Sl 10 isRn a l) (hl : l.length ≤ 1000) (hm : ∀ r ∈ l,r.may = true) (hf : 64 * l.length + 1000 < fuel) (w : Wf X) (h2 : nth zA5 tm 2 = .ptr 0 0) (h3 : nth zA5 tm 3 = .ptr 1 0) (h4 : nth zA5 tm 4 = .ptr 3 0) (hlen : tm.length = 63) (hX : X.size = 5) (g0 : X.get 0 = some (.row false [BL false])) (g1 : X.get 1 = some (.row false [NIL])) (g2 : X.get 2 = some (.map [] 0)) (g3 : X.get 3 = some (.row false [.mp 2])) (g4 : X.get 4 = some (.row false [a]))
  (kt : Ord (elsL l) → ∀ u O N,OI tm (elsL l) O N → Q u N) (ks : ¬Ord (elsL l) → ∀ u N,OS tm N → Q u N) :
  W3 (zAE Tryz.prog (fsT tbl) fuel (d + 8) (.fn 119) ([] ++ [.yl (X.size + 1)] ++ [.ptr 4 0]) ((X.add (.dfr false)).add (.loop .ready none tm [12,13] cO1 cO2 X.size))) Q:=by
 have w1:=w.add (.dfr false)
 have hel:=zJD hm
 have heo:=zZ5 (zcD hS) hm
 have e : X.size + 1 = 6:=by omega
 have u : ∀ j,j < 5 → ((X.add (.dfr false)).add (.loop .ready none tm [12,13] cO1 cO2 X.size)).get j = X.get j:=fun j hj=>by
  rw [zAF w1 _ _ (by rw [zA6]; omega),zAF w _ _ (by omega)]
 have hJ0 : OI tm [] (fun j=>j = 1 ∨ j = 2 ∨ j = 6) ((X.add (.dfr false)).add (.loop .ready none tm [12,13] cO1 cO2 X.size)):=by
  refine ⟨w1.add _,by simp only [zA6]; omega,(u 0 (by omega)).trans g0,⟨NIL,(u 1 (by omega)).trans g1,SlP.nil,fun j hj=>by cases hj⟩,⟨_,(u 2 (by omega)).trans g2,zHR.nil _ _⟩,(u 3 (by omega)).trans g3, ?_, ?_,.inl rfl,.inr (.inl rfl),.inr (.inr rfl), ?_,Ord.nil⟩
  ·rw [zAF w1 _ _ (by rw [zA6]; omega),← hX]
   exact zAH w _ _ (Nat.le_refl _) (Nat.lt_succ_self _)
  ·have:=zAH w1 (.loop .ready none tm [12,13] cO1 cO2 X.size) 6 (by rw [zA6]; omega) (by rw [zA6]; omega)
   rw [hX] at this ⊢
   exact this
  ·intro j hj
   simp only [zA6]
   rcases hj with rfl | rfl | rfl <;> omega
 have key:=zWD (d:=d) (fuel:=fuel) (Q:=Q) (J:=OI tm) (S:=fun N=>OS tm N ∧ ¬Ord (elsL l)) (id:=6) (p:=4) hS (by omega) hm (by omega) (w1.add _) ((u 4 (by omega)).trans g4) hJ0 (fun pre O N N' h wf le k=>h.keep wf le k) (fun pre O N h j hj=>(h.ol j hj).1) (fun pre x post O N he h wf le=>?_) (fun u N O h _ _=>kt h.od u O N h) (fun u N h=>ks h.2 u N h.1)
 ·rw [← e] at key
  exact key
 ·have hxm : x ∈ elsL l:=by rw [he]; simp
  have hpl : pre.length ≤ (elsL l).length:=by rw [he]; simp
  obtain ⟨v,N',hc,hv⟩:=zfB (fuel:=fuel) (d:=d) (B:=((X.add (.dfr false)).add (.loop .ready none tm [12,13] cO1 cO2 X.size)).size) h h2 h3 h4 hlen (heo x hxm) (by omega) (by omega)
  refine ⟨v,N',hc, ?_⟩
  rcases hv with ⟨rfl,hv⟩ | ⟨rfl,hv,ho⟩
  ·exact .inl ⟨rfl,hv⟩
  ·refine .inr ⟨rfl,hv,fun k=>?_⟩
   rw [k pre x post he] at ho
   cases ho
open Classical in
set_option maxHeartbeats 4000000 in
theorem zO5 {a : AV} {l : List Rn} (hS : Sl 10 isRn a l) (hl : l.length ≤ 1000) (hm : ∀ r ∈ l,r.may = true) (hf : 64 * l.length + 1000 < fuel) (M : Mem) : zAE Tryz.prog (fsT tbl) fuel (d + 9) (.fn 76) [a] M = some (BL (decide (Ord (elsL l))),M):=by
 have oa:=hS.one
 have hel:=zJD hm
 have heo:=zZ5 (zcD hS) hm
 apply zBI
 refine zAI tf76 rfl (by simp only [icyL,fun M=>hS.icy M 12 (by omega)]) (by simp [a76]) fun b' ht hx=>?_
 have h0:=hx 0 _ rfl
 clear hx
 simp only [a76,c76,zz3,zzm,zzg] at ht ⊢
 have cm : cellsA (.mp 2) = [.mp 2]:=rfl
 have om : oneA (.mp 2) = true:=rfl
 have sm : scs (.map none) = [.sc (.map none)]:=rfl
 simp (maxSteps:=2000000) (disch:=first | omega | assumption | (simp only [DS,Nat.reduceAdd, *]; done) | (simp only [DZ]; omega)) only [RUN,RU,zA2,zA1,lay,reduceIte,Nat.reduceEqDiff,Nat.reduceAdd,h0,zVE,cm,sm]
 refine zQX hS (by simp (maxSteps:=2000000) (disch:=first | omega | assumption | (simp only [DS,Nat.reduceAdd, *]; done) | (simp only [DZ]; omega)) only [RUN]) ?_
 simp (maxSteps:=2000000) (disch:=first | omega | assumption | (simp only [DS,Nat.reduceAdd, *]; done) | (simp only [DZ]; omega)) only [RUN,RU,Nat.reduceAdd]
 refine zYU (g:=119) (first:=[]) (cap:=[.ptr 4 0]) (by simp (maxSteps:=2000000) (disch:=first | omega | assumption | (simp only [DS,Nat.reduceAdd, *]; done) | (simp only [DZ]; omega)) only [RUN]) (by simp (maxSteps:=2000000) (disch:=first | omega | assumption | (simp only [DS,Nat.reduceAdd, *]; done) | (simp only [DZ]; omega)) only [RUN,reduceIte,Nat.reduceEqDiff]) ?_
 refine zaM (d:=d) hS hl hm hf ?_ ?_ ?_ ?_ ?_ ?_ ?_ ?_ ?_ ?_ ?_ (fun ho u O N h=>?_) (fun ho u N h=>?_)
 ·simp (maxSteps:=2000000) (disch:=first | omega | assumption | (simp only [DS,Nat.reduceAdd, *]; done) | (simp only [DZ]; omega)) only [RUN]
 ·simp (maxSteps:=2000000) (disch:=first | omega | assumption | (simp only [DS,Nat.reduceAdd, *]; done) | (simp only [DZ]; omega)) only [RUN,reduceIte,Nat.reduceEqDiff]
 ·simp (maxSteps:=2000000) (disch:=first | omega | assumption | (simp only [DS,Nat.reduceAdd, *]; done) | (simp only [DZ]; omega)) only [RUN,reduceIte,Nat.reduceEqDiff]
 ·simp (maxSteps:=2000000) (disch:=first | omega | assumption | (simp only [DS,Nat.reduceAdd, *]; done) | (simp only [DZ]; omega)) only [RUN,reduceIte,Nat.reduceEqDiff]
 ·rw [zLI]; exact ht
 ·simp (maxSteps:=2000000) (disch:=first | omega | assumption | (simp only [DS,Nat.reduceAdd, *]; done) | (simp only [DZ]; omega)) only [RUN,RU,Nat.reduceAdd]
 ·simp (maxSteps:=2000000) (disch:=first | omega | assumption | (simp only [DS,Nat.reduceAdd, *]; done) | (simp only [DZ]; omega)) only [RUN]
 ·simp (maxSteps:=2000000) (disch:=first | omega | assumption | (simp only [DS,Nat.reduceAdd, *]; done) | (simp only [DZ]; omega)) only [RUN]
 ·simp (maxSteps:=2000000) (disch:=first | omega | assumption | (simp only [DS,Nat.reduceAdd, *]; done) | (simp only [DZ]; omega)) only [RUN]
 ·simp (maxSteps:=2000000) (disch:=first | omega | assumption | (simp only [DS,Nat.reduceAdd, *]; done) | (simp only [DZ]; omega)) only [RUN]
 ·simp (maxSteps:=2000000) (disch:=first | omega | assumption | (simp only [DS,Nat.reduceAdd, *]; done) | (simp only [DZ]; omega)) only [RUN]
 ·have wf:=h.wf
  have sz:=h.sz
  have l0:=Mem.get_lt h.g0
  have l5:=Mem.get_lt h.g5
  have e6 : (mem0.add (.row false [BL false])).size = 1:=rfl
  refine ⟨wf,by simp only [zA6,zA9,zBG]; omega,_,_,_,_,_,_,_,.inl rfl,h.g6, ?_⟩
  generalize hX : N.upd _ _ = X
  have wX : Wf X:=by rw [← hX]; exact wf.upd _ _
  have sX : X.size = N.size:=by rw [← hX]; rfl
  have gX : ∀ j,j ≠ 6 → X.get j = N.get j:=fun j hj=>by rw [← hX]; exact zA3 wf _ _ _ (fun e=>hj e.symm)
  have x0:=(gX 0 (by omega)).trans h.g0
  have x5:=(gX 5 (by omega)).trans h.g5
  have hd : decide (Ord (elsL l)) = true:=decide_eq_true ho
  rw [hd]
  simp (maxSteps:=2000000) (disch:=first | omega | assumption | (simp only [DS,Nat.reduceAdd, *]; done) | (simp only [DZ]; omega)) only [RUN,RU,zA2,zA1,lay,reduceIte,Nat.reduceEqDiff,Nat.reduceAdd,x0,Option.getD_none]
  refine zKB (by simp (maxSteps:=2000000) (disch:=first | omega | assumption | (simp only [DS,Nat.reduceAdd, *]; done) | (simp only [DZ]; omega)) only [RUN,wX]) (by simp (maxSteps:=2000000) (disch:=first | omega | assumption | (simp only [DS,Nat.reduceAdd, *]; done) | (simp only [DZ]; omega)) only [RUN,x5]) ?_
  simp (maxSteps:=2000000) (disch:=first | omega | assumption | (simp only [DS,Nat.reduceAdd, *]; done) | (simp only [DZ]; omega)) only [RUN,RU,zA0,zAB,frzL,reduceIte,Nat.reduceEqDiff]
 ·have wf:=h.wf
  have sz:=h.sz
  have l0:=Mem.get_lt h.g0
  have l5:=Mem.get_lt h.g5
  refine ⟨wf,by simp only [zA6,zA9,zBG]; omega,_,_,_,_,_,_,_,.inr rfl,h.g6, ?_⟩
  generalize hX : N.upd _ _ = X
  have wX : Wf X:=by rw [← hX]; exact wf.upd _ _
  have sX : X.size = N.size:=by rw [← hX]; rfl
  have gX : ∀ j,j ≠ 6 → X.get j = N.get j:=fun j hj=>by rw [← hX]; exact zA3 wf _ _ _ (fun e=>hj e.symm)
  have x0:=(gX 0 (by omega)).trans h.g0
  have x5:=(gX 5 (by omega)).trans h.g5
  have hd : decide (Ord (elsL l)) = false:=decide_eq_false ho
  rw [hd]
  simp (maxSteps:=2000000) (disch:=first | omega | assumption | (simp only [DS,Nat.reduceAdd, *]; done) | (simp only [DZ]; omega)) only [RUN,RU,Nat.reduceAdd,Option.getD_some]
  refine zKB (by simp (maxSteps:=2000000) (disch:=first | omega | assumption | (simp only [DS,Nat.reduceAdd, *]; done) | (simp only [DZ]; omega)) only [wX]) (by simp (maxSteps:=2000000) (disch:=first | omega | assumption | (simp only [DS,Nat.reduceAdd, *]; done) | (simp only [DZ]; omega)) only [x5]) ?_
  simp (maxSteps:=2000000) (disch:=first | omega | assumption | (simp only [DS,Nat.reduceAdd, *]; done) | (simp only [DZ]; omega)) only [RUN,RU,zA0,zAB,frzL,reduceIte,Nat.reduceEqDiff,x0]
end Go.Proofs.YtklfocnoenjgdaaGreat
namespace Go.Proofs.YtklfocnoenjgdaaGreat
open Go Go.Ax
variable {fuel : Nat} {M : Mem} {Q : AV → Mem → Prop} {d : Nat}
theorem zQV {o : Rn} {ra : AV} (hR : Sl 1 zAT ra o.rs) (hf : 100 < fuel) (M : Mem) : zAE Tryz.prog (fsT tbl) fuel (d + 7) (.fn 75) [.agg (rnR o ra)] M = some (BL (!o.may),M):=by
 have ora:=hR.one
 have hck:=fun M=>@zC1 fuel d o ra hR hf M
 apply zBI
 refine zAI tf75 rfl (by simp only [icyL,zCJ hR.fz]) (by simp [a75]) fun b' ht hx=>?_
 have h0:=hx 0 _ rfl
 clear hx
 simp only [a75,c75,zzm] at ht ⊢
 cases hm : o.may <;> rw [hm] at hck <;> simp (maxSteps:=2000000) (disch:=first | omega | assumption | (simp only [DS,Nat.reduceAdd, *]; done) | (simp only [DZ]; omega)) only [RUN,RU,zA2,zA1,zA0,zAB,frzL,slot,reduceIte,Nat.reduceEqDiff,Int.reduceEq,h0,hck,zB3,zBH]
open Classical in
noncomputable def zF0 (l : List Rn) : Bool:=decide (zE8 l)
open Classical in
theorem zcP {l : List Rn} (h : zE8 l) : zF0 l = true:=by unfold zF0; exact decide_eq_true h
open Classical in
theorem zLC {l : List Rn} (h : ¬zE8 l) : zF0 l = false:=by unfold zF0; exact decide_eq_false h
open Classical in
theorem zN4 {l : List Rn} : zF0 l = true ↔ zE8 l:=by unfold zF0; exact ⟨of_decide_eq_true,fun h=>decide_eq_true h⟩
theorem zF2 {l : List Rn} (h : ∀ r ∈ l,r.may = true) : ∀ r ∈ l,r.rs.length ≤ 64:=fun r hr=>((Rn.may_iff.1 (h r hr)).2.2.2.1)
set_option maxHeartbeats 4000000 in
theorem zSL {a : AV} {l : List Rn} (hS : Sl 10 isRn a l) (hl : l.length ≤ 1000) (hf : 64 * l.length + 3001000 < fuel) (M : Mem) : zAE Tryz.prog (fsT tbl) fuel (d + 10) (.fn 52) [a] M = some (I64 (err (zF0 l)),M):=by
 have oa:=hS.one
 have hh:=fun M=>zb5 (P:=Tryz.prog) (fs:=fsT tbl) (fuel:=fuel) (l:=l) (ag:=true) (n:=d + 7) tf74 tf107 (fun h=>by cases h) zCZ hS (by omega) (by omega) (zZ9 75) (p:=fun x => !x.may) (fun r x hr _ M=>by
  obtain ⟨ra,rfl,hra,_⟩:=hr
  exact @zQV fuel d x ra hra (by omega) M) M
 rw [zS5] at hh
 apply zBI
 refine zAI tf52 rfl (by simp only [icyL,fun M=>hS.icy M 12 (by omega)]) (by simp [a52]) fun b' ht hx=>?_
 have h0:=hx 0 _ rfl
 clear hx
 simp only [a52,c52,zzm,zzg] at ht ⊢
 cases hb : l.all Rn.may with
 | false =>
  rw [hb] at hh
  have hno : zF0 l = false:=zLC fun k=>by
   rw [List.all_eq_true.2 k.1] at hb; cases hb
  rw [hno]
  simp (maxSteps:=2000000) (disch:=first | omega | assumption | (simp only [DS,Nat.reduceAdd, *]; done) | (simp only [DZ]; omega)) only [RUN,RU,zA2,zA1,zA0,zAB,frzL,reduceIte,Nat.reduceEqDiff,h0,hh,zBH]
 | true =>
  rw [hb] at hh
  have hm : ∀ r ∈ l,r.may = true:=List.all_eq_true.1 hb
  have hrs:=zF2 hm
  have hct:=fun M=>@zI6 fuel (d + 8) a l hS hm (by omega) (by omega) M
  have hord:=fun M=>@zO5 fuel d a l hS hl hm (by omega) M
  obtain ⟨r,hr,hlong⟩:=zG4 (fuel:=fuel) (d:=d) hS (by omega) (fun r hr=>by have:=hrs r hr; omega) (by omega)
  have hmL:=(zCL hm).2
  have hrsL:=zF2 hmL
  have hlenL : (zBP l).length ≤ 64000:=by
   have e1:=zDP hmL
   have e2:=zEI hm
   have e3:=zDP hm
   rw [(zCL hm).1,(zEH _).1] at e1
   have : (zBP l).length ≤ (zB4 (zBP l)):=by
    rw [(zCL hm).1]
    have hh:=(zEH (elsR l)).2
    generalize zD5 (elsR l) = C at *
    clear e1
    induction C with
    | nil=>simp [zB4]
    | cons q C ih =>
     have:=ih (fun q hq=>hh q (List.mem_cons_of_mem _ hq))
     have:=(hh q List.mem_cons_self).1
     simp only [zB4,List.length_cons]
     omega
   rw [(zCL hm).1] at this ⊢
   omega
  have hsame:=fun M=>@zV5 fuel (d + 5) r a (zBP l) l hr hS (by omega) (fun e he=>⟨by have:=hrsL e he; omega,by have:=hrsL e he; omega⟩) (by omega) M
  have or:=hr.one
  by_cases h1 : zB4 l ≤ 8192
  ·have q1 : decide (8192 < zB4 l) = false:=decide_eq_false (by omega)
   by_cases h2 : Ord (elsL l)
   ·have ho:=@decide_eq_true _ (Classical.propDecidable (Ord (elsL l))) h2
    rw [ho] at hord
    by_cases h3 : zBP l = l
    ·have hyes : zF0 l = true:=zcP ⟨hm,h1,h2,h3⟩
     have hs : zL5 (zBP l) l = true:=zMX.2 h3
     rw [hs] at hsame
     rw [hyes]
     simp (maxSteps:=2000000) (disch:=first | omega | assumption | (simp only [DS,Nat.reduceAdd, *]; done) | (simp only [DZ]; omega)) only [RUN,RU,zA2,zA1,zA0,zAB,frzL,reduceIte,Nat.reduceEqDiff,h0,hh,hct,q1,hord,hlong,hsame,zB3]
    ·have hno : zF0 l = false:=zLC fun k=>h3 k.2.2.2
     have hs : zL5 (zBP l) l = false:=by
      cases hq : zL5 (zBP l) l with
      | false=>rfl
      | true=>exact absurd (zMX.1 hq) h3
     rw [hs] at hsame
     rw [hno]
     simp (maxSteps:=2000000) (disch:=first | omega | assumption | (simp only [DS,Nat.reduceAdd, *]; done) | (simp only [DZ]; omega)) only [RUN,RU,zA2,zA1,zA0,zAB,frzL,reduceIte,Nat.reduceEqDiff,h0,hh,hct,q1,hord,hlong,hsame,zBH]
   ·have ho:=@decide_eq_false _ (Classical.propDecidable (Ord (elsL l))) h2
    rw [ho] at hord
    have hno : zF0 l = false:=zLC fun k=>h2 k.2.2.1
    rw [hno]
    simp (maxSteps:=2000000) (disch:=first | omega | assumption | (simp only [DS,Nat.reduceAdd, *]; done) | (simp only [DZ]; omega)) only [RUN,RU,zA2,zA1,zA0,zAB,frzL,reduceIte,Nat.reduceEqDiff,h0,hh,hct,q1,hord,zBH]
  ·have q1 : decide (8192 < zB4 l) = true:=decide_eq_true (by omega)
   have hno : zF0 l = false:=zLC fun k=>h1 k.2.1
   rw [hno]
   simp (maxSteps:=2000000) (disch:=first | omega | assumption | (simp only [DS,Nat.reduceAdd, *]; done) | (simp only [DZ]; omega)) only [RUN,RU,zA2,zA1,zA0,zAB,frzL,reduceIte,Nat.reduceEqDiff,h0,hh,hct,q1,zBH]
end Go.Proofs.YtklfocnoenjgdaaGreat
namespace Go.Proofs.YtklfocnoenjgdaaGreat
open Go Go.Ax
variable {fuel : Nat} {M : Mem} {Q : AV → Mem → Prop} {d : Nat}
abbrev zRn : Value:=.agg #[.int .u8 0,.int .u32 0,.int .u8 0,.int .i64 0,.int .i64 0,.int .u8 0,.int .u32 0,.int .u8 0,.int .i64 0,.slice none 0 0]
theorem ze0 {n : Nat} (wf : Wf M) (hn : 0 < n) (hb : n ≤ 1000000) (k : Q (.sl M.size 0 0 none 10) (M.add (.row false (zAA zRn n)))) :
  W3 (zAE Tryz.prog (fsT tbl) fuel (d + 1) (.fn 113) [NIL,I64 n] M) Q:=by
 have hz:=zOZ (X:=M) (st:=10) (bytes:=80) (z:=zRn) wf rfl rfl hn (by omega) (by omega) (by omega)
 have e0 : decide ((n : Int) < 0) = false:=decide_eq_false (by omega)
 have e1 : decide ((0 : Int) < n) = true:=decide_eq_true (by omega)
 have w0 : IntKind.i64.wrap 0 = 0:=by decide
 have w1 : IntKind.i64.wrap ((n : Int) - 0) = n:=by rw [wrap_i64] <;> omega
 refine zAZ tf113 rfl (by simp [a113]) fun b' ht hx=>?_
 have h0:=hx 0 _ rfl
 have h1:=hx 1 _ rfl
 clear hx
 simp only [a113,c113,zz1,zzm] at ht ⊢
 have hs:=zUZ (M:=M.add (.row false (zAA zRn n))) (st:=10) (n:=n) (zAH wf (.row false (zAA zRn n)) M.size (Nat.le_refl _) (Nat.lt_succ_self _))
 simp (maxSteps:=2000000) (disch:=first | omega | assumption | (simp only [DS,Nat.reduceAdd, *]; done) | (simp only [DZ]; omega)) only [RUN,RU,zA2,zA1,zA0,zAB,reduceIte,Nat.reduceEqDiff,Int.reduceSub,h0,h1,e0,e1,w0,w1,za3,zd3,zNE,zQE,hz,hs]
 exact k
set_option maxHeartbeats 8000000 in
/-- One list of three. -/
theorem zSP {id : Nat} {a0 a1 a2 : AV} {l0 l1 l2 : List Rn} (wf : Wf M) (hg : M.get id = some (.row false [a0,a1,a2])) (h0' : Sl 10 isRn a0 l0) (h1' : SlM M 10 isRn a1 l1) (h2' : Sl 10 isRn a2 l2) (hn : 0 < l1.length) (hb0 : l0.length ≤ 10000) (hb1 : l1.length ≤ 10000) (hb2 : l2.length ≤ 10000) (hf : 100 < fuel) (hw : M.wm ≤ M.size)
  (k : ∀ o N,SlM N 10 isRn o (l0 ++ l1 ++ l2) → Kept M N → (∀ j,rowOf o = some j → M.size ≤ j) → oneA o = true → cellsA o = [o] → ((rowsOf o).all fun i=>Nat.blt i N.size) = true → Q o N) :
  W3 (zAE Tryz.prog (fsT tbl) fuel (d + 2) (.fn 79) [.sl id 0 3 (some 3) 1] M) Q:=by
 have x0:=h0'.len
 have x1:=h1'.len
 have x2:=h2'.len
 have o0:=h0'.one
 have o1:=h1'.one
 have o2:=h2'.one
 have li:=Mem.get_lt hg
 have c3 : ((3 : Nat) : Int) = 3:=rfl
 have t0 : zCV (I64 0) = some 0:=rfl
 have t1 : zCV (I64 1) = some 1:=rfl
 have t2 : zCV (I64 2) = some 2:=rfl
 have q03 : decide ((0 : Int) < 3) = true:=rfl
 have q13 : decide ((1 : Int) < 3) = true:=rfl
 have q23 : decide ((2 : Int) < 3) = true:=rfl
 have q33 : decide ((3 : Int) < 3) = false:=rfl
 have v1 : IntKind.i64.wrap 1 = 1:=by decide
 have v2 : IntKind.i64.wrap 2 = 2:=by decide
 have v3 : IntKind.i64.wrap 3 = 3:=by decide
 have w0 : IntKind.i64.wrap (0 + (l0.length : Int)) = (l0.length : Nat):=by rw [wrap_i64] <;> omega
 have w1 : IntKind.i64.wrap ((l0.length : Int) + (l1.length : Int)) = ((l0.length + l1.length : Nat) : Int):=by rw [wrap_i64] <;> omega
 have w2 : IntKind.i64.wrap (((l0.length + l1.length : Nat) : Int) + (l2.length : Int)) = ((l0.length + l1.length + l2.length : Nat) : Int):=by rw [wrap_i64] <;> omega
 have n0 : decide (((l0.length : Nat) : Int) < 0) = false:=decide_eq_false (by omega)
 have n1 : decide (((l0.length + l1.length : Nat) : Int) < 0) = false:=decide_eq_false (by omega)
 have n2 : decide (((l0.length + l1.length + l2.length : Nat) : Int) < 0) = false:=decide_eq_false (by omega)
 refine zAZ tf79 rfl (by simp [a79]) fun b' ht hx=>?_
 have h0:=hx 0 _ rfl
 clear hx
 simp only [a79,c79,zz1,zzm] at ht ⊢
 simp (maxSteps:=2000000) (disch:=first | omega | assumption | (simp only [DS,Nat.reduceAdd, *]; done) | (simp only [DZ]; omega)) only [RUN,RU,zA2,zA1,reduceIte,Nat.reduceEqDiff,h0]
 refine w_un (by omega) ?_
 simp (maxSteps:=2000000) (disch:=first | omega | assumption | (simp only [DS,Nat.reduceAdd, *]; done) | (simp only [DZ]; omega)) only [RUN,RU,zA2,zA1,reduceIte,Nat.reduceEqDiff,Nat.reduceMul,Int.reduceLT,Int.reduceAdd,hg,c3,t0,x0,w0,n0,v1,zBW]
 refine w_un (by omega) ?_
 simp (maxSteps:=2000000) (disch:=first | omega | assumption | (simp only [DS,Nat.reduceAdd, *]; done) | (simp only [DZ]; omega)) only [RUN,RU,zA2,zA1,reduceIte,Nat.reduceEqDiff,Nat.reduceMul,Int.reduceLT,Int.reduceAdd,hg,t1,x1,w1,n1,v2,zBW]
 refine w_un (by omega) ?_
 simp (maxSteps:=2000000) (disch:=first | omega | assumption | (simp only [DS,Nat.reduceAdd, *]; done) | (simp only [DZ]; omega)) only [RUN,RU,zA2,zA1,reduceIte,Nat.reduceEqDiff,Nat.reduceMul,Int.reduceLT,Int.reduceAdd,hg,t2,x2,w2,n2,v3,zBW]
 refine w_un (by omega) ?_
 simp (maxSteps:=2000000) (disch:=first | omega | assumption | (simp only [DS,Nat.reduceAdd, *]; done) | (simp only [DZ]; omega)) only [RUN,RU,zA2,zA1,reduceIte,Nat.reduceEqDiff,zIE]
 refine ze0 (d:=d) (n:=l0.length + l1.length + l2.length) wf (by omega) (by omega) ?_
 have sq0:=SlQ.fresh (X:=M) (st:=10) (T:=isRn) (n:=l0.length + l1.length + l2.length) (z:=zRn) wf rfl
 have wX:=wf.add (.row false (zAA zRn (l0.length + l1.length + l2.length)))
 have kX : ∀ j,j < M.size → (M.add (.row false (zAA zRn (l0.length + l1.length + l2.length)))).get j = M.get j:=fun j hj=>zAF wf _ _ hj
 have sX : (M.add (.row false (zAA zRn (l0.length + l1.length + l2.length)))).size = M.size + 1:=rfl
 have dX : (M.add (.row false (zAA zRn (l0.length + l1.length + l2.length)))).dirty = M.dirty:=rfl
 have vX : (M.add (.row false (zAA zRn (l0.length + l1.length + l2.length)))).wm = M.wm:=rfl
 generalize (M.add (.row false (zAA zRn (l0.length + l1.length + l2.length)))) = X at *
 have gX:=(kX id li).trans hg
 simp (maxSteps:=2000000) (disch:=first | omega | assumption | (simp only [DS,Nat.reduceAdd, *]; done) | (simp only [DZ]; omega)) only [RUN,RU,zA2,zA1,reduceIte,Nat.reduceEqDiff,h0,c3]
 refine w_un (by omega) ?_
 simp (maxSteps:=2000000) (disch:=first | omega | assumption | (simp only [DS,Nat.reduceAdd, *]; done) | (simp only [DZ]; omega)) only [RUN,RU,zA2,zA1,reduceIte,Nat.reduceEqDiff,Nat.reduceMul,Int.reduceLT,gX,t0,h0'.fz.rows]
 obtain ⟨r0,y0,z0,A0,R0⟩:=h0'.cells2 X
 refine SlQ.app (bytes:=80) wX sq0 y0 z0 A0 R0 zCZ.cel (by omega) (by simp; omega) (by simp; omega) fun o' Y sq1 wY sY kY rY wmY diY=>?_
 have on1:=sq1.one
 have oc1:=sq1.cells
 have rl1:=sq1.rl (Nat.le_refl _)
 have ro1 : ∀ j,rowOf o' = some j → j = M.size:=fun j hj=>by rw [rY] at hj; cases hj; rfl
 have gY : Y.get id = some (.row false [a0,a1,a2]):=(kY id (fun e=>by cases e; omega)).trans gX
 have mY : ∀ j,j < M.size → Y.get j = M.get j:=fun j hj=>(kY j (fun e=>by cases e; omega)).trans (kX j hj)
 simp (maxSteps:=2000000) (disch:=first | omega | assumption | (simp only [DS,Nat.reduceAdd, *]; done) | (simp only [DZ]; omega)) only [RUN,RU,zA2,zA1,reduceIte,Nat.reduceEqDiff,Int.reduceAdd,v1,zBW]
 refine w_un (by omega) ?_
 have sm1 : SlM Y 10 isRn a1 l1:=h1'.keep fun j hj=>mY j (h1'.lt j hj)
 have rla:=zAW sm1.rl (Nat.le_refl _)
 simp (maxSteps:=2000000) (disch:=first | omega | assumption | (simp only [DS,Nat.reduceAdd, *]; done) | (simp only [DZ]; omega)) only [RUN,RU,zA2,zA1,reduceIte,Nat.reduceEqDiff,Nat.reduceMul,Int.reduceLT,gY,t1,rl1,rla]
 obtain ⟨r1,y1,z1,A1,R1⟩:=sm1.cells2
 refine SlQ.app (bytes:=80) wY sq1 y1 z1 A1 R1 zCZ.cel (by omega) (by simp; omega) (by simp; omega) fun o2' Z sq2 wZ sZ kZ rZ wmZ diZ=>?_
 have on2:=sq2.one
 have oc2:=sq2.cells
 have rl2:=sq2.rl (Nat.le_refl _)
 have ro2 : ∀ j,rowOf o2' = some j → j = M.size:=fun j hj=>ro1 j (rZ ▸ hj)
 have gZ : Z.get id = some (.row false [a0,a1,a2]):=(kZ id (fun e=>by have:=ro1 _ e; omega)).trans gY
 have mZ : ∀ j,j < M.size → Z.get j = M.get j:=fun j hj=>(kZ j (fun e=>by have:=ro1 _ e; omega)).trans (mY j hj)
 simp (maxSteps:=2000000) (disch:=first | omega | assumption | (simp only [DS,Nat.reduceAdd, *]; done) | (simp only [DZ]; omega)) only [RUN,RU,zA2,zA1,reduceIte,Nat.reduceEqDiff,Int.reduceAdd,v2,zBW]
 refine w_un (by omega) ?_
 simp (maxSteps:=2000000) (disch:=first | omega | assumption | (simp only [DS,Nat.reduceAdd, *]; done) | (simp only [DZ]; omega)) only [RUN,RU,zA2,zA1,reduceIte,Nat.reduceEqDiff,Nat.reduceMul,Int.reduceLT,gZ,t2,rl2,h2'.fz.rows]
 obtain ⟨r2,y2,z2,A2,R2⟩:=h2'.cells2 Z
 refine SlQ.app (bytes:=80) wZ sq2 y2 z2 A2 R2 zCZ.cel (by omega) (by simp; omega) (by simp; omega) fun o3' U sq3 wU sU kU rU wmU diU=>?_
 have on3:=sq3.one
 have oc3:=sq3.cells
 have rl3:=sq3.rl (Nat.le_refl _)
 have ro3 : ∀ j,rowOf o3' = some j → j = M.size:=fun j hj=>ro2 j (rU ▸ hj)
 have mU : ∀ j,j < M.size → U.get j = M.get j:=fun j hj=>(kU j (fun e=>by have:=ro2 _ e; omega)).trans (mZ j hj)
 simp (maxSteps:=2000000) (disch:=first | omega | assumption | (simp only [DS,Nat.reduceAdd, *]; done) | (simp only [DZ]; omega)) only [RUN,RU,zA2,zA1,reduceIte,Nat.reduceEqDiff,Int.reduceAdd,v3,zBW]
 refine w_un (by omega) ?_
 simp (maxSteps:=2000000) (disch:=first | omega | assumption | (simp only [DS,Nat.reduceAdd, *]; done) | (simp only [DZ]; omega)) only [RUN,RU,zA2,zA1,zA0,zAB,reduceIte,Nat.reduceEqDiff,zIE]
 have e0 : l0.length + l1.length + l2.length - l0.length - l1.length - l2.length = 0:=by omega
 rw [e0] at sq3
 have d1:=diY (fun j hj=>by cases hj; omega)
 have d2:=diZ (fun j hj=>by have:=ro1 j hj; omega)
 have d3:=diU (fun j hj=>by have:=ro2 j hj; omega)
 exact k o3' U (by have:=sq3.slm; simpa using this) ⟨wU,by omega,mU,by omega,d3.trans (d2.trans (d1.trans dX))⟩ (fun j hj=>by have:=ro3 j hj; omega) on3 oc3 rl3
end Go.Proofs.YtklfocnoenjgdaaGreat
namespace Go.Proofs.YtklfocnoenjgdaaGreat
open Go Go.Ax
variable {fuel : Nat} {M : Mem} {Q : AV → Mem → Prop} {d : Nat}
set_option maxHeartbeats 16000000 in
theorem zMK {a : AV} {l : List Rn} {x : Eid} (hS : Sl 10 isRn a l) (hm : ∀ r ∈ l,r.may = true) (hx : x = Eid.z ∨ zBC l x ≠ none) (hl : l.length ≤ 9000) (hf : l.length + 100 < fuel) :
  ∃ r,Sl 10 isRn r (zB6 l x).1 ∧ ∀ M,zAE Tryz.prog (fsT tbl) fuel (d + 8) (.fn 56) [a,idA x] M = some (.tup [r,I64 (zB6 l x).2],M):=by
 have oa:=hS.one
 have la:=hS.len
 have hw:=fun M=>@zN8 fuel (d + 1) a l x hS (by omega) (by omega) M
 refine zEC tf56 rfl (fun M=>by simp only [icyL,fun M=>hS.icy M 12 (by omega),zAV (zE9 x) (show 1 < 12 by omega)]) ?_
 refine zAI tf56 rfl (by simp only [icyL,fun M=>hS.icy M 12 (by omega),zAV (zE9 x) (show 1 < 12 by omega)]) (by simp [a56]) fun b' ht hx=>?_
 have h0:=hx 0 _ rfl
 have h1:=hx 1 _ rfl
 clear hx
 simp only [a56,c56,zz1,zz3,zzm] at ht ⊢
 by_cases hz : x = Eid.z
 ·have q : decide (x = Eid.z) = true:=decide_eq_true hz
  have hpl : zB6 l x = (l,0):=by unfold zB6; rw [if_pos hz]
  rw [hpl]
  simp (maxSteps:=2000000) (disch:=first | omega | assumption | (simp only [DS,Nat.reduceAdd, *]; done) | (simp only [DZ]; omega)) only [RUN,RU,zA2,zA1,zA0,zAB,frzL,slot,zAJ,reduceIte,Nat.reduceEqDiff,h0,h1,hS.fz.frz,↓pIdE,zAS,ETA,q]
  exact ⟨_,hS,rfl⟩
 ·have q : decide (x = Eid.z) = false:=decide_eq_false hz
  rcases hx with hx | hx
  ·exact absurd hx hz
  cases hwl : zBC l x with
  | none=>exact absurd hwl hx
  | some p =>
   obtain ⟨n,k⟩:=p
   obtain ⟨L1,o,L2,hle,hln,h1',h2',h3',h4'⟩:=zH1 hwl
   rw [hwl] at hw
   simp only [wN,wK] at hw
   have hnl : n < l.length:=by rw [hle,List.length_append,List.length_cons]; omega
   obtain ⟨r,hiad,hr,hrl⟩:=hS.iad n hnl
   have hgo : l.getD n Rn.z = l[n]:=by rw [List.getD_eq_getElem?_getD,List.getElem?_eq_getElem hnl]; rfl
   have hpl : zB6 l x = if (l.getD n Rn.z).cutE (k + 1) = 0 then (l.take n ++ [(l.getD n Rn.z).fst (k + 1),(l.getD n Rn.z).snd (k + 1)] ++ l.drop (n + 1),n + 1) else (l,n + 1):=by unfold zB6; rw [if_neg hz]; simp only [hwl]
   rw [hpl,hgo]
   clear hpl
   have hom:=hm l[n] (List.getElem_mem hnl)
   have hro:=zcD hS l[n] (List.getElem_mem hnl)
   have hon : o = l[n]:=by simp [hle,← hln]
   have hln':=hon ▸ h3'
   generalize l[n] = e at *
   obtain ⟨ra,rfl,hra,_⟩:=hr
   have ora:=hra.one
   have hb:=Spn.may_le (Rn.may_sp hom)
   have w1 : IntKind.i64.wrap (k + 1) = k + 1:=by rw [wrap_i64] <;> omega
   have w2 : IntKind.i64.wrap ((n : Int) + 1) = ((n + 1 : Nat) : Int):=by rw [wrap_i64] <;> omega
   obtain ⟨v,⟨ca,cb,rfl,hca,hcb⟩,hcut⟩:=zGX (fuel:=fuel) (d:=d) (n:=k + 1) hra (by omega)
   have oca:=hca.one
   have ocb:=hcb.one
   by_cases hc : e.cutE (k + 1) = 0
   ·have q2 : decide (e.cutE (k + 1) = 0) = true:=decide_eq_true hc
    rw [if_pos hc]
    obtain ⟨r1,s1,b1⟩:=zRP hS (j:=n) (by omega)
    obtain ⟨r2,s2,b2⟩:=zUX hS (i:=n + 1) (by omega)
    have ob1:=b1.one
    have ob2:=b2.one
    have eA : e.cutA (k + 1) = e.fst (k + 1):=by unfold Rn.cutA; rw [if_pos hc]
    have eB : e.cutB (k + 1) = e.snd (k + 1):=by unfold Rn.cutB; rw [if_pos hc]
    have okA:=zZ8 hro hc
    have okB:=za1 hro hc
    rw [eA] at hca hcut
    rw [eB] at hcb hcut
    generalize e.fst (k + 1) = eF at *
    generalize e.snd (k + 1) = eS at *
    have oca:=hca.one
    have ocb:=hcb.one
    simp (maxSteps:=2000000) (disch:=first | omega | assumption | (simp only [DS,Nat.reduceAdd, *]; done) | (simp only [DZ]; omega)) only [RUN,RU,zA2,zA1,slot,lay,zAJ,zAA,reduceIte,Nat.reduceEqDiff,Nat.reduceBEq,Nat.reduceAdd,h0,h1,hS.fz.rows,↓pIdE,zAS,ETA,q,hw,hiad,w1,w2,hcut,q2,s1,s2,b1.fz.cells,b2.fz.cells,zCB]
    refine zSP (d:=d + 5) (id:=4) (a0:=r1) (a1:=.sl 3 0 2 (some 2) 10) (a2:=r2) (l1:=[eF,eS]) (by simp (maxSteps:=2000000) (disch:=first | omega | assumption | (simp only [DS,Nat.reduceAdd, *]; done) | (simp only [DZ]; omega)) only [RUN]) ?_ b1 (zV0 (zPI hca hcb okA okB) (by simp) rfl (.inr rfl) ?_) b2 (by simp) (by rw [List.length_take]; omega) (by simp) (by rw [List.length_drop]; omega) (by omega) (Nat.le_refl _) fun o' N sm kN nr on oc rl=>?_
    ·simp (maxSteps:=2000000) (disch:=first | omega | assumption | (simp only [DS,Nat.reduceAdd, *]; done) | (simp only [DZ]; omega)) only [RUN]
    ·simp (maxSteps:=2000000) (disch:=first | omega | assumption | (simp only [DS,Nat.reduceAdd, *]; done) | (simp only [DZ]; omega)) only [RUN]
     rfl
    ·have wN:=kN.wf
     have dN : N.dirty = false:=kN.di
     simp (maxSteps:=2000000) (disch:=first | omega | assumption | (simp only [DS,Nat.reduceAdd, *]; done) | (simp only [DZ]; omega)) only [RUN,RU,zA2,zA1,zA0,zAB,frzL,reduceIte,Nat.reduceEqDiff,Nat.reduceAdd,dN]
     obtain ⟨ro,hro2,hfr⟩:=zGD sm zCZ.cel 12 (by omega)
     rw [hfr _ (fun id h=>by simp (maxSteps:=2000000) (disch:=first | omega | assumption | (simp only [DS,Nat.reduceAdd, *]; done) | (simp only [DZ]; omega)) only [RUN])]
     exact ⟨ro,hro2,by rw [w2]⟩
   ·have q2 : decide (e.cutE (k + 1) = 0) = false:=decide_eq_false hc
    rw [if_neg hc]
    simp (maxSteps:=2000000) (disch:=first | omega | assumption | (simp only [DS,Nat.reduceAdd, *]; done) | (simp only [DZ]; omega)) only [RUN,RU,zA2,zA1,zA0,zAB,frzL,slot,lay,zAJ,reduceIte,Nat.reduceEqDiff,Nat.reduceAdd,h0,h1,hS.fz.frz,↓pIdE,zAS,ETA,q,hw,hiad,w1,w2,hcut,q2]
    exact ⟨_,hS,rfl⟩
end Go.Proofs.YtklfocnoenjgdaaGreat
namespace Go.Proofs.YtklfocnoenjgdaaGreat
open Go Go.Ax
variable {fuel : Nat} {M : Mem} {Q : AV → Mem → Prop} {d : Nat}
theorem zPH {X : Mem} {o : AV} {r : List AV} {x : Rn} (wf : Wf X) (h : SlN X 10 isRn o []) (hx : isRn r x) (hr : r.length = 10)
  (k : ∀ o' M',SlM M' 10 isRn o' [x] → Wf M' → X.size ≤ M'.size → (∀ j,j < X.size → rowOf o ≠ some j → M'.get j = X.get j) → (∀ id,rowOf o' = some id → rowOf o = some id ∨ X.size ≤ id) → M'.wm = X.wm → Q o' M') :
  W3 (zAE Tryz.prog (fsT tbl) fuel (d + 1) (.fn 59) [o,I64 0,.sl X.size 0 1 (some 1) 10] (X.add (.row false r))) Q:=by
 have sm:=h.slm
 have oo:=sm.one
 have ol:=sm.len
 have z10 : decide ((1 : Int) = 0) = false:=rfl
 have ge : ∀ N,lenO N (.sl X.size 0 1 (some 1) 10) = some (I64 1,N):=fun _=>rfl
 have hs : ∀ N,(∀ j,rowOf o = some j → N.get j = X.get j) → ∃ v,slcO N 10 o (some (I64 0)) none none = some (v,N) ∧ oneA v = true:=fun N hN=>by
  rcases h with ⟨_,rfl | ⟨id,rfl,hg⟩⟩ | ⟨hn,_⟩
  ·exact ⟨_,rfl,rfl⟩
  ·exact ⟨_,rfl,rfl⟩
  ·exact absurd rfl hn
 obtain ⟨v,hsv,ov⟩:=hs (X.add (.row false r)) (fun j hj=>zAF wf _ _ (sm.lt j hj))
 refine zAZ tf59 rfl (by simp [a59]) fun b' ht hx=>?_
 have h0:=hx 0 _ rfl
 have h1:=hx 1 _ rfl
 have h2:=hx 2 _ rfl
 clear hx
 simp only [a59,c59,zz1,zzm] at ht ⊢
 have ol0 : ∀ N,lenO N o = some (I64 0,N):=ol
 have rlo:=zAW sm.rl (show X.size ≤ X.size + 1 by omega)
 simp (maxSteps:=2000000) (disch:=first | omega | assumption | (simp only [DS,Nat.reduceAdd, *]; done) | (simp only [DZ]; omega)) only [RUN,RU,zA2,zA1,reduceIte,Nat.reduceEqDiff,Int.reduceEq,h0,h1,h2,ol0,hsv,ge,rlo]
 refine app1 wf sm zCZ (x:=x) hx hr (by omega) (by simp) (by simp) fun o' M' sm' w' le' kp nw wm' rl on oc=>?_
 simp (maxSteps:=2000000) (disch:=first | omega | assumption | (simp only [DS,Nat.reduceAdd, *]; done) | (simp only [DZ]; omega)) only [RUN,RU,zA2,zA1,zA0,zAB,reduceIte,Nat.reduceEqDiff]
 exact k o' M' sm' w' le' kp nw wm'
theorem zPQ {l : List Rn} {r : Rn} {n : Nat} (D : List Rn) (h : D = (l.drop n).takeWhile fun q=>r.sp.f.less q.sp.f) {i : Nat} (hi : i < D.length) (hn : n + i < l.length) : r.sp.f.less l[n + i].sp.f = true ∧ D[i] = l[n + i]:=by
 have h1 : D[i] ∈ (l.drop n).takeWhile fun q=>r.sp.f.less q.sp.f:=by rw [← h]; exact List.getElem_mem hi
 have h2:=List.all_eq_true.1 (List.all_takeWhile (l:=l.drop n) (p:=fun q=>r.sp.f.less q.sp.f)) _ h1
 have h3 : D[i] = l[n + i]:=by
  have hp : D <+: l.drop n:=by rw [h]; exact List.takeWhile_prefix _
  rw [hp.getElem hi,List.getElem_drop]
 rw [← h3]
 exact ⟨h2,rfl⟩
theorem zN2 {l : List Rn} {x : Eid} {n : Nat} (h : zEZ l x n < l.length) : x.less l[zEZ l x n].sp.f = false:=by
 have hd : ((l.drop n).dropWhile fun q=>x.less q.sp.f) = l.drop (zEZ l x n):=by
  have e:=List.takeWhile_append_dropWhile (p:=fun q : Rn=>x.less q.sp.f) (l:=l.drop n)
  have e2:=congrArg (List.drop ((l.drop n).takeWhile fun q=>x.less q.sp.f).length) e
  rw [List.drop_left,List.drop_drop] at e2
  exact e2
 have:=List.head?_dropWhile_not (fun q : Rn=>x.less q.sp.f) (l.drop n)
 rw [hd,List.drop_eq_getElem_cons h] at this
 exact this
theorem zUW {l : List Rn} {x : Eid} {n : Nat} (hn : n ≤ l.length) : zEZ l x n ≤ l.length:=by
 unfold zEZ
 have:=(List.takeWhile_sublist (l:=l.drop n) (fun q : Rn=>x.less q.sp.f)).length_le
 rw [List.length_drop] at this
 omega
theorem zKZ (l : List Rn) (x : Eid) : (zB6 l x).1.length ≤ l.length + 2:=by
 unfold zB6
 split
 ·simp
 ·split
  ·simp
  ·split
   ·simp; omega
   ·simp
theorem zTR (l : List Rn) : (zBP l).length ≤ l.length:=by
 refine zCH (P:=fun l=>(zBP l).length ≤ l.length) (Nat.le_refl _) (fun l r ih=>?_) l
 rw [zM4]
 have:=zOT (zBP l) r
 simp only [List.length_append,List.length_singleton]
 omega
theorem zX2 (l : List Rn) (r : Rn) : (insL l r).length ≤ l.length + 3:=by
 unfold insL
 refine Nat.le_trans (zTR _) ?_
 have:=zKZ l r.af
 simp only [List.length_append,List.length_take,List.length_drop,List.length_singleton]
 omega
noncomputable def insR (l : List Rn) (r : Rn) : List Rn:=if putE l r = 0 then insL l r else []
open Classical in
set_option maxHeartbeats 16000000 in
theorem zR9 {a ra : AV} {l : List Rn} {x : Rn} (hS : Sl 10 isRn a l) (hR : Sl 1 zAT ra x.rs) (hx : x.ok) (hl : l.length ≤ 900) (hf : 64 * l.length + 3011000 < fuel) : ∃ r,Sl 10 isRn r (insR l x) ∧ ∀ M,zAE Tryz.prog (fsT tbl) fuel (d + 11) (.fn 37) [a,.agg (rnR x ra)] M = some (.tup [r,I64 (putE l x)],M):=by
 have oa:=hS.one
 have ora:=hR.one
 have hck:=fun M=>@zSL fuel d a l hS (by omega) (by omega) M
 have hcx:=fun M=>@zC1 fuel (d + 4) x ra hR (by omega) M
 refine zEC tf37 rfl (fun M=>by simp only [icyL,fun M=>hS.icy M 12 (by omega),zCJ hR.fz]) ?_
 refine zAI tf37 rfl (by simp only [icyL,fun M=>hS.icy M 12 (by omega),zCJ hR.fz]) (by simp [a37]) fun b' ht hx=>?_
 have h0:=hx 0 _ rfl
 have h1:=hx 1 _ rfl
 clear hx
 simp only [a37,c37,zz1,zz3,zzm] at ht ⊢
 have hiE : putE l x = if zF0 l = true ∧ x.may = true then (if x.af ≠ Eid.z ∧ zBC l x.af = none then 6 else if ∃ i : Nat,(i : Int) < x.sp.n ∧ zBC l (x.sp.at i) ≠ none then 2 else if 8192 < zB4 l + x.sp.n then 4 else 0) else 8:=by
  unfold putE
  simp only [zN4]
 by_cases h8 : zF0 l = true ∧ x.may = true
 ·rw [if_pos h8] at hiE
  obtain ⟨htb,hxm⟩:=h8
  have hok:=zN4.1 htb
  rw [htb] at hck
  rw [hxm] at hcx
  have hwh:=fun y M=>@zN8 fuel (d + 4) a l y hS (by omega) (by omega) M
  have hwa:=fun M=>hwh x.af M
  have hb:=Spn.may_le (Rn.may_sp hxm)
  obtain ⟨m,hmn⟩ : ∃ m : Nat,x.sp.n = m:=⟨x.sp.n.toNat,by omega⟩
  have ia : ∀ i : Nat,i < m → ∀ M,zAE Tryz.prog (fsT tbl) fuel (d + 10) (.fn 54) [spA x.sp,I64 i] M = some (.tup [idA (x.sp.at i),I64 0],M):=fun i hi M=>by
   have:=@zIA fuel (d + 5) x.sp i M
   rw [if_pos (Rn.may_sp hxm),if_neg (by omega)] at this
   exact this
  have qn1 : decide ((-1 : Int) < 0) = true:=rfl
  have qg1 : decide ((0 : Int) ≤ -1) = false:=rfl
  by_cases h6 : x.af ≠ Eid.z ∧ zBC l x.af = none
  ·have e6 : putE l x = 6:=by rw [hiE,if_pos h6]
   have er : insR l x = []:=by unfold insR; rw [e6]; rfl
   rw [e6,er]
   have q : decide (x.af = Eid.z) = false:=decide_eq_false h6.1
   rw [h6.2] at hwa
   simp (maxSteps:=2000000) (disch:=first | omega | assumption | (simp only [DS,Nat.reduceAdd, *]; done) | (simp only [DZ]; omega)) only [RUN,RU,zA2,zA1,zA0,zAB,frzL,slot,zAJ,reduceIte,Nat.reduceEqDiff,Nat.reduceBEq,Nat.reduceAdd,Int.reduceLT,h0,h1,hck,hcx,IMX,zB3,zC6,BMM,hwa,wN,wK,↓pIdN,zB5,ETA,q]
   exact ⟨NIL,.inl ⟨rfl,rfl⟩,rfl⟩
  ·rw [if_neg h6] at hiE
   have hx6 : x.af = Eid.z ∨ zBC l x.af ≠ none:=by
    by_cases h : x.af = Eid.z
    ·exact .inl h
    ·exact .inr fun k=>h6 ⟨h,k⟩
   have step : ∃ b : Bool,(decide ((wN (zBC l x.af)) < 0) = b) ∧ (b = true → decide (x.af = Eid.z) = true):=by
    refine ⟨_,rfl,fun hb=>?_⟩
    rcases hx6 with h | h
    ·exact decide_eq_true h
    ·cases hw : zBC l x.af with
     | none=>exact absurd hw h
     | some p =>
      have hb:=of_decide_eq_true hb
      rw [hw] at hb
      simp only [wN] at hb
      omega
   obtain ⟨b6,hb6,hb6'⟩:=step
   have main : ∀ (b6 : Bool),decide ((wN (zBC l x.af)) < 0) = b6 → (b6 = true → decide (x.af = Eid.z) = true) → True:=fun _ _ _=>trivial
   clear main
   cases b6 with
   | true =>
    have q:=hb6' rfl
    simp (maxSteps:=2000000) (disch:=first | omega | assumption | (simp only [DS,Nat.reduceAdd, *]; done) | (simp only [DZ]; omega)) only [RUN,RU,zA2,zA1,slot,zAJ,reduceIte,Nat.reduceEqDiff,Nat.reduceBEq,Nat.reduceAdd,h0,h1,hck,hcx,IMX,zB3,zC6,BMM,hwa,hb6,↓pIdN,zB5,ETA,q]
    refine zB8 (I:=fun n t N => ∃ (i : Nat),n = m - i ∧ i ≤ m ∧ nth zA5 t 0 = a ∧ nth zA5 t 3 = .ptr 0 0 ∧ nth zA5 t 40 = I64 m ∧ nth zA5 t 41 = I64 i ∧ Wf N ∧ N.get 0 = some (.row false (rnR x ra)) ∧ (∀ j,j < i → zBC l (x.sp.at (j : Nat)) = none) ∧ N.size ≤ i + 1) (n:=m) (by omega) ?_ ?_
    ·refine ⟨0,rfl,Nat.zero_le _, ?_, ?_, ?_, ?_,Wf.mem0.add _,by simp (maxSteps:=2000000) (disch:=first | omega | assumption | (simp only [DS,Nat.reduceAdd, *]; done) | (simp only [DZ]; omega)) only [RUN],(fun _ h=>absurd h (by omega)),Nat.le_refl _⟩ <;> simp (maxSteps:=2000000) (disch:=first | omega | assumption | (simp only [DS,Nat.reduceAdd, *]; done) | (simp only [DZ]; omega)) only [RUN,reduceIte,Nat.reduceEqDiff,h0,hmn]
     all_goals first | rfl | assumption | done
    ·rintro n t N hlt ⟨i,rfl,hi,g0,g3,g40,g41,w,g,hj,sz⟩
     simp only [ht] at hlt ⊢
     have lg:=Mem.get_lt g
     by_cases hc : i < m
     ·have q1 : decide ((i : Int) < m) = true:=decide_eq_true (by omega)
      have w1 : IntKind.i64.wrap ((i : Int) + 1) = ((i + 1 : Nat) : Int):=by rw [wrap_i64] <;> omega
      have iai:=ia i hc
      have hwi:=hwh (x.sp.at (i : Nat))
      cases hwl : zBC l (x.sp.at (i : Nat)) with
      | some p =>
       have e2 : putE l x = 2:=by rw [hiE,if_pos ⟨i,by omega,by rw [hwl]; simp⟩]
       have er : insR l x = []:=by unfold insR; rw [e2]; rfl
       rw [hwl] at hwi
       have qp : decide ((0 : Int) ≤ ((p.1 : Nat) : Int)) = true:=decide_eq_true (by omega)
       rw [e2,er]
       simp (maxSteps:=2000000) (disch:=first | omega | assumption | (simp only [DS,Nat.reduceAdd, *]; done) | (simp only [DZ]; omega)) only [RUN,RU,zA2,zA1,zA0,zAB,frzL,slot,lay,reduceIte,Nat.reduceEqDiff,Nat.reduceAdd,g0,g3,g40,g41,q1,iai,g,hwi,wN,wK,qp]
       exact ⟨NIL,.inl ⟨rfl,rfl⟩,rfl⟩
      | none =>
       rw [hwl] at hwi
       simp (maxSteps:=2000000) (disch:=first | omega | assumption | (simp only [DS,Nat.reduceAdd, *]; done) | (simp only [DZ]; omega)) only [RUN,RU,zA2,zA1,slot,lay,reduceIte,Nat.reduceEqDiff,Nat.reduceAdd,Nat.reduceLeDiff,Int.reduceLE,g0,g3,g40,g41,q1,iai,g,w,hwi,wN,wK,w1]
       refine ⟨hlt,m - (i + 1),by omega,i + 1,rfl,by omega,rfl,fun j hj'=>?_,by omega⟩
       rcases Nat.lt_succ_iff_lt_or_eq.1 hj' with h | rfl
       ·exact hj j h
       ·exact hwl
     ·obtain rfl : i = m:=by omega
      have q1 : decide ((i : Int) < i) = false:=decide_eq_false (by omega)
      have hno : ¬∃ j : Nat,(j : Int) < x.sp.n ∧ zBC l (x.sp.at j) ≠ none:=fun ⟨j,h1,h2⟩=>h2 (hj j (by omega))
      rw [if_neg hno] at hiE
      have hct:=fun M=>@zI6 fuel (d + 9) a l hS hok.1 (by omega) (by omega) M
      have hcl:=zEI hok.1
      have w2 : IntKind.i64.wrap (zB4 l + x.sp.n) = zB4 l + x.sp.n:=by rw [wrap_i64] <;> omega
      by_cases h4 : 8192 < zB4 l + x.sp.n
      ·have e4 : putE l x = 4:=by rw [hiE,if_pos h4]
       have er : insR l x = []:=by unfold insR; rw [e4]; rfl
       have q4 : decide (8192 < zB4 l + x.sp.n) = true:=decide_eq_true h4
       rw [e4,er]
       simp (maxSteps:=2000000) (disch:=first | omega | assumption | (simp only [DS,Nat.reduceAdd, *]; done) | (simp only [DZ]; omega)) only [RUN,RU,zA2,zA1,zA0,zAB,frzL,reduceIte,Nat.reduceEqDiff,Nat.reduceBEq,Nat.reduceAdd,g0,g3,g40,g41,g,hct,w2,q4]
       exact ⟨NIL,.inl ⟨rfl,rfl⟩,rfl⟩
      ·have e0 : putE l x = 0:=by rw [hiE,if_neg h4]
       have er : insR l x = insL l x:=by unfold insR; rw [if_pos e0]
       have q4 : decide (8192 < zB4 l + x.sp.n) = false:=decide_eq_false h4
       obtain ⟨r',hr',hpart⟩:=zMK (fuel:=fuel) (d:=d + 2) hS hok.1 hx6 (by omega) (by omega)
       obtain ⟨p1,p2,p3,p4⟩:=zO6 hok.1 hx6
       have hpl:=zKZ l x.af
       have hsk:=zUW (x:=x.sp.f) p1
       have hss:=fun h=>@zN2 (zB6 l x.af).1 x.sp.f (zB6 l x.af).2 h
       have hmt:=fun D hD i=>@zPQ (zB6 l x.af).1 x (zB6 l x.af).2 D hD i
       have eL : insL l x = zBP ((zB6 l x.af).1.take (zEZ (zB6 l x.af).1 x.sp.f (zB6 l x.af).2) ++ [x] ++ (zB6 l x.af).1.drop (zEZ (zB6 l x.af).1 x.sp.f (zB6 l x.af).2)):=rfl
       unfold zEZ at hsk hss eL
       rw [e0,er,eL]
       generalize hD : ((zB6 l x.af).1.drop (zB6 l x.af).2).takeWhile (fun q=>x.sp.f.less q.sp.f) = D at *
       have hmt:=fun i=>hmt D rfl (i:=i)
       generalize (zB6 l x.af).1 = l' at *
       generalize (zB6 l x.af).2 = n0 at *
       have or':=hr'.one
       have lr':=hr'.len
       simp (maxSteps:=2000000) (disch:=first | omega | assumption | (simp only [DS,Nat.reduceAdd, *]; done) | (simp only [DZ]; omega)) only [RUN,RU,zA2,zA1,slot,reduceIte,Nat.reduceEqDiff,Nat.reduceBEq,Nat.reduceAdd,g0,g3,g40,g41,g,hct,w2,q4,hpart]
       refine zB8 (I:=fun n2 t2 N2 => ∃ (i2 : Nat),n2 = l'.length - n0 - i2 ∧ i2 ≤ l'.length - n0 ∧ nth zA5 t2 0 = r' ∧ nth zA5 t2 3 = .ptr 0 0 ∧ nth zA5 t2 14 = I64 ((n0 + i2 : Nat) : Int) ∧ Wf N2 ∧ N2.size ≤ 70 ∧ N2.get 0 = some (.row false (rnR x ra)) ∧ i2 ≤ D.length) (n:=l'.length - n0) (by omega) ?_ ?_
       ·refine ⟨0,rfl,Nat.zero_le _, ?_, ?_, ?_,w,by omega,g,Nat.zero_le _⟩ <;> simp (maxSteps:=2000000) (disch:=first | omega | assumption | (simp only [DS,Nat.reduceAdd, *]; done) | (simp only [DZ]; omega)) only [RUN,RU,reduceIte,Nat.reduceEqDiff,g0,g3]
        all_goals first | rfl | assumption | done
       ·rintro n2 t2 N2 hlt2 ⟨i2,rfl,hi2,g20,g23,g214,wf2,sz2,gg,hi2⟩
        simp only [hlt] at hlt2 ⊢
        have lgg:=Mem.get_lt gg
        by_cases hc2 : n0 + i2 < l'.length
        ·have q2 : decide (((n0 + i2 : Nat) : Int) < l'.length) = true:=decide_eq_true (by omega)
         have w3 : IntKind.i64.wrap (((n0 + i2 : Nat) : Int) + 1) = ((n0 + (i2 + 1) : Nat) : Int):=by rw [wrap_i64] <;> omega
         obtain ⟨r2,hiad2,hre,hrl2⟩:=hr'.iad (n0 + i2) hc2
         by_cases hd2 : i2 < D.length
         ·have hlt3:=(hmt i2 hd2 hc2).1
          generalize l'[n0 + i2] = e2 at *
          obtain ⟨rb,rfl,hrb,_⟩:=hre
          have orb:=hrb.one
          have hls:=fun M=>@zEU fuel (d + 8) x.sp.f e2.sp.f M
          rw [hlt3] at hls
          simp (maxSteps:=2000000) (disch:=first | omega | assumption | (simp only [DS,Nat.reduceAdd, *]; done) | (simp only [DZ]; omega)) only [RUN,RU,zA2,zA1,slot,reduceIte,Nat.reduceEqDiff,Nat.reduceBEq,Nat.reduceAdd,g20,g23,g214,q2,lr',hiad2,gg,wf2,hls,w3]
          exact ⟨hlt2,l'.length - n0 - (i2 + 1),by omega,i2 + 1,rfl,by omega,rfl,by omega⟩
         ·obtain rfl : i2 = D.length:=by omega
          have hlt3:=hss hc2
          generalize l'[n0 + D.length] = e2 at *
          obtain ⟨rb,rfl,hrb,_⟩:=hre
          have orb:=hrb.one
          have hls:=fun M=>@zEU fuel (d + 8) x.sp.f e2.sp.f M
          rw [hlt3] at hls
          simp (maxSteps:=2000000) (disch:=first | omega | assumption | (simp only [DS,Nat.reduceAdd, *]; done) | (simp only [DZ]; omega)) only [RUN,RU,zA2,slot,reduceIte,Nat.reduceEqDiff,Nat.reduceBEq,Nat.reduceAdd,g20,g23,g214,q2,lr',hiad2,gg,hls]
          refine zK5 zCZ.cel tf60 Tryz.underlying63 hr' (by omega) (by omega) (by simp (maxSteps:=2000000) (disch:=first | omega | assumption | (simp only [DS,Nat.reduceAdd, *]; done) | (simp only [DZ]; omega)) only [RUN,wf2]) fun o3 M3 wf3 le3 kp3 sn3 nr3 wm3 di3 sz3=>?_
          have hd3 : M3.dirty = false:=di3
          have z0 : M3.get 0 = some (.row false (rnR x ra)):=(kp3 0 lgg).trans gg
          have lz0:=Mem.get_lt z0
          have sm3:=sn3.slm
          have on3:=sm3.one
          have oc3:=sm3.cells
          have rl3:=zAW sm3.rl (Nat.le_refl M3.size)
          have rl3':=zAW sm3.rl (Nat.le_succ M3.size)
          simp (maxSteps:=2000000) (disch:=first | omega | assumption | (simp only [DS,Nat.reduceAdd, *]; done) | (simp only [DZ]; omega)) only [RUN,RU,zA2,slot,lay,zAJ,zAA,reduceIte,Nat.reduceEqDiff,Nat.reduceBEq,Nat.reduceAdd,g23,g214,hd3,z0,zYX,zCB]
          have sz3' : M3.size ≤ N2.size + 2:=sz3
          have hb0 : Nat.ble N2.size 0 = false:=by
           cases hb : Nat.ble N2.size 0 with
           | false=>rfl
           | true=>have:=Nat.le_of_ble_eq_true hb; omega
          refine ⟨by simp [zBY,FP.apart,FP.reads,FP.writes,hb0],by simp [zBY,FP.apart,FP.reads,FP.writes], ?_⟩
          have eX : ((N2.bk M3).add (.row false (rnR x ra))).lo = (⟨M3.t,M3.size,M3.size + 1,false⟩ : Mem).add (.row false (rnR x ra)):=rfl
          show W3 (insO _ (((N2.bk M3).add (.row false (rnR x ra))).lo) 59 10 80 o3 (I64 ((n0 + D.length : Nat) : Int)) (.sl M3.size 0 1 (some 1) 10)) _
          rw [eX]
          have wX : Wf (⟨M3.t,M3.size,M3.size + 1,false⟩ : Mem):=wf3
          have sX : (⟨M3.t,M3.size,M3.size + 1,false⟩ : Mem).size = M3.size:=rfl
          have snX : SlN (⟨M3.t,M3.size,M3.size + 1,false⟩ : Mem) 10 isRn o3 l':=sn3
          generalize (⟨M3.t,M3.size,M3.size + 1,false⟩ : Mem) = X3 at *
          have key : W3 (insO (zAE Tryz.prog (fsT tbl) fuel (d + 10)) (X3.add (.row false (rnR x ra))) 59 10 80 o3 (I64 ((n0 + D.length : Nat) : Int)) (.sl M3.size 0 1 (some 1) 10)) (fun o4 M4=>SlM M4 10 isRn o4 (l'.take (n0 + D.length) ++ [x] ++ l'.drop (n0 + D.length)) ∧ Wf M4):=by
           rw [← sX]
           by_cases hz : l' = []
           ·subst hz
            have e0 : n0 + D.length = 0:=by simp only [List.length_nil] at hsk; omega
            rw [e0]
            have hc0 : ((0 : Nat) : Int) = 0:=rfl
            rw [hc0]
            have h0' : W3 (zAE Tryz.prog (fsT tbl) fuel (d + 10) (.fn 59) [o3,I64 0,.sl X3.size 0 1 (some 1) 10] (X3.add (.row false (rnR x ra)))) (fun o4 M4=>SlM M4 10 isRn o4 [x] ∧ Wf M4):=zPH (d:=d + 9) wX snX ⟨ra,rfl,hR,hx⟩ rfl (fun o' M' a b _ _ _ _=>⟨a,b⟩)
            have e1 : insO (zAE Tryz.prog (fsT tbl) fuel (d + 10)) (X3.add (.row false (rnR x ra))) 59 10 80 o3 (I64 0) (.sl X3.size 0 1 (some 1) 10) = zAE Tryz.prog (fsT tbl) fuel (d + 10) (.fn 59) [o3,I64 0,.sl X3.size 0 1 (some 1) 10] (X3.add (.row false (rnR x ra))):=by
             rcases snX with ⟨_,rfl | ⟨id,rfl,_⟩⟩ | ⟨hn,_⟩
             ·exact zKP ..
             ·exact zKO ..
             ·exact absurd rfl hn
            rw [e1]
            exact h0'
           ·exact snX.ins (bytes:=80) (g:=59) wX hz zCZ.cel ⟨ra,rfl,hR,hx⟩ rfl (by omega) (by omega) (by omega) (by omega) (by omega) fun o' M' a b _ _ _=>⟨a,b⟩
          obtain ⟨o4,M4,he4,sm4,wf4⟩:=key
          rw [he4]
          clear he4 eX hmt hss snX sn3 sm3 kp3 hno hwh hwa hck hcx hcl ia hj hpart hct
          have on4:=sm4.one
          have oc4:=sm4.cells
          have rl4:=zAW sm4.rl (Nat.le_refl M4.size)
          simp (maxSteps:=2000000) (disch:=first | omega | assumption | (simp only [DS,Nat.reduceAdd, *]; done) | (simp only [DZ]; omega)) only [RUN,RU,zA2,reduceIte,Nat.reduceEqDiff,Nat.reduceAdd]
          refine zLG (n:=d + 9) (R:=fun r=>Sl 10 isRn r (zBP (l'.take (n0 + D.length) ++ [x] ++ l'.drop (n0 + D.length)))) tf58 rfl (sm4.keep fun _ _=>rfl) (show Wf _ from wf4) zCZ (fun a' ha'=>?_) fun r X' hr wX' sX' kX'=>?_
          ·refine zG4 (d:=d + 1) ha' (by simp only [List.length_append,List.length_take,List.length_drop,List.length_singleton]; omega) (fun q hq=>?_) (by simp only [List.length_append,List.length_take,List.length_drop,List.length_singleton]; omega)
           have hq64 : q.rs.length ≤ 64:=by
            rcases List.mem_append.1 hq with hq | hq
            ·rcases List.mem_append.1 hq with hq | hq
             ·exact zF2 p2 q (List.mem_of_mem_take hq)
             ·rw [List.mem_singleton] at hq; subst hq
              exact (Rn.may_iff.1 hxm).2.2.2.1
            ·exact zF2 p2 q (List.mem_of_mem_drop hq)
           omega
          ·have orr:=hr.one
           simp (maxSteps:=2000000) (disch:=first | omega | assumption | (simp only [DS,Nat.reduceAdd, *]; done) | (simp only [DZ]; omega)) only [RUN,RU,zA2,zA0,zAB,frzL,reduceIte,Nat.reduceEqDiff,Nat.reduceAdd,hr.fz.frz,zCB]
           exact ⟨r,hr,rfl⟩
        ·obtain rfl : i2 = D.length:=by omega
         have q2 : decide (((n0 + D.length : Nat) : Int) < l'.length) = false:=decide_eq_false (by omega)
         simp (maxSteps:=2000000) (disch:=first | omega | assumption | (simp only [DS,Nat.reduceAdd, *]; done) | (simp only [DZ]; omega)) only [RUN,RU,zA2,reduceIte,Nat.reduceEqDiff,Nat.reduceBEq,Nat.reduceAdd,g20,g214,q2,lr']
         refine zK5 zCZ.cel tf60 Tryz.underlying63 hr' (by omega) (by omega) (by simp (maxSteps:=2000000) (disch:=first | omega | assumption | (simp only [DS,Nat.reduceAdd, *]; done) | (simp only [DZ]; omega)) only [RUN,wf2]) fun o3 M3 wf3 le3 kp3 sn3 nr3 wm3 di3 sz3=>?_
         have hd3 : M3.dirty = false:=di3
         have z0 : M3.get 0 = some (.row false (rnR x ra)):=(kp3 0 lgg).trans gg
         have lz0:=Mem.get_lt z0
         have sm3:=sn3.slm
         have on3:=sm3.one
         have oc3:=sm3.cells
         have rl3:=zAW sm3.rl (Nat.le_refl M3.size)
         have rl3':=zAW sm3.rl (Nat.le_succ M3.size)
         simp (maxSteps:=2000000) (disch:=first | omega | assumption | (simp only [DS,Nat.reduceAdd, *]; done) | (simp only [DZ]; omega)) only [RUN,RU,zA2,slot,lay,zAJ,zAA,reduceIte,Nat.reduceEqDiff,Nat.reduceBEq,Nat.reduceAdd,g23,g214,hd3,z0,zYX,zCB]
         have sz3' : M3.size ≤ N2.size + 2:=sz3
         have hb0 : Nat.ble N2.size 0 = false:=by
          cases hb : Nat.ble N2.size 0 with
          | false=>rfl
          | true=>have:=Nat.le_of_ble_eq_true hb; omega
         refine ⟨by simp [zBY,FP.apart,FP.reads,FP.writes,hb0],by simp [zBY,FP.apart,FP.reads,FP.writes], ?_⟩
         have eX : ((N2.bk M3).add (.row false (rnR x ra))).lo = (⟨M3.t,M3.size,M3.size + 1,false⟩ : Mem).add (.row false (rnR x ra)):=rfl
         show W3 (insO _ (((N2.bk M3).add (.row false (rnR x ra))).lo) 59 10 80 o3 (I64 ((n0 + D.length : Nat) : Int)) (.sl M3.size 0 1 (some 1) 10)) _
         rw [eX]
         have wX : Wf (⟨M3.t,M3.size,M3.size + 1,false⟩ : Mem):=wf3
         have sX : (⟨M3.t,M3.size,M3.size + 1,false⟩ : Mem).size = M3.size:=rfl
         have snX : SlN (⟨M3.t,M3.size,M3.size + 1,false⟩ : Mem) 10 isRn o3 l':=sn3
         generalize (⟨M3.t,M3.size,M3.size + 1,false⟩ : Mem) = X3 at *
         have key : W3 (insO (zAE Tryz.prog (fsT tbl) fuel (d + 10)) (X3.add (.row false (rnR x ra))) 59 10 80 o3 (I64 ((n0 + D.length : Nat) : Int)) (.sl M3.size 0 1 (some 1) 10)) (fun o4 M4=>SlM M4 10 isRn o4 (l'.take (n0 + D.length) ++ [x] ++ l'.drop (n0 + D.length)) ∧ Wf M4):=by
          rw [← sX]
          by_cases hz : l' = []
          ·subst hz
           have e0 : n0 + D.length = 0:=by simp only [List.length_nil] at hsk; omega
           rw [e0]
           have hc0 : ((0 : Nat) : Int) = 0:=rfl
           rw [hc0]
           have h0' : W3 (zAE Tryz.prog (fsT tbl) fuel (d + 10) (.fn 59) [o3,I64 0,.sl X3.size 0 1 (some 1) 10] (X3.add (.row false (rnR x ra)))) (fun o4 M4=>SlM M4 10 isRn o4 [x] ∧ Wf M4):=zPH (d:=d + 9) wX snX ⟨ra,rfl,hR,hx⟩ rfl (fun o' M' a b _ _ _ _=>⟨a,b⟩)
           have e1 : insO (zAE Tryz.prog (fsT tbl) fuel (d + 10)) (X3.add (.row false (rnR x ra))) 59 10 80 o3 (I64 0) (.sl X3.size 0 1 (some 1) 10) = zAE Tryz.prog (fsT tbl) fuel (d + 10) (.fn 59) [o3,I64 0,.sl X3.size 0 1 (some 1) 10] (X3.add (.row false (rnR x ra))):=by
            rcases snX with ⟨_,rfl | ⟨id,rfl,_⟩⟩ | ⟨hn,_⟩
            ·exact zKP ..
            ·exact zKO ..
            ·exact absurd rfl hn
           rw [e1]
           exact h0'
          ·exact snX.ins (bytes:=80) (g:=59) wX hz zCZ.cel ⟨ra,rfl,hR,hx⟩ rfl (by omega) (by omega) (by omega) (by omega) (by omega) fun o' M' a b _ _ _=>⟨a,b⟩
         obtain ⟨o4,M4,he4,sm4,wf4⟩:=key
         rw [he4]
         clear he4 eX hmt hss snX sn3 sm3 kp3 hno hwh hwa hck hcx hcl ia hj hpart hct
         have on4:=sm4.one
         have oc4:=sm4.cells
         have rl4:=zAW sm4.rl (Nat.le_refl M4.size)
         simp (maxSteps:=2000000) (disch:=first | omega | assumption | (simp only [DS,Nat.reduceAdd, *]; done) | (simp only [DZ]; omega)) only [RUN,RU,zA2,reduceIte,Nat.reduceEqDiff,Nat.reduceAdd]
         refine zLG (n:=d + 9) (R:=fun r=>Sl 10 isRn r (zBP (l'.take (n0 + D.length) ++ [x] ++ l'.drop (n0 + D.length)))) tf58 rfl (sm4.keep fun _ _=>rfl) (show Wf _ from wf4) zCZ (fun a' ha'=>?_) fun r X' hr wX' sX' kX'=>?_
         ·refine zG4 (d:=d + 1) ha' (by simp only [List.length_append,List.length_take,List.length_drop,List.length_singleton]; omega) (fun q hq=>?_) (by simp only [List.length_append,List.length_take,List.length_drop,List.length_singleton]; omega)
          have hq64 : q.rs.length ≤ 64:=by
           rcases List.mem_append.1 hq with hq | hq
           ·rcases List.mem_append.1 hq with hq | hq
            ·exact zF2 p2 q (List.mem_of_mem_take hq)
            ·rw [List.mem_singleton] at hq; subst hq
             exact (Rn.may_iff.1 hxm).2.2.2.1
           ·exact zF2 p2 q (List.mem_of_mem_drop hq)
          omega
         ·have orr:=hr.one
          simp (maxSteps:=2000000) (disch:=first | omega | assumption | (simp only [DS,Nat.reduceAdd, *]; done) | (simp only [DZ]; omega)) only [RUN,RU,zA2,zA0,zAB,frzL,reduceIte,Nat.reduceEqDiff,Nat.reduceAdd,hr.fz.frz,zCB]
          exact ⟨r,hr,rfl⟩
   | false =>
    simp (maxSteps:=2000000) (disch:=first | omega | assumption | (simp only [DS,Nat.reduceAdd, *]; done) | (simp only [DZ]; omega)) only [RUN,RU,zA2,zA1,slot,reduceIte,Nat.reduceEqDiff,Nat.reduceBEq,Nat.reduceAdd,h0,h1,hck,hcx,IMX,zB3,zC6,BMM,hwa,hb6]
    refine zB8 (I:=fun n t N => ∃ (i : Nat),n = m - i ∧ i ≤ m ∧ nth zA5 t 0 = a ∧ nth zA5 t 3 = .ptr 0 0 ∧ nth zA5 t 40 = I64 m ∧ nth zA5 t 41 = I64 i ∧ Wf N ∧ N.get 0 = some (.row false (rnR x ra)) ∧ (∀ j,j < i → zBC l (x.sp.at (j : Nat)) = none) ∧ N.size ≤ i + 1) (n:=m) (by omega) ?_ ?_
    ·refine ⟨0,rfl,Nat.zero_le _, ?_, ?_, ?_, ?_,Wf.mem0.add _,by simp (maxSteps:=2000000) (disch:=first | omega | assumption | (simp only [DS,Nat.reduceAdd, *]; done) | (simp only [DZ]; omega)) only [RUN],(fun _ h=>absurd h (by omega)),Nat.le_refl _⟩ <;> simp (maxSteps:=2000000) (disch:=first | omega | assumption | (simp only [DS,Nat.reduceAdd, *]; done) | (simp only [DZ]; omega)) only [RUN,reduceIte,Nat.reduceEqDiff,h0,hmn]
     all_goals first | rfl | assumption | done
    ·rintro n t N hlt ⟨i,rfl,hi,g0,g3,g40,g41,w,g,hj,sz⟩
     simp only [ht] at hlt ⊢
     have lg:=Mem.get_lt g
     by_cases hc : i < m
     ·have q1 : decide ((i : Int) < m) = true:=decide_eq_true (by omega)
      have w1 : IntKind.i64.wrap ((i : Int) + 1) = ((i + 1 : Nat) : Int):=by rw [wrap_i64] <;> omega
      have iai:=ia i hc
      have hwi:=hwh (x.sp.at (i : Nat))
      cases hwl : zBC l (x.sp.at (i : Nat)) with
      | some p =>
       have e2 : putE l x = 2:=by rw [hiE,if_pos ⟨i,by omega,by rw [hwl]; simp⟩]
       have er : insR l x = []:=by unfold insR; rw [e2]; rfl
       rw [hwl] at hwi
       have qp : decide ((0 : Int) ≤ ((p.1 : Nat) : Int)) = true:=decide_eq_true (by omega)
       rw [e2,er]
       simp (maxSteps:=2000000) (disch:=first | omega | assumption | (simp only [DS,Nat.reduceAdd, *]; done) | (simp only [DZ]; omega)) only [RUN,RU,zA2,zA1,zA0,zAB,frzL,slot,lay,reduceIte,Nat.reduceEqDiff,Nat.reduceAdd,g0,g3,g40,g41,q1,iai,g,hwi,wN,wK,qp]
       exact ⟨NIL,.inl ⟨rfl,rfl⟩,rfl⟩
      | none =>
       rw [hwl] at hwi
       simp (maxSteps:=2000000) (disch:=first | omega | assumption | (simp only [DS,Nat.reduceAdd, *]; done) | (simp only [DZ]; omega)) only [RUN,RU,zA2,zA1,slot,lay,reduceIte,Nat.reduceEqDiff,Nat.reduceAdd,Nat.reduceLeDiff,Int.reduceLE,g0,g3,g40,g41,q1,iai,g,w,hwi,wN,wK,w1]
       refine ⟨hlt,m - (i + 1),by omega,i + 1,rfl,by omega,rfl,fun j hj'=>?_,by omega⟩
       rcases Nat.lt_succ_iff_lt_or_eq.1 hj' with h | rfl
       ·exact hj j h
       ·exact hwl
     ·obtain rfl : i = m:=by omega
      have q1 : decide ((i : Int) < i) = false:=decide_eq_false (by omega)
      have hno : ¬∃ j : Nat,(j : Int) < x.sp.n ∧ zBC l (x.sp.at j) ≠ none:=fun ⟨j,h1,h2⟩=>h2 (hj j (by omega))
      rw [if_neg hno] at hiE
      have hct:=fun M=>@zI6 fuel (d + 9) a l hS hok.1 (by omega) (by omega) M
      have hcl:=zEI hok.1
      have w2 : IntKind.i64.wrap (zB4 l + x.sp.n) = zB4 l + x.sp.n:=by rw [wrap_i64] <;> omega
      by_cases h4 : 8192 < zB4 l + x.sp.n
      ·have e4 : putE l x = 4:=by rw [hiE,if_pos h4]
       have er : insR l x = []:=by unfold insR; rw [e4]; rfl
       have q4 : decide (8192 < zB4 l + x.sp.n) = true:=decide_eq_true h4
       rw [e4,er]
       simp (maxSteps:=2000000) (disch:=first | omega | assumption | (simp only [DS,Nat.reduceAdd, *]; done) | (simp only [DZ]; omega)) only [RUN,RU,zA2,zA1,zA0,zAB,frzL,reduceIte,Nat.reduceEqDiff,Nat.reduceBEq,Nat.reduceAdd,g0,g3,g40,g41,g,hct,w2,q4]
       exact ⟨NIL,.inl ⟨rfl,rfl⟩,rfl⟩
      ·have e0 : putE l x = 0:=by rw [hiE,if_neg h4]
       have er : insR l x = insL l x:=by unfold insR; rw [if_pos e0]
       have q4 : decide (8192 < zB4 l + x.sp.n) = false:=decide_eq_false h4
       obtain ⟨r',hr',hpart⟩:=zMK (fuel:=fuel) (d:=d + 2) hS hok.1 hx6 (by omega) (by omega)
       obtain ⟨p1,p2,p3,p4⟩:=zO6 hok.1 hx6
       have hpl:=zKZ l x.af
       have hsk:=zUW (x:=x.sp.f) p1
       have hss:=fun h=>@zN2 (zB6 l x.af).1 x.sp.f (zB6 l x.af).2 h
       have hmt:=fun D hD i=>@zPQ (zB6 l x.af).1 x (zB6 l x.af).2 D hD i
       have eL : insL l x = zBP ((zB6 l x.af).1.take (zEZ (zB6 l x.af).1 x.sp.f (zB6 l x.af).2) ++ [x] ++ (zB6 l x.af).1.drop (zEZ (zB6 l x.af).1 x.sp.f (zB6 l x.af).2)):=rfl
       unfold zEZ at hsk hss eL
       rw [e0,er,eL]
       generalize hD : ((zB6 l x.af).1.drop (zB6 l x.af).2).takeWhile (fun q=>x.sp.f.less q.sp.f) = D at *
       have hmt:=fun i=>hmt D rfl (i:=i)
       generalize (zB6 l x.af).1 = l' at *
       generalize (zB6 l x.af).2 = n0 at *
       have or':=hr'.one
       have lr':=hr'.len
       simp (maxSteps:=2000000) (disch:=first | omega | assumption | (simp only [DS,Nat.reduceAdd, *]; done) | (simp only [DZ]; omega)) only [RUN,RU,zA2,zA1,slot,reduceIte,Nat.reduceEqDiff,Nat.reduceBEq,Nat.reduceAdd,g0,g3,g40,g41,g,hct,w2,q4,hpart]
       refine zB8 (I:=fun n2 t2 N2 => ∃ (i2 : Nat),n2 = l'.length - n0 - i2 ∧ i2 ≤ l'.length - n0 ∧ nth zA5 t2 0 = r' ∧ nth zA5 t2 3 = .ptr 0 0 ∧ nth zA5 t2 14 = I64 ((n0 + i2 : Nat) : Int) ∧ Wf N2 ∧ N2.size ≤ 70 ∧ N2.get 0 = some (.row false (rnR x ra)) ∧ i2 ≤ D.length) (n:=l'.length - n0) (by omega) ?_ ?_
       ·refine ⟨0,rfl,Nat.zero_le _, ?_, ?_, ?_,w,by omega,g,Nat.zero_le _⟩ <;> simp (maxSteps:=2000000) (disch:=first | omega | assumption | (simp only [DS,Nat.reduceAdd, *]; done) | (simp only [DZ]; omega)) only [RUN,RU,reduceIte,Nat.reduceEqDiff,g0,g3]
        all_goals first | rfl | assumption | done
       ·rintro n2 t2 N2 hlt2 ⟨i2,rfl,hi2,g20,g23,g214,wf2,sz2,gg,hi2⟩
        simp only [hlt] at hlt2 ⊢
        have lgg:=Mem.get_lt gg
        by_cases hc2 : n0 + i2 < l'.length
        ·have q2 : decide (((n0 + i2 : Nat) : Int) < l'.length) = true:=decide_eq_true (by omega)
         have w3 : IntKind.i64.wrap (((n0 + i2 : Nat) : Int) + 1) = ((n0 + (i2 + 1) : Nat) : Int):=by rw [wrap_i64] <;> omega
         obtain ⟨r2,hiad2,hre,hrl2⟩:=hr'.iad (n0 + i2) hc2
         by_cases hd2 : i2 < D.length
         ·have hlt3:=(hmt i2 hd2 hc2).1
          generalize l'[n0 + i2] = e2 at *
          obtain ⟨rb,rfl,hrb,_⟩:=hre
          have orb:=hrb.one
          have hls:=fun M=>@zEU fuel (d + 8) x.sp.f e2.sp.f M
          rw [hlt3] at hls
          simp (maxSteps:=2000000) (disch:=first | omega | assumption | (simp only [DS,Nat.reduceAdd, *]; done) | (simp only [DZ]; omega)) only [RUN,RU,zA2,zA1,slot,reduceIte,Nat.reduceEqDiff,Nat.reduceBEq,Nat.reduceAdd,g20,g23,g214,q2,lr',hiad2,gg,wf2,hls,w3]
          exact ⟨hlt2,l'.length - n0 - (i2 + 1),by omega,i2 + 1,rfl,by omega,rfl,by omega⟩
         ·obtain rfl : i2 = D.length:=by omega
          have hlt3:=hss hc2
          generalize l'[n0 + D.length] = e2 at *
          obtain ⟨rb,rfl,hrb,_⟩:=hre
          have orb:=hrb.one
          have hls:=fun M=>@zEU fuel (d + 8) x.sp.f e2.sp.f M
          rw [hlt3] at hls
          simp (maxSteps:=2000000) (disch:=first | omega | assumption | (simp only [DS,Nat.reduceAdd, *]; done) | (simp only [DZ]; omega)) only [RUN,RU,zA2,slot,reduceIte,Nat.reduceEqDiff,Nat.reduceBEq,Nat.reduceAdd,g20,g23,g214,q2,lr',hiad2,gg,hls]
          refine zK5 zCZ.cel tf60 Tryz.underlying63 hr' (by omega) (by omega) (by simp (maxSteps:=2000000) (disch:=first | omega | assumption | (simp only [DS,Nat.reduceAdd, *]; done) | (simp only [DZ]; omega)) only [RUN,wf2]) fun o3 M3 wf3 le3 kp3 sn3 nr3 wm3 di3 sz3=>?_
          have hd3 : M3.dirty = false:=di3
          have z0 : M3.get 0 = some (.row false (rnR x ra)):=(kp3 0 lgg).trans gg
          have lz0:=Mem.get_lt z0
          have sm3:=sn3.slm
          have on3:=sm3.one
          have oc3:=sm3.cells
          have rl3:=zAW sm3.rl (Nat.le_refl M3.size)
          have rl3':=zAW sm3.rl (Nat.le_succ M3.size)
          simp (maxSteps:=2000000) (disch:=first | omega | assumption | (simp only [DS,Nat.reduceAdd, *]; done) | (simp only [DZ]; omega)) only [RUN,RU,zA2,slot,lay,zAJ,zAA,reduceIte,Nat.reduceEqDiff,Nat.reduceBEq,Nat.reduceAdd,g23,g214,hd3,z0,zYX,zCB]
          have sz3' : M3.size ≤ N2.size + 2:=sz3
          have hb0 : Nat.ble N2.size 0 = false:=by
           cases hb : Nat.ble N2.size 0 with
           | false=>rfl
           | true=>have:=Nat.le_of_ble_eq_true hb; omega
          refine ⟨by simp [zBY,FP.apart,FP.reads,FP.writes,hb0],by simp [zBY,FP.apart,FP.reads,FP.writes], ?_⟩
          have eX : ((N2.bk M3).add (.row false (rnR x ra))).lo = (⟨M3.t,M3.size,M3.size + 1,false⟩ : Mem).add (.row false (rnR x ra)):=rfl
          show W3 (insO _ (((N2.bk M3).add (.row false (rnR x ra))).lo) 59 10 80 o3 (I64 ((n0 + D.length : Nat) : Int)) (.sl M3.size 0 1 (some 1) 10)) _
          rw [eX]
          have wX : Wf (⟨M3.t,M3.size,M3.size + 1,false⟩ : Mem):=wf3
          have sX : (⟨M3.t,M3.size,M3.size + 1,false⟩ : Mem).size = M3.size:=rfl
          have snX : SlN (⟨M3.t,M3.size,M3.size + 1,false⟩ : Mem) 10 isRn o3 l':=sn3
          generalize (⟨M3.t,M3.size,M3.size + 1,false⟩ : Mem) = X3 at *
          have key : W3 (insO (zAE Tryz.prog (fsT tbl) fuel (d + 10)) (X3.add (.row false (rnR x ra))) 59 10 80 o3 (I64 ((n0 + D.length : Nat) : Int)) (.sl M3.size 0 1 (some 1) 10)) (fun o4 M4=>SlM M4 10 isRn o4 (l'.take (n0 + D.length) ++ [x] ++ l'.drop (n0 + D.length)) ∧ Wf M4):=by
           rw [← sX]
           by_cases hz : l' = []
           ·subst hz
            have e0 : n0 + D.length = 0:=by simp only [List.length_nil] at hsk; omega
            rw [e0]
            have hc0 : ((0 : Nat) : Int) = 0:=rfl
            rw [hc0]
            have h0' : W3 (zAE Tryz.prog (fsT tbl) fuel (d + 10) (.fn 59) [o3,I64 0,.sl X3.size 0 1 (some 1) 10] (X3.add (.row false (rnR x ra)))) (fun o4 M4=>SlM M4 10 isRn o4 [x] ∧ Wf M4):=zPH (d:=d + 9) wX snX ⟨ra,rfl,hR,hx⟩ rfl (fun o' M' a b _ _ _ _=>⟨a,b⟩)
            have e1 : insO (zAE Tryz.prog (fsT tbl) fuel (d + 10)) (X3.add (.row false (rnR x ra))) 59 10 80 o3 (I64 0) (.sl X3.size 0 1 (some 1) 10) = zAE Tryz.prog (fsT tbl) fuel (d + 10) (.fn 59) [o3,I64 0,.sl X3.size 0 1 (some 1) 10] (X3.add (.row false (rnR x ra))):=by
             rcases snX with ⟨_,rfl | ⟨id,rfl,_⟩⟩ | ⟨hn,_⟩
             ·exact zKP ..
             ·exact zKO ..
             ·exact absurd rfl hn
            rw [e1]
            exact h0'
           ·exact snX.ins (bytes:=80) (g:=59) wX hz zCZ.cel ⟨ra,rfl,hR,hx⟩ rfl (by omega) (by omega) (by omega) (by omega) (by omega) fun o' M' a b _ _ _=>⟨a,b⟩
          obtain ⟨o4,M4,he4,sm4,wf4⟩:=key
          rw [he4]
          clear he4 eX hmt hss snX sn3 sm3 kp3 hno hwh hwa hck hcx hcl ia hj hpart hct
          have on4:=sm4.one
          have oc4:=sm4.cells
          have rl4:=zAW sm4.rl (Nat.le_refl M4.size)
          simp (maxSteps:=2000000) (disch:=first | omega | assumption | (simp only [DS,Nat.reduceAdd, *]; done) | (simp only [DZ]; omega)) only [RUN,RU,zA2,reduceIte,Nat.reduceEqDiff,Nat.reduceAdd]
          refine zLG (n:=d + 9) (R:=fun r=>Sl 10 isRn r (zBP (l'.take (n0 + D.length) ++ [x] ++ l'.drop (n0 + D.length)))) tf58 rfl (sm4.keep fun _ _=>rfl) (show Wf _ from wf4) zCZ (fun a' ha'=>?_) fun r X' hr wX' sX' kX'=>?_
          ·refine zG4 (d:=d + 1) ha' (by simp only [List.length_append,List.length_take,List.length_drop,List.length_singleton]; omega) (fun q hq=>?_) (by simp only [List.length_append,List.length_take,List.length_drop,List.length_singleton]; omega)
           have hq64 : q.rs.length ≤ 64:=by
            rcases List.mem_append.1 hq with hq | hq
            ·rcases List.mem_append.1 hq with hq | hq
             ·exact zF2 p2 q (List.mem_of_mem_take hq)
             ·rw [List.mem_singleton] at hq; subst hq
              exact (Rn.may_iff.1 hxm).2.2.2.1
            ·exact zF2 p2 q (List.mem_of_mem_drop hq)
           omega
          ·have orr:=hr.one
           simp (maxSteps:=2000000) (disch:=first | omega | assumption | (simp only [DS,Nat.reduceAdd, *]; done) | (simp only [DZ]; omega)) only [RUN,RU,zA2,zA0,zAB,frzL,reduceIte,Nat.reduceEqDiff,Nat.reduceAdd,hr.fz.frz,zCB]
           exact ⟨r,hr,rfl⟩
        ·obtain rfl : i2 = D.length:=by omega
         have q2 : decide (((n0 + D.length : Nat) : Int) < l'.length) = false:=decide_eq_false (by omega)
         simp (maxSteps:=2000000) (disch:=first | omega | assumption | (simp only [DS,Nat.reduceAdd, *]; done) | (simp only [DZ]; omega)) only [RUN,RU,zA2,reduceIte,Nat.reduceEqDiff,Nat.reduceBEq,Nat.reduceAdd,g20,g214,q2,lr']
         refine zK5 zCZ.cel tf60 Tryz.underlying63 hr' (by omega) (by omega) (by simp (maxSteps:=2000000) (disch:=first | omega | assumption | (simp only [DS,Nat.reduceAdd, *]; done) | (simp only [DZ]; omega)) only [RUN,wf2]) fun o3 M3 wf3 le3 kp3 sn3 nr3 wm3 di3 sz3=>?_
         have hd3 : M3.dirty = false:=di3
         have z0 : M3.get 0 = some (.row false (rnR x ra)):=(kp3 0 lgg).trans gg
         have lz0:=Mem.get_lt z0
         have sm3:=sn3.slm
         have on3:=sm3.one
         have oc3:=sm3.cells
         have rl3:=zAW sm3.rl (Nat.le_refl M3.size)
         have rl3':=zAW sm3.rl (Nat.le_succ M3.size)
         simp (maxSteps:=2000000) (disch:=first | omega | assumption | (simp only [DS,Nat.reduceAdd, *]; done) | (simp only [DZ]; omega)) only [RUN,RU,zA2,slot,lay,zAJ,zAA,reduceIte,Nat.reduceEqDiff,Nat.reduceBEq,Nat.reduceAdd,g23,g214,hd3,z0,zYX,zCB]
         have sz3' : M3.size ≤ N2.size + 2:=sz3
         have hb0 : Nat.ble N2.size 0 = false:=by
          cases hb : Nat.ble N2.size 0 with
          | false=>rfl
          | true=>have:=Nat.le_of_ble_eq_true hb; omega
         refine ⟨by simp [zBY,FP.apart,FP.reads,FP.writes,hb0],by simp [zBY,FP.apart,FP.reads,FP.writes], ?_⟩
         have eX : ((N2.bk M3).add (.row false (rnR x ra))).lo = (⟨M3.t,M3.size,M3.size + 1,false⟩ : Mem).add (.row false (rnR x ra)):=rfl
         show W3 (insO _ (((N2.bk M3).add (.row false (rnR x ra))).lo) 59 10 80 o3 (I64 ((n0 + D.length : Nat) : Int)) (.sl M3.size 0 1 (some 1) 10)) _
         rw [eX]
         have wX : Wf (⟨M3.t,M3.size,M3.size + 1,false⟩ : Mem):=wf3
         have sX : (⟨M3.t,M3.size,M3.size + 1,false⟩ : Mem).size = M3.size:=rfl
         have snX : SlN (⟨M3.t,M3.size,M3.size + 1,false⟩ : Mem) 10 isRn o3 l':=sn3
         generalize (⟨M3.t,M3.size,M3.size + 1,false⟩ : Mem) = X3 at *
         have key : W3 (insO (zAE Tryz.prog (fsT tbl) fuel (d + 10)) (X3.add (.row false (rnR x ra))) 59 10 80 o3 (I64 ((n0 + D.length : Nat) : Int)) (.sl M3.size 0 1 (some 1) 10)) (fun o4 M4=>SlM M4 10 isRn o4 (l'.take (n0 + D.length) ++ [x] ++ l'.drop (n0 + D.length)) ∧ Wf M4):=by
          rw [← sX]
          by_cases hz : l' = []
          ·subst hz
           have e0 : n0 + D.length = 0:=by simp only [List.length_nil] at hsk; omega
           rw [e0]
           have hc0 : ((0 : Nat) : Int) = 0:=rfl
           rw [hc0]
           have h0' : W3 (zAE Tryz.prog (fsT tbl) fuel (d + 10) (.fn 59) [o3,I64 0,.sl X3.size 0 1 (some 1) 10] (X3.add (.row false (rnR x ra)))) (fun o4 M4=>SlM M4 10 isRn o4 [x] ∧ Wf M4):=zPH (d:=d + 9) wX snX ⟨ra,rfl,hR,hx⟩ rfl (fun o' M' a b _ _ _ _=>⟨a,b⟩)
           have e1 : insO (zAE Tryz.prog (fsT tbl) fuel (d + 10)) (X3.add (.row false (rnR x ra))) 59 10 80 o3 (I64 0) (.sl X3.size 0 1 (some 1) 10) = zAE Tryz.prog (fsT tbl) fuel (d + 10) (.fn 59) [o3,I64 0,.sl X3.size 0 1 (some 1) 10] (X3.add (.row false (rnR x ra))):=by
            rcases snX with ⟨_,rfl | ⟨id,rfl,_⟩⟩ | ⟨hn,_⟩
            ·exact zKP ..
            ·exact zKO ..
            ·exact absurd rfl hn
           rw [e1]
           exact h0'
          ·exact snX.ins (bytes:=80) (g:=59) wX hz zCZ.cel ⟨ra,rfl,hR,hx⟩ rfl (by omega) (by omega) (by omega) (by omega) (by omega) fun o' M' a b _ _ _=>⟨a,b⟩
         obtain ⟨o4,M4,he4,sm4,wf4⟩:=key
         rw [he4]
         clear he4 eX hmt hss snX sn3 sm3 kp3 hno hwh hwa hck hcx hcl ia hj hpart hct
         have on4:=sm4.one
         have oc4:=sm4.cells
         have rl4:=zAW sm4.rl (Nat.le_refl M4.size)
         simp (maxSteps:=2000000) (disch:=first | omega | assumption | (simp only [DS,Nat.reduceAdd, *]; done) | (simp only [DZ]; omega)) only [RUN,RU,zA2,reduceIte,Nat.reduceEqDiff,Nat.reduceAdd]
         refine zLG (n:=d + 9) (R:=fun r=>Sl 10 isRn r (zBP (l'.take (n0 + D.length) ++ [x] ++ l'.drop (n0 + D.length)))) tf58 rfl (sm4.keep fun _ _=>rfl) (show Wf _ from wf4) zCZ (fun a' ha'=>?_) fun r X' hr wX' sX' kX'=>?_
         ·refine zG4 (d:=d + 1) ha' (by simp only [List.length_append,List.length_take,List.length_drop,List.length_singleton]; omega) (fun q hq=>?_) (by simp only [List.length_append,List.length_take,List.length_drop,List.length_singleton]; omega)
          have hq64 : q.rs.length ≤ 64:=by
           rcases List.mem_append.1 hq with hq | hq
           ·rcases List.mem_append.1 hq with hq | hq
            ·exact zF2 p2 q (List.mem_of_mem_take hq)
            ·rw [List.mem_singleton] at hq; subst hq
             exact (Rn.may_iff.1 hxm).2.2.2.1
           ·exact zF2 p2 q (List.mem_of_mem_drop hq)
          omega
         ·have orr:=hr.one
          simp (maxSteps:=2000000) (disch:=first | omega | assumption | (simp only [DS,Nat.reduceAdd, *]; done) | (simp only [DZ]; omega)) only [RUN,RU,zA2,zA0,zAB,frzL,reduceIte,Nat.reduceEqDiff,Nat.reduceAdd,hr.fz.frz,zCB]
          exact ⟨r,hr,rfl⟩
 ·have e8 : putE l x = 8:=by rw [hiE,if_neg h8]
  have er : insR l x = []:=by unfold insR; rw [e8]; rfl
  have hz : imax (err (zF0 l)) (err x.may) = 8:=by
   cases ma : zF0 l <;> cases mb : x.may <;> first | rfl | exact absurd ⟨ma,mb⟩ h8
  rw [e8,er]
  simp (maxSteps:=2000000) (disch:=first | omega | assumption | (simp only [DS,Nat.reduceAdd, *]; done) | (simp only [DZ]; omega)) only [RUN,RU,zA2,zA1,zA0,zAB,frzL,slot,reduceIte,Nat.reduceEqDiff,Nat.reduceBEq,Nat.reduceAdd,Int.reduceEq,h0,h1,hck,hcx,hz,zC6,BMM]
  exact ⟨NIL,.inl ⟨rfl,rfl⟩,rfl⟩
end Go.Proofs.YtklfocnoenjgdaaGreat
namespace Go.Proofs.YtklfocnoenjgdaaGreat
open Go Go.Ax
variable {fuel : Nat} {M : Mem} {Q : AV → Mem → Prop} {d : Nat} {l : List Op} {a : AV}
theorem zLD (l : List Op) : (textOf l).length ≤ 3 * l.length:=by
 refine zCH (P:=fun l=>(textOf l).length ≤ 3 * l.length) (Nat.le_refl _) (fun l o ih=>?_) l
 rw [zFM]
 unfold stepT
 split
 ·have:=zX2 (textOf l) o.rn
  simp only [List.length_append,List.length_singleton]
  omega
 ·simp only [List.length_append,List.length_singleton]
  omega
def zfT (l : List Op) (r : AV) : Prop:=∃ r1,r = .tup [r1,I64 (err (zAP [] l))] ∧ Sl 10 isRn r1 (if zAP [] l = true then textOf l else [])
theorem zfL {o : Op} (h : o.ok) : o.rn.ok:=⟨h.2.2.2.1,h.2.2.2.2.1,h.2.2.2.2.2.2⟩
set_option maxHeartbeats 8000000 in
theorem zYR (hS : Sl 17 isOp a l) (hl : l.length ≤ 200) (hf : 3080000 < fuel) : ∃ r,zfT l r ∧ ∀ M,zAE Tryz.prog (fsT tbl) fuel (d + 15) (.fn 23) [a] M = some (r,M):=by
 have ll:=hS.len
 have hck:=fun M=>zCP (fuel:=fuel) (d:=d) hS (by omega) (by omega) M
 refine zEC tf23 rfl (fun M=>by simp only [icyL,fun M=>hS.icy M 12 (by omega)]) ?_
 refine zAI tf23 rfl (by simp only [icyL,fun M=>hS.icy M 12 (by omega)]) (by simp [a23]) fun b' ht hx=>?_
 have h0:=hx 0 _ rfl
 clear hx
 simp only [a23,c23,zz1,zz5,zzm] at ht ⊢
 unfold zfT
 cases q1 : zAP [] l with
 | false =>
  rw [q1] at hck
  simp (maxSteps:=2000000) (disch:=first | omega | assumption | (simp only [DS,Nat.reduceAdd, *]; done) | (simp only [DZ]; omega)) only [RUN,RU,zA2,zA1,zA0,zAB,frzL,reduceIte,Nat.reduceEqDiff,Int.reduceEq,h0,hck,zBH]
  exact ⟨_,⟨NIL,rfl,.inl ⟨rfl,rfl⟩⟩,rfl⟩
 | true =>
  rw [q1] at hck
  simp only [if_true]
  simp (maxSteps:=2000000) (disch:=first | omega | assumption | (simp only [DS,Nat.reduceAdd, *]; done) | (simp only [DZ]; omega)) only [RUN,RU,zA2,zA1,reduceIte,Nat.reduceEqDiff,h0,hck,zB3,ll]
  refine zB8 (I:=fun n t N => ∃ (i : Nat) (r : AV),n = l.length - i ∧ i ≤ l.length ∧ nth zA5 t 2 = r ∧ nth zA5 t 14 = a ∧ nth zA5 t 15 = I64 l.length ∧ nth zA5 t 16 = I64 i ∧ Wf N ∧ Sl 10 isRn r (textOf (l.take i))) (n:=l.length) (by omega) ?_ ?_
  ·refine ⟨0,NIL,rfl,Nat.zero_le _, ?_, ?_, ?_, ?_,Wf.mem0,.inl ⟨rfl,rfl⟩⟩ <;> simp (maxSteps:=2000000) (disch:=first | omega | assumption | (simp only [DS,Nat.reduceAdd, *]; done) | (simp only [DZ]; omega)) only [RUN,reduceIte,Nat.reduceEqDiff]
   all_goals first | rfl | assumption | done
  ·rintro n t N hlt ⟨i,r,rfl,hi,g2,g14,g15,g16,w,hA⟩
   simp only [ht] at hlt ⊢
   have or':=hA.one
   by_cases hc : i < l.length
   ·have q3 : decide ((i : Int) < l.length) = true:=decide_eq_true (by omega)
    have w1 : IntKind.i64.wrap ((i : Int) + 1) = ((i + 1 : Nat) : Int):=by rw [wrap_i64] <;> omega
    obtain ⟨r0,hiad,hr,hrl⟩:=hS.iad i hc
    have hts:=zFM (l.take i) l[i]
    rw [← take_snoc l i hc] at hts
    have htl:=zLD (l.take i)
    rw [List.length_take] at htl
    have hsp : l.take i ++ l[i] :: l.drop (i + 1) = l:=by rw [← List.drop_eq_getElem_cons hc,List.take_append_drop]
    have hput : rofE l[i] = 0 → putE (textOf (l.take i)) l[i].rn = 0:=zWZ (m:=l.drop (i + 1)) (by rw [hsp]; exact q1)
    clear hsp
    generalize l[i] = e at *
    obtain ⟨ra,rfl,hra,hok⟩:=hr
    have ora:=hra.one
    obtain ⟨rr,hk,hof⟩:=zMW (fuel:=fuel) (d:=d + 6) hra hok (by omega)
    by_cases q4 : rofE e = 0
    ·have q4' : decide (rofE e = 0) = true:=decide_eq_true q4
     unfold rofK at hk
     rw [if_pos q4] at hk
     obtain ⟨rb,rfl,hrb⟩:=hk
     have orb:=hrb.one
     obtain ⟨r2,hr2,hins⟩:=zR9 (fuel:=fuel) (d:=d + 3) (x:=e.rn) hA hrb (zfL hok) (by omega) (by omega)
     have or2:=hr2.one
     rw [hput q4] at hins
     unfold insR at hr2
     rw [if_pos (hput q4)] at hr2
     unfold stepT at hts
     rw [if_pos q4] at hts
     simp (maxSteps:=2000000) (disch:=first | omega | assumption | (simp only [DS,Nat.reduceAdd, *]; done) | (simp only [DZ]; omega)) only [RUN,RU,zA2,zA1,slot,lay,reduceIte,Nat.reduceEqDiff,Nat.reduceAdd,g2,g14,g15,g16,q3,hiad,hof,hins,w,w1]
     exact ⟨hlt,l.length - (i + 1),by omega,i + 1,r2,rfl,by omega,rfl,rfl,by rw [hts]; exact hr2⟩
    ·have q4' : decide (rofE e = 0) = false:=decide_eq_false q4
     unfold rofK at hk
     rw [if_neg q4] at hk
     subst hk
     unfold stepT at hts
     rw [if_neg q4] at hts
     unfold rnZ at hof
     simp (maxSteps:=2000000) (disch:=first | omega | assumption | (simp only [DS,Nat.reduceAdd, *]; done) | (simp only [DZ]; omega)) only [RUN,RU,zA2,zA1,slot,lay,reduceIte,Nat.reduceEqDiff,Nat.reduceAdd,g2,g14,g15,g16,q3,hiad,hof,q4',w,w1]
     exact ⟨hlt,l.length - (i + 1),by omega,i + 1,r,rfl,by omega,rfl,rfl,by rw [hts]; exact hA⟩
   ·obtain rfl : i = l.length:=by omega
    have q3 : decide ((l.length : Int) < l.length) = false:=decide_eq_false (by omega)
    rw [List.take_length] at hA
    simp (maxSteps:=2000000) (disch:=first | omega | assumption | (simp only [DS,Nat.reduceAdd, *]; done) | (simp only [DZ]; omega)) only [RUN,RU,zA2,zA1,zA0,zAB,frzL,reduceIte,Nat.reduceEqDiff,g2,g15,g16,hA.fz.frz]
    exact ⟨_,⟨r,rfl,hA⟩,rfl⟩
end Go.Proofs.YtklfocnoenjgdaaGreat
namespace Go.Ax
open Go
variable {α : Type} {M N : Mem} {st : Nat} {T : List AV → α → Prop} {v o : AV} {l : List α}
def SlR (M : Mem) (st : Nat) (T : List AV → α → Prop) (v : AV) (l : List α) : Prop :=
 (v = NIL ∧ l = []) ∨ ∃ (id : Nat) (rows : List (List AV)) (cap : Option Nat),v = .sl id 0 rows.length cap st ∧ M.rd id = some rows.flatten ∧ All2 T rows l ∧ ∀ r ∈ rows,r.length = st
theorem SlR.of (h : SlM M st T v l) : SlR M st T v l:=by
 rcases h with h | ⟨id,rows,cap,rfl,_,hg,hA,hr⟩
 ·exact .inl h
 ·exact .inr ⟨id,rows,cap,rfl,zBO hg,hA,hr⟩
theorem SlR.keep (h : SlR M st T v l) (k : ∀ j,N.rd j = M.rd j) : SlR N st T v l:=by
 rcases h with h | ⟨id,rows,cap,h1,h2,h3,h4⟩
 ·exact .inl h
 ·exact .inr ⟨id,rows,cap,h1,(k id).trans h2,h3,h4⟩
theorem SlR.icyk (h : SlR M st T v l) (wf : Wf M) (hT : FzT T) {k : Nat} (hk : 1 < k) : ∃ v' M',Go.Ax.icy k M v = some (v',M') ∧ Sl st T v' l ∧ Wf M' ∧ M'.size = M.size ∧ (∀ j,M'.rd j = M.rd j) ∧ ∀ j,rowOf v ≠ some j → M'.get j = M.get j:=by
 obtain ⟨k,rfl⟩ : ∃ j,k = j + 1:=⟨k - 1,by omega⟩
 rcases h with ⟨rfl,rfl⟩ | ⟨id,rows,cap,rfl,hg,hA,hr⟩
 ·exact ⟨NIL,M,rfl,.inl ⟨rfl,rfl⟩,wf,rfl,fun _=>rfl,fun _ _=>rfl⟩
 ·have hfl:=zAK hr
  have hcs : ∀ N,icyL (Go.Ax.icy k) N rows.flatten = some (rows.flatten,N):=zCS (by omega) fun x hx N=>hT.celI.flat hA x hx N k (by omega)
  have hble : Nat.ble (0 + rows.length * st) rows.flatten.length = true:=zBF (by omega)
  have hsl : slot rows.flatten 0 (rows.length * st) = rows.flatten:=zBN _ _ hfl.symm
  have hrd:=hg
  rw [zEA] at hrd
  cases ho : M.get id with
  | none=>rw [ho] at hrd; cases hrd
  | some x =>
   rw [ho] at hrd
   cases x with
   | row b ds =>
    have e : ds = rows.flatten:=by simpa [rd1] using hrd
    subst e
    exact ⟨_,M.upd id (.fro rows.flatten),by simp only [Go.Ax.icy,hg,hble,hcs,ho,zBA wf (Mem.get_lt ho),hsl],.inr ⟨rows,cap,rfl,hA,hr⟩,wf.upd _ _,rfl,NK.rd_fro wf ho,fun j hj=>zA3 wf _ _ _ (fun e=>hj (by rw [e]; rfl))⟩
   | fro ds=>exact ⟨_,M,by simp only [Go.Ax.icy,hg,hble,hcs,ho,hsl],.inr ⟨rows,cap,rfl,hA,hr⟩,wf,rfl,fun _=>rfl,fun _ _=>rfl⟩
   | _=>simp [rd1] at hrd
theorem SlR.hand {P : Program} {fs : Nat → Option AFunc} {fuel f n : Nat} {af : AFunc} {rest : List AV} {R : AV → Prop} {Q : AV → Mem → Prop} (h : fs f = some af) (hg : af.gc = 1) (hN : SlR M st T o l) (wf : Wf M) (hT : FzT T) (hr : ∀ M,icyL (Go.Ax.icy 12) M rest = some (rest,M)) (hc : ∀ o',Sl st T o' l → ∃ r,R r ∧ ∀ M,zAE P fs fuel (n + 1) (.fn f) (o' :: rest) M = some (r,M))
  (k : ∀ r M',R r → Wf M' → M'.size = M.size → SlR M' st T o l → (∀ j,rowOf o ≠ some j → M'.get j = M.get j) → Q r M') : W3 (zAE P fs fuel (n + 1) (.fn f) (o :: rest) M) Q:=by
 obtain ⟨o',M',i1,s1,w1,z1,r1,g1⟩:=hN.icyk wf hT (k:=12) (by omega)
 obtain ⟨r,hR,hcall⟩:=hc o' s1
 refine ⟨r,M',zCX (bs:=o' :: rest) h hg (hcall mem0) (M3:=mem0) ?_ ?_,k r M' hR w1 z1 (hN.keep r1) g1⟩
 ·simp only [icyL,s1.icy mem0 12 (by omega),hr]
 ·simp only [icyL,i1,hr]
end Go.Ax
namespace Go.Proofs.YtklfocnoenjgdaaGreat
open Go Go.Ax
variable {fuel : Nat} {M : Mem} {Q : AV → Mem → Prop} {d : Nat} {l : List Op} {a : AV} {v : Lb}
theorem zTL (l : List Op) (v : Lb) : zID (lowL l v) v (zD3 (elsR (textOf (lowL l v)))) = zEN l v:=by
 unfold zID zD3 zEN
 rw [List.filter_map,List.map_map]
 rfl
theorem zQJ {l : List Op} (h : zAP [] l = true) (v : Lb) : (zEN l v).length ≤ 192 * l.length:=by
 have hT:=zD8 (zDR v h)
 have h1:=zK8 hT.ok.1
 have h2:=zLD (lowL l v)
 have h3:=zE4 l v
 unfold zEN
 rw [List.length_map]
 exact Nat.le_trans (List.length_filter_le _ _) (by omega)
def zZ2 (l : List Op) (v : Lb) (r : AV) : Prop:=∃ r1,r = .tup [r1,I64 (zED l v)] ∧ Sl 5 zDS r1 (if zED l v = 0 then zEN l v else [])
theorem zZV (h : zED l v = 0) : zAP [] l = true ∧ v.may = true:=by
 unfold zED err at h
 cases h1 : zAP [] l <;> cases h2 : v.may <;> rw [h1,h2] at h <;> first | exact ⟨rfl,rfl⟩ | cases h
set_option maxHeartbeats 8000000 in
theorem zFR (hS : Sl 17 isOp a l) (hl : l.length ≤ 200) (hf : 3200000 < fuel) (hd : ∀ o ∈ l,o.rs.length ≤ 1000000000) : ∃ r,zZ2 l v r ∧ ∀ M,zAE Tryz.prog (fsT tbl) fuel (d + 18) (.fn 10) [a,lbA v] M = some (r,M):=by
 obtain ⟨ro,⟨r2,rfl,hr2⟩,hon⟩:=zHO (fuel:=fuel) (d:=d + 2) (v:=v) hS (by omega) (by omega) hd
 have or2:=hr2.one
 refine zEC tf10 rfl (fun M=>by simp only [icyL,fun M=>hS.icy M 12 (by omega),zAV (zCD v) (show 1 < 12 by omega)]) ?_
 refine zAI tf10 rfl (by simp only [icyL,fun M=>hS.icy M 12 (by omega),zAV (zCD v) (show 1 < 12 by omega)]) (by simp [a10]) fun b' ht hx=>?_
 have h0:=hx 0 _ rfl
 have h1:=hx 1 _ rfl
 clear hx
 simp only [a10,c10,zzm] at ht ⊢
 unfold zZ2
 by_cases q1 : zED l v = 0
 ·rw [if_pos q1] at hr2
  obtain ⟨q2,q3⟩:=zZV q1
  have q4:=zDR v q2
  have hlow:=zE4 l v
  obtain ⟨rt,⟨r3,rfl,hr3⟩,htx⟩:=zYR (fuel:=fuel) (d:=d + 2) hr2 (by omega) (by omega)
  rw [q4] at htx hr3
  simp only [if_true] at hr3
  have hT:=zD8 q4
  have htl:=zLD (lowL l v)
  obtain ⟨r4,hr4,hal⟩:=za8 (fuel:=fuel) (d:=d + 9) hr3 hT.ok.1 (by omega) (by omega)
  have hel:=zK8 hT.ok.1
  rw [q1]
  rw [q1] at hon
  simp (maxSteps:=2000000) (disch:=first | omega | assumption | (simp only [DS,Nat.reduceAdd, *]; done) | (simp only [DZ]; omega)) only [RUN,RU,zA2,zA1,slot,lay,reduceIte,Nat.reduceEqDiff,Nat.reduceAdd,h0,h1,hon,htx,hal,zB3,hr2.fz.cells]
  refine zcJ (d:=d) (low:=lowL l v) (v:=v) hr4 (by rw [zEO]; omega) hr2 q4 (by omega) (by rw [zEO]; omega) ?_ ?_ ?_ ?_ fun o N wN leN kpN smN nwN wmN=>?_
  ·simp (maxSteps:=2000000) (disch:=first | omega | assumption | (simp only [DS,Nat.reduceAdd, *]; done) | (simp only [DZ]; omega)) only [RUN]
  ·exact Nat.zero_le _
  ·simp (maxSteps:=2000000) (disch:=first | omega | assumption | (simp only [DS,Nat.reduceAdd, *]; done) | (simp only [DZ]; omega)) only [RUN]
  ·simp (maxSteps:=2000000) (disch:=first | omega | assumption | (simp only [DS,Nat.reduceAdd, *]; done) | (simp only [DZ]; omega)) only [RUN]
  ·rw [zTL] at smN
   obtain ⟨ro,hz,hs⟩:=smN.frz zKG.cel (k:=12) (by omega)
   have oo:=smN.one
   simp (maxSteps:=2000000) (disch:=first | omega | assumption | (simp only [DS,Nat.reduceAdd, *]; done) | (simp only [DZ]; omega)) only [RUN,RU,zA2,zA1,zA0,zAB,frzL,reduceIte,Nat.reduceEqDiff,hz]
   exact ⟨_,⟨ro,rfl,by simpa using hs⟩,rfl⟩
 ·have q1':=decide_eq_false q1
  simp (maxSteps:=2000000) (disch:=first | omega | assumption | (simp only [DS,Nat.reduceAdd, *]; done) | (simp only [DZ]; omega)) only [RUN,RU,zA2,zA1,zA0,zAB,frzL,slot,lay,reduceIte,Nat.reduceEqDiff,Nat.reduceAdd,h0,h1,hon,q1',hr2.fz.cells]
  exact ⟨_,⟨NIL,rfl,by rw [if_neg q1]; exact .inl ⟨rfl,rfl⟩⟩,rfl⟩
end Go.Proofs.YtklfocnoenjgdaaGreat
