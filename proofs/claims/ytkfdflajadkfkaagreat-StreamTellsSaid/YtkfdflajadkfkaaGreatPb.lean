/-
  Texts joined: SaS SaT SaU SbI SaV TwC RgE SaZ SwP RgF SaW SaY SwY RgG RgH RhA RhB VuB.
-/
import Derived.Test.YtkfdflajadkfkaaGreatEf
import Derived.Test.YtkfdflajadkfkaaGreatTb
import Derived.Test.YtkfdflajadkfkaaGreatPa
set_option linter.unusedSimpArgs false
set_option linter.unusedVariables false
set_option maxRecDepth 100000
namespace Go.Proofs.YtkfdflajadkfkaaGreat
open Go Go.Ax
variable {fuel : Nat} {M : Mem} {Q : AV → Mem → Prop} {d : Nat} {x : Eid} {l : List Op} {o : Op} {ra ops : AV} {B id m : Nat}
theorem zSS {bh : Nat} (hH : IsHist M B id m ops l) (wf : Wf M) (hb : M.get bh = some (.row false [.ptr id 0])) (k : ∀ N,Kept M N → Q (BL (decide (x ∈ zAT l))) N) :
  W3 (zAC Tryz.prog (fsT tbl) fuel (d + 1) (.fn 96) [idA x,.ptr bh 0] M) Q:=by
 have lb:=Mem.get_lt hb
 have hg:=hH.hg
 have li:=Mem.get_lt hg
 obtain ⟨obj,mg,hset⟩:=hH.mg
 have lm:=Mem.get_lt mg
 have mg2 : (M.add (.row false (idR x))).get m = some obj:=by
  rw [zAF wf _ _ lm]; exact mg
 have hlk:=zT2 zU6 (z:=.bool false) mg2 hset x
 rw [zSZ] at hlk
 have one_mp : oneA (.mp m) = true:=rfl
 refine zAY tf96 rfl (by simp [a96]) fun b' ht hx=>?_
 have h0:=hx 0 _ rfl
 have h1:=hx 1 _ rfl
 clear hx
 simp only [a96,c96,zzm] at ht ⊢
 simp (maxSteps:=2000000) (disch:=first | omega | assumption | (simp only [DS,Nat.reduceAdd, *]; done) | (simp only [DZ]; omega)) only [RUN,RU,zA2,zA1,zA0,zA5,slot,reduceIte,Nat.reduceEqDiff,Nat.reduceBEq,Nat.reduceAdd,h0,h1,hb,hg,x_lk,hlk]
 exact k _ ((Kept.refl wf).add _)
def insE (l : List Op) (o : Op) : Int :=
 if o.af ≠ Eid.z ∧ zE0 l o o.af = false then 6
 else if rofE o ≠ 0 ∨ (o.sp.ids.any fun x=>decide (x ∈ zAT l)) = true then 2
 else if 8192 < ((zAT l).length : Int) + o.sp.n then 4 else 0
theorem zP7 {o : Op} {r : AV} (h : rofK o r) : ∃ rn ra,r = .tup [.agg (rnR rn ra),I64 (rofE o)] ∧ oneA ra = true ∧ cellsA ra = [ra]:=by
 unfold rofK at h
 split at h
 ·rename_i h0
  obtain ⟨ra,rfl,hr⟩:=h
  exact ⟨_,ra,by rw [h0],hr.one,hr.cells⟩
 ·exact ⟨⟨⟨Eid.z,0⟩,Eid.z,[]⟩,NIL,h,rfl,rfl⟩
set_option maxHeartbeats 8000000 in
theorem zR2 (hH : IsHist M B id m ops l) (htl : (zAT l).length ≤ 1000000) (hR : Sl 1 zAS ra o.rs) (ho : o.ok) (hm : o.may = true) (hf : 300 < fuel) (wf : Wf M) (hw : M.wm ≤ M.size) (k : ∀ N,Kept M N → Q (I64 (insE l o)) N) :
  W3 (zAC Tryz.prog (fsT tbl) fuel (d + 9) (.fn 77) [.ptr id 0,.agg (opR o ra)] M) Q:=by
 have ora:=hR.one
 have li:=Mem.get_lt hH.hg
 have hb:=Spn.may_le (zCP hm)
 obtain ⟨r,hr,hn⟩:=zGD (fuel:=fuel) (d:=d + 2) ho.2.2.2.1 (zCP hm) (by omega)
 obtain ⟨rr,hk,hof⟩:=zPB (fuel:=fuel) (d:=d) hR ho (by omega)
 obtain ⟨rn,r2,rfl,o2,c2⟩:=zP7 hk
 have il:=zI7 o.sp
 have kA:=((Kept.refl wf).add (.row false [.ptr id 0])).add (.row false (opR o ra))
 have wA:=kA.wf
 have gA : ((M.add (.row false [.ptr id 0])).add (.row false (opR o ra))).get M.size = some (.row false [.ptr id 0]):=by simp (maxSteps:=2000000) (disch:=first | omega | assumption | (simp only [DS,Nat.reduceAdd, *]; done) | (simp only [DZ]; omega)) only [RUN]
 have gB : ((M.add (.row false [.ptr id 0])).add (.row false (opR o ra))).get (M.size + 1) = some (.row false (opR o ra)):=by simp (maxSteps:=2000000) (disch:=first | omega | assumption | (simp only [DS,Nat.reduceAdd, *]; done) | (simp only [DZ]; omega)) only [RUN]
 have sA : ((M.add (.row false [.ptr id 0])).add (.row false (opR o ra))).size = M.size + 2:=rfl
 unfold insE at k
 refine zAY tf77 rfl (by simp [a77]) fun b' ht hx=>?_
 have h0:=hx 0 _ rfl
 have h1:=hx 1 _ rfl
 clear hx
 simp only [a77,c77,zz0,zz2,zzm] at ht ⊢
 cases qz : decide (o.af = Eid.z) with
 | false =>
  simp (maxSteps:=2000000) (disch:=first | omega | assumption | (simp only [DS,Nat.reduceAdd, *]; done) | (simp only [DZ]; omega)) only [RUN,RU,zA2,zA1,slot,zAJ,reduceIte,Nat.reduceEqDiff,h0,h1,↓pIdN,zCL,ETA,qz]
  generalize (M.add (.row false [.ptr id 0])).add (.row false (opR o ra)) = X at *
  refine zT8 (d:=d + 6) (B:=B) (m:=m) (ops:=ops) (hH.keep fun j hj=>kA.get j hj) hR wA (by rw [kA.wm]; omega) fun N hN=>?_
  cases qs : zE0 l o o.af with
  | false =>
   rw [if_pos ⟨of_decide_eq_false qz,qs⟩] at k
   simp (maxSteps:=2000000) (disch:=first | omega | assumption | (simp only [DS,Nat.reduceAdd, *]; done) | (simp only [DZ]; omega)) only [RUN,RU,zA2,zA1,zA0,zA5,reduceIte,Nat.reduceEqDiff]
   exact k _ (kA.trans hN)
  | true =>
   rw [if_neg (by simp [qs])] at k
   have wN:=hN.wf
   have g0:=(hN.get M.size (by omega)).trans gA
   have g1:=(hN.get (M.size + 1) (by omega)).trans gB
   have kN:=kA.trans hN
   have l0:=Mem.get_lt g0
   have l1:=Mem.get_lt g1
   simp (maxSteps:=2000000) (disch:=first | omega | assumption | (simp only [DS,Nat.reduceAdd, *]; done) | (simp only [DZ]; omega)) only [RUN,RU,zA2,zA1,slot,lay,reduceIte,Nat.reduceEqDiff,Nat.reduceAdd,g1,hof]
   by_cases q1 : rofE o = 0
   ·have k2:=(kN.add (.row false (rnR ⟨⟨Eid.z,0⟩,Eid.z,[]⟩ NIL))).upd hw kN.le (.row false (rnR rn r2))
    have z0 : ((N.add (.row false (rnR ⟨⟨Eid.z,0⟩,Eid.z,[]⟩ NIL))).upd N.size (.row false (rnR rn r2))).get M.size = some (.row false [.ptr id 0]):=by
     rw [zAA (wN.add _) _ _ _ (by omega),zAF wN _ _ l0]; exact g0
    have z1 : ((N.add (.row false (rnR ⟨⟨Eid.z,0⟩,Eid.z,[]⟩ NIL))).upd N.size (.row false (rnR rn r2))).get (M.size + 1) = some (.row false (opR o ra)):=by
     rw [zAA (wN.add _) _ _ _ (by omega),zAF wN _ _ l1]; exact g1
    have q1' : decide (rofE o = 0) = true:=decide_eq_true q1
    simp (maxSteps:=2000000) (disch:=first | omega | assumption | (simp only [DS,Nat.reduceAdd, *]; done) | (simp only [DZ]; omega)) only [RUN,RU,zA2,zA1,slot,reduceIte,Nat.reduceEqDiff,g1,q1',hn]
    generalize ((N.add (.row false (rnR ⟨⟨Eid.z,0⟩,Eid.z,[]⟩ NIL))).upd N.size (.row false (rnR rn r2))) = X2 at *
    have w2:=k2.wf
    have s2:=k2.le
    have hH2 : IsHist X2 B id m ops l:=hH.keep fun j hj=>k2.get j hj
    have m0:=Mem.get_lt z0
    refine zNZ (st:=4) (ag:=true) (n:=d + 6) (first:=[]) (cap:=[.ptr M.size 0]) tf95 tf108 (by simp) zG9 hr (by omega) (by omega) (p:=fun x=>decide (x ∈ zAT l)) w2 (fun n hn=>by simp (maxSteps:=2000000) (disch:=first | omega | assumption | (simp only [DS,Nat.reduceAdd, *]; done) | (simp only [DZ]; omega)) only [RUN,RU]) (fun r x hr _ N Q' hk hQ=>?_) fun N3 h3=>?_
    ·obtain ⟨rfl,_⟩:=hr
     refine zSS (d:=d + 5) (B:=B) (m:=m) (ops:=ops) (hH2.keep fun j hj=>hk.get j hj) hk.wf ((hk.get _ m0).trans z0) fun N' hk'=>hQ N' (hk.trans hk')
    ·have k3:=k2.trans h3
     have y0:=(h3.get _ m0).trans z0
     have y1:=(h3.get _ (Mem.get_lt z1)).trans z1
     have w3:=h3.wf
     have hH3 : IsHist N3 B id m ops l:=hH.keep fun j hj=>k3.get j hj
     have hg3:=hH3.hg
     have li3:=Mem.get_lt hg3
     have n0:=Mem.get_lt y0
     have n1:=Mem.get_lt y1
     obtain ⟨obj,mg,hset⟩:=hH3.mg
     have lm:=Mem.get_lt mg
     have hml:=zT4 mg hset
     cases q2 : o.sp.ids.any fun x=>decide (x ∈ zAT l) with
     | true =>
      rw [if_pos (.inr q2)] at k
      simp (maxSteps:=2000000) (disch:=first | omega | assumption | (simp only [DS,Nat.reduceAdd, *]; done) | (simp only [DZ]; omega)) only [RUN,RU,zA2,zA1,zA0,zA5,reduceIte,Nat.reduceEqDiff]
      exact k _ k3
     | false =>
      rw [if_neg (by simp [q1,q2])] at k
      have w1 : IntKind.i64.wrap (((zAT l).length : Int) + o.sp.n) = ((zAT l).length : Int) + o.sp.n:=wrap_i64 (by omega) (by omega)
      by_cases q3 : 8192 < ((zAT l).length : Int) + o.sp.n
      ·rw [if_pos q3] at k
       have q3':=decide_eq_true q3
       simp (maxSteps:=2000000) (disch:=first | omega | assumption | (simp only [DS,Nat.reduceAdd, *]; done) | (simp only [DZ]; omega)) only [RUN,RU,zA2,zA1,zA0,zA5,reduceIte,Nat.reduceEqDiff,Nat.reduceBEq,Nat.reduceAdd,y0,y1,hg3,x_ml,hml,w1,q3']
       exact k _ k3
      ·rw [if_neg q3] at k
       have q3':=decide_eq_false q3
       simp (maxSteps:=2000000) (disch:=first | omega | assumption | (simp only [DS,Nat.reduceAdd, *]; done) | (simp only [DZ]; omega)) only [RUN,RU,zA2,zA1,zA0,zA5,reduceIte,Nat.reduceEqDiff,Nat.reduceBEq,Nat.reduceAdd,y0,y1,hg3,x_ml,hml,w1,q3']
       exact k _ k3
   ·have q1' : decide (rofE o = 0) = false:=decide_eq_false q1
    rw [if_pos (.inl q1)] at k
    simp (maxSteps:=2000000) (disch:=first | omega | assumption | (simp only [DS,Nat.reduceAdd, *]; done) | (simp only [DZ]; omega)) only [RUN,RU,zA2,zA1,zA0,zA5,reduceIte,Nat.reduceEqDiff,q1']
    exact k _ ((kN.add _).upd hw kN.le _)
 | true =>
  rw [if_neg (fun h=>h.1 (of_decide_eq_true qz))] at k
  simp (maxSteps:=2000000) (disch:=first | omega | assumption | (simp only [DS,Nat.reduceAdd, *]; done) | (simp only [DZ]; omega)) only [RUN,RU,zA2,zA1,slot,zAJ,reduceIte,Nat.reduceEqDiff,h0,h1,↓pIdN,zCL,ETA,qz]
  generalize (M.add (.row false [.ptr id 0])).add (.row false (opR o ra)) = N at *
  have wN:=wA
  have g0:=gA
  have g1:=gB
  have kN:=kA
  have qs:=qz
  have l0:=Mem.get_lt g0
  have l1:=Mem.get_lt g1
  simp (maxSteps:=2000000) (disch:=first | omega | assumption | (simp only [DS,Nat.reduceAdd, *]; done) | (simp only [DZ]; omega)) only [RUN,RU,zA2,zA1,lay,reduceIte,Nat.reduceEqDiff,Nat.reduceAdd,hof]
  by_cases q1 : rofE o = 0
  ·have k2:=(kN.add (.row false (rnR ⟨⟨Eid.z,0⟩,Eid.z,[]⟩ NIL))).upd hw kN.le (.row false (rnR rn r2))
   have z0 : ((N.add (.row false (rnR ⟨⟨Eid.z,0⟩,Eid.z,[]⟩ NIL))).upd N.size (.row false (rnR rn r2))).get M.size = some (.row false [.ptr id 0]):=by
    rw [zAA (wN.add _) _ _ _ (by omega),zAF wN _ _ l0]; exact g0
   have z1 : ((N.add (.row false (rnR ⟨⟨Eid.z,0⟩,Eid.z,[]⟩ NIL))).upd N.size (.row false (rnR rn r2))).get (M.size + 1) = some (.row false (opR o ra)):=by
    rw [zAA (wN.add _) _ _ _ (by omega),zAF wN _ _ l1]; exact g1
   have q1' : decide (rofE o = 0) = true:=decide_eq_true q1
   simp (maxSteps:=2000000) (disch:=first | omega | assumption | (simp only [DS,Nat.reduceAdd, *]; done) | (simp only [DZ]; omega)) only [RUN,RU,zA2,zA1,slot,reduceIte,Nat.reduceEqDiff,g1,q1',hn]
   generalize ((N.add (.row false (rnR ⟨⟨Eid.z,0⟩,Eid.z,[]⟩ NIL))).upd N.size (.row false (rnR rn r2))) = X2 at *
   have w2:=k2.wf
   have s2:=k2.le
   have hH2 : IsHist X2 B id m ops l:=hH.keep fun j hj=>k2.get j hj
   have m0:=Mem.get_lt z0
   refine zNZ (st:=4) (ag:=true) (n:=d + 6) (first:=[]) (cap:=[.ptr M.size 0]) tf95 tf108 (by simp) zG9 hr (by omega) (by omega) (p:=fun x=>decide (x ∈ zAT l)) w2 (fun n hn=>by simp (maxSteps:=2000000) (disch:=first | omega | assumption | (simp only [DS,Nat.reduceAdd, *]; done) | (simp only [DZ]; omega)) only [RUN,RU]) (fun r x hr _ N Q' hk hQ=>?_) fun N3 h3=>?_
   ·obtain ⟨rfl,_⟩:=hr
    refine zSS (d:=d + 5) (B:=B) (m:=m) (ops:=ops) (hH2.keep fun j hj=>hk.get j hj) hk.wf ((hk.get _ m0).trans z0) fun N' hk'=>hQ N' (hk.trans hk')
   ·have k3:=k2.trans h3
    have y0:=(h3.get _ m0).trans z0
    have y1:=(h3.get _ (Mem.get_lt z1)).trans z1
    have w3:=h3.wf
    have hH3 : IsHist N3 B id m ops l:=hH.keep fun j hj=>k3.get j hj
    have hg3:=hH3.hg
    have li3:=Mem.get_lt hg3
    have n0:=Mem.get_lt y0
    have n1:=Mem.get_lt y1
    obtain ⟨obj,mg,hset⟩:=hH3.mg
    have lm:=Mem.get_lt mg
    have hml:=zT4 mg hset
    cases q2 : o.sp.ids.any fun x=>decide (x ∈ zAT l) with
    | true =>
     rw [if_pos (.inr q2)] at k
     simp (maxSteps:=2000000) (disch:=first | omega | assumption | (simp only [DS,Nat.reduceAdd, *]; done) | (simp only [DZ]; omega)) only [RUN,RU,zA2,zA1,zA0,zA5,reduceIte,Nat.reduceEqDiff]
     exact k _ k3
    | false =>
     rw [if_neg (by simp [q1,q2])] at k
     have w1 : IntKind.i64.wrap (((zAT l).length : Int) + o.sp.n) = ((zAT l).length : Int) + o.sp.n:=wrap_i64 (by omega) (by omega)
     by_cases q3 : 8192 < ((zAT l).length : Int) + o.sp.n
     ·rw [if_pos q3] at k
      have q3':=decide_eq_true q3
      simp (maxSteps:=2000000) (disch:=first | omega | assumption | (simp only [DS,Nat.reduceAdd, *]; done) | (simp only [DZ]; omega)) only [RUN,RU,zA2,zA1,zA0,zA5,reduceIte,Nat.reduceEqDiff,Nat.reduceBEq,Nat.reduceAdd,y0,y1,hg3,x_ml,hml,w1,q3']
      exact k _ k3
     ·rw [if_neg q3] at k
      have q3':=decide_eq_false q3
      simp (maxSteps:=2000000) (disch:=first | omega | assumption | (simp only [DS,Nat.reduceAdd, *]; done) | (simp only [DZ]; omega)) only [RUN,RU,zA2,zA1,zA0,zA5,reduceIte,Nat.reduceEqDiff,Nat.reduceBEq,Nat.reduceAdd,y0,y1,hg3,x_ml,hml,w1,q3']
      exact k _ k3
  ·have q1' : decide (rofE o = 0) = false:=decide_eq_false q1
   rw [if_pos (.inl q1)] at k
   simp (maxSteps:=2000000) (disch:=first | omega | assumption | (simp only [DS,Nat.reduceAdd, *]; done) | (simp only [DZ]; omega)) only [RUN,RU,zA2,zA1,zA0,zA5,reduceIte,Nat.reduceEqDiff,q1']
   exact k _ ((kN.add _).upd hw kN.le _)
end Go.Proofs.YtkfdflajadkfkaaGreat
namespace Go.Proofs.YtkfdflajadkfkaaGreat
open Go Go.Ax
variable {fuel : Nat} {M : Mem} {Q : AV → Mem → Prop} {d : Nat} {x : Eid} {l : List Op} {o : Op} {ra ops : AV} {B id m : Nat}
def zES (l : List Op) (o : Op) : Int:=if o.kd = 1 then insE l o else if o.kd = 2 then remE l o else raiE l o
def fitE (l : List Op) (o : Op) : Int:=if zES l o = 0 then (if 2048 ≤ l.length then 4 else 0) else zES l o
theorem zT3 {o : Op} (h : o.may = true) (ho : o.ok) : o.kd = 1 ∨ o.kd = 2 ∨ o.kd = 3:=by
 unfold Op.may at h
 simp only [Bool.and_eq_true,Bool.not_eq_true',decide_eq_false_iff_not] at h
 have:=ho.1
 omega
set_option maxHeartbeats 8000000 in
theorem zW7 (hH : IsHist M B id m ops l) (htl : (zAT l).length ≤ 1000000) (hl : l.length ≤ 40000) (hR : Sl 1 zAS ra o.rs) (ho : o.ok) (hm : o.may = true) (hf : l.length + 300 < fuel) (wf : Wf M) (hw : M.wm ≤ M.size) (k : ∀ N,Kept M N → Q (I64 (fitE l o)) N) :
  W3 (zAC Tryz.prog (fsT tbl) fuel (d + 12) (.fn 50) [.ptr id 0,.agg (opR o ra)] M) Q:=by
 have ora:=hR.one
 have li:=Mem.get_lt hH.hg
 have wA:=wf.add (.row false (opR o ra))
 have gA : (M.add (.row false (opR o ra))).get M.size = some (.row false (opR o ra)):=zAG wf _ _ (Nat.le_refl _) (Nat.lt_succ_self _)
 have hHA : IsHist (M.add (.row false (opR o ra))).lo B id m ops l:=hH.keep fun j hj=>zAF wf _ _ hj
 have onf : oneA (.sc .nilFunc) = true:=rfl
 have tail : ∀ N2,Kept (M.add (.row false (opR o ra))).lo N2 → True:=fun _ _=>trivial
 clear tail
 have done : ∀ N2,Kept (M.add (.row false (opR o ra))).lo N2 → Kept M ((M.add (.row false (opR o ra))).bk N2):=fun N2 h=>((Kept.refl wf).add _).trans h.bk
 have kq : ∀ N2,Kept (M.add (.row false (opR o ra))).lo N2 → IsHist ((M.add (.row false (opR o ra))).bk N2) B id m ops l:=fun N2 h=>hH.keep fun j hj=>(done N2 h).get j hj
 unfold fitE at k
 refine zAY tf50 rfl (by simp [a50]) fun b' ht hx=>?_
 have h0:=hx 0 _ rfl
 have h1:=hx 1 _ rfl
 clear hx
 simp only [a50,c50,zzm,zzg] at ht ⊢
 have hw' : (M.add (.row false (opR o ra))).lo.wm ≤ (M.add (.row false (opR o ra))).lo.size:=Nat.le_refl _
 rcases zT3 hm ho with hk | hk | hk
 ·have n1 : zCT (U8 o.kd) = some 1:=by rw [hk]; rfl
  have ep : zES l o = insE l o:=by unfold zES; rw [if_pos hk]
  rw [ep] at k
  simp (maxSteps:=2000000) (disch:=first | omega | assumption | (simp only [DS,Nat.reduceAdd, *]; done) | (simp only [DZ]; omega)) only [RUN,RU,zA2,zA1,slot,lay,zAJ,reduceIte,Nat.reduceEqDiff,Nat.reduceBEq,Nat.reduceAdd,Nat.reduceMul,h0,h1,n1,zMZ,zF9]
  refine zR2 (d:=d + 2) hHA htl hR ho hm (by omega) wA hw' fun N2 hN2=>?_
  have hd : N2.dirty = false:=hN2.di
  have hq:=kq N2 hN2
  have kN:=done N2 hN2
  have hg : N2.get id = some (.row false [ops,.mp m]):=hq.hg
  have lg : id < N2.size:=Mem.get_lt hg
  have ll:=hq.sm.len
  by_cases q1 : insE l o = 0
  ·rw [if_pos q1] at k
   have q1' : decide (insE l o = 0) = true:=decide_eq_true q1
   by_cases q2 : 2048 ≤ l.length
   ·rw [if_pos q2] at k
    have q2' : decide ((2048 : Int) ≤ l.length) = true:=decide_eq_true (by omega)
    simp (maxSteps:=2000000) (disch:=first | omega | assumption | (simp only [DS,Nat.reduceAdd, *]; done) | (simp only [DZ]; omega)) only [RUN,RU,zA2,zA1,zA0,zA5,reduceIte,Nat.reduceEqDiff,Nat.reduceAdd,h0,hd,q1',hg,ll,q2']
    exact k _ kN
   ·rw [if_neg q2] at k
    have q2' : decide ((2048 : Int) ≤ l.length) = false:=decide_eq_false (by omega)
    simp (maxSteps:=2000000) (disch:=first | omega | assumption | (simp only [DS,Nat.reduceAdd, *]; done) | (simp only [DZ]; omega)) only [RUN,RU,zA2,zA1,zA0,zA5,reduceIte,Nat.reduceEqDiff,Nat.reduceAdd,h0,hd,hg,ll,q2',q1]
    exact k _ kN
  ·rw [if_neg q1] at k
   have q1' : decide (insE l o = 0) = false:=decide_eq_false q1
   simp (maxSteps:=2000000) (disch:=first | omega | assumption | (simp only [DS,Nat.reduceAdd, *]; done) | (simp only [DZ]; omega)) only [RUN,RU,zA2,zA1,zA0,zA5,reduceIte,Nat.reduceEqDiff,Nat.reduceAdd,hd,q1']
   exact k _ kN
 ·have n1 : zCT (U8 o.kd) = some 2:=by rw [hk]; rfl
  have ep : zES l o = remE l o:=by unfold zES; rw [if_neg (by omega),if_pos hk]
  rw [ep] at k
  simp (maxSteps:=2000000) (disch:=first | omega | assumption | (simp only [DS,Nat.reduceAdd, *]; done) | (simp only [DZ]; omega)) only [RUN,RU,zA2,zA1,slot,lay,zAJ,reduceIte,Nat.reduceEqDiff,Nat.reduceBEq,Nat.reduceAdd,Nat.reduceMul,h0,h1,n1,zMZ,zF9]
  refine zS0 (d:=d + 3) hHA hR ho hm (by omega) wA hw' fun N2 hN2=>?_
  have hd : N2.dirty = false:=hN2.di
  have hq:=kq N2 hN2
  have kN:=done N2 hN2
  have hg : N2.get id = some (.row false [ops,.mp m]):=hq.hg
  have lg : id < N2.size:=Mem.get_lt hg
  have ll:=hq.sm.len
  by_cases q1 : remE l o = 0
  ·rw [if_pos q1] at k
   have q1' : decide (remE l o = 0) = true:=decide_eq_true q1
   by_cases q2 : 2048 ≤ l.length
   ·rw [if_pos q2] at k
    have q2' : decide ((2048 : Int) ≤ l.length) = true:=decide_eq_true (by omega)
    simp (maxSteps:=2000000) (disch:=first | omega | assumption | (simp only [DS,Nat.reduceAdd, *]; done) | (simp only [DZ]; omega)) only [RUN,RU,zA2,zA1,zA0,zA5,reduceIte,Nat.reduceEqDiff,Nat.reduceAdd,h0,hd,q1',hg,ll,q2']
    exact k _ kN
   ·rw [if_neg q2] at k
    have q2' : decide ((2048 : Int) ≤ l.length) = false:=decide_eq_false (by omega)
    simp (maxSteps:=2000000) (disch:=first | omega | assumption | (simp only [DS,Nat.reduceAdd, *]; done) | (simp only [DZ]; omega)) only [RUN,RU,zA2,zA1,zA0,zA5,reduceIte,Nat.reduceEqDiff,Nat.reduceAdd,h0,hd,hg,ll,q2',q1]
    exact k _ kN
  ·rw [if_neg q1] at k
   have q1' : decide (remE l o = 0) = false:=decide_eq_false q1
   simp (maxSteps:=2000000) (disch:=first | omega | assumption | (simp only [DS,Nat.reduceAdd, *]; done) | (simp only [DZ]; omega)) only [RUN,RU,zA2,zA1,zA0,zA5,reduceIte,Nat.reduceEqDiff,Nat.reduceAdd,hd,q1']
   exact k _ kN
 ·have n1 : zCT (U8 o.kd) = some 3:=by rw [hk]; rfl
  have ep : zES l o = raiE l o:=by unfold zES; rw [if_neg (by omega),if_neg (by omega)]
  rw [ep] at k
  simp (maxSteps:=2000000) (disch:=first | omega | assumption | (simp only [DS,Nat.reduceAdd, *]; done) | (simp only [DZ]; omega)) only [RUN,RU,zA2,zA1,slot,lay,zAJ,reduceIte,Nat.reduceEqDiff,Nat.reduceBEq,Nat.reduceAdd,Nat.reduceMul,h0,h1,n1,zMZ,zF9]
  refine zV2 (d:=d) hHA hl hR ho hm (by omega) wA hw' fun N2 hN2=>?_
  have hd : N2.dirty = false:=hN2.di
  have hq:=kq N2 hN2
  have kN:=done N2 hN2
  have hg : N2.get id = some (.row false [ops,.mp m]):=hq.hg
  have lg : id < N2.size:=Mem.get_lt hg
  have ll:=hq.sm.len
  by_cases q1 : raiE l o = 0
  ·rw [if_pos q1] at k
   have q1' : decide (raiE l o = 0) = true:=decide_eq_true q1
   by_cases q2 : 2048 ≤ l.length
   ·rw [if_pos q2] at k
    have q2' : decide ((2048 : Int) ≤ l.length) = true:=decide_eq_true (by omega)
    simp (maxSteps:=2000000) (disch:=first | omega | assumption | (simp only [DS,Nat.reduceAdd, *]; done) | (simp only [DZ]; omega)) only [RUN,RU,zA2,zA1,zA0,zA5,reduceIte,Nat.reduceEqDiff,Nat.reduceAdd,h0,hd,q1',hg,ll,q2']
    exact k _ kN
   ·rw [if_neg q2] at k
    have q2' : decide ((2048 : Int) ≤ l.length) = false:=decide_eq_false (by omega)
    simp (maxSteps:=2000000) (disch:=first | omega | assumption | (simp only [DS,Nat.reduceAdd, *]; done) | (simp only [DZ]; omega)) only [RUN,RU,zA2,zA1,zA0,zA5,reduceIte,Nat.reduceEqDiff,Nat.reduceAdd,h0,hd,hg,ll,q2',q1]
    exact k _ kN
  ·rw [if_neg q1] at k
   have q1' : decide (raiE l o = 0) = false:=decide_eq_false q1
   simp (maxSteps:=2000000) (disch:=first | omega | assumption | (simp only [DS,Nat.reduceAdd, *]; done) | (simp only [DZ]; omega)) only [RUN,RU,zA2,zA1,zA0,zA5,reduceIte,Nat.reduceEqDiff,Nat.reduceAdd,hd,q1']
   exact k _ kN
end Go.Proofs.YtkfdflajadkfkaaGreat
namespace Go.Proofs.YtkfdflajadkfkaaGreat
open Go Go.Ax
variable {fuel : Nat} {M : Mem} {Q : AV → Mem → Prop} {d : Nat} {x : Eid} {l : List Op} {o : Op} {ra ops a : AV} {B id m : Nat}
def zAW : List Op → List Op → Bool
 | _,[]=>true
 | pre,o :: l=>o.may && decide (fitE pre o = 0) && zAW (pre ++ [o]) l
theorem zNS {pre : List Op} {o : Op} (h : fitE pre o = 0) (hk : o.kd = 1) : ∀ x ∈ o.sp.ids,x ∉ zAT pre:=by
 have h1 : zES pre o = 0:=by
  unfold fitE at h
  split at h
  ·assumption
  ·exact h
 unfold zES at h1
 rw [if_pos hk] at h1
 unfold insE at h1
 intro x hx hin
 split at h1
 ·cases h1
 ·split at h1
  ·cases h1
  ·rename_i h2
   exact h2 (.inr (List.any_eq_true.2 ⟨x,hx,decide_eq_true hin⟩))
theorem zMW (l : List Op) (o : Op) : zAT (l ++ [o]) = zAT l ++ (if o.kd = 1 then o.sp.ids else []):=by
 unfold zAT
 rw [List.flatMap_append]
 simp
structure HS (N : Mem) (B id m : Nat) (ops : AV) (l : List Op) (S : List Eid) : Prop where
 hg : N.get id = some (.row false [ops,.mp m])
 sm : SlM N 17 isOp ops l
 mg : ∃ obj,N.get m = some obj ∧ zHS idA (BL true) obj S
 ib : B ≤ id
 mb : B ≤ m
 ob : ∀ j,rowOf ops = some j → B ≤ j
 ne : id ≠ m
 n1 : rowOf ops ≠ some id
 n2 : rowOf ops ≠ some m
theorem HS.keep {N : Mem} {S : List Eid} (h : HS M B id m ops l S) (k : ∀ j,j < M.size → N.get j = M.get j) : HS N B id m ops l S:=by
 obtain ⟨obj,h1,h2⟩:=h.mg
 exact ⟨(k _ (Mem.get_lt h.hg)).trans h.hg,h.sm.keep fun j hj=>k j (h.sm.lt j hj),⟨obj,(k _ (Mem.get_lt h1)).trans h1,h2⟩,h.ib,h.mb,h.ob,h.ne,h.n1,h.n2⟩
theorem HS.of (h : IsHist M B id m ops l) : HS M B id m ops l (zAT l):=⟨h.hg,h.sm,h.mg,h.ib,h.mb,h.ob,h.ne,h.n1,h.n2⟩
theorem HS.to {S : List Eid} (h : HS M B id m ops l S) (e : S = zAT l) : IsHist M B id m ops l:=by
 subst e; exact ⟨h.hg,h.sm,h.mg,h.ib,h.mb,h.ob,h.ne,h.n1,h.n2⟩
set_option maxHeartbeats 8000000 in
theorem of_0 (hS : Sl 17 isOp a l) (hl : l.length ≤ 10000) (hf : l.length + 400 < fuel) (wf : Wf M) (hw : M.wm ≤ M.size)
  (kf : ∀ N,Wf N → M.size ≤ N.size → (∀ j,j < M.size → N.get j = M.get j) → zAW [] l = false → Q (.tup [.sc (.pointer none),BL false]) N)
  (kt : ∀ N ops,Wf N → M.size + 2 ≤ N.size → N.wm = M.wm → (∀ j,j < M.size → N.get j = M.get j) → zAW [] l = true → IsHist N M.size (M.size + 1) M.size ops l → (zAT l).length ≤ 64 * l.length → Q (.tup [.ptr (M.size + 1) 0,BL true]) N) :
  W3 (zAC Tryz.prog (fsT tbl) fuel (d + 13) (.fn 33) [a] M) Q:=by
 have ll:=hS.len
 have one_mp : oneA (.mp M.size) = true:=rfl
 have cmp : cellsA (.mp M.size) = [.mp M.size]:=rfl
 refine zAY tf33 rfl (by simp [a33]) fun b' ht hx=>?_
 have h0:=hx 0 _ rfl
 clear hx
 simp only [a33,c33,zz2,zz4,zzm] at ht ⊢
 have hH0 : IsHist ((M.add (.map [] 0)).add (.row false [NIL,.mp M.size])) M.size (M.size + 1) M.size NIL []:=⟨by simp (maxSteps:=2000000) (disch:=first | omega | assumption | (simp only [DS,Nat.reduceAdd, *]; done) | (simp only [DZ]; omega)) only [RUN],SlM.nil,⟨.map [] 0,by simp (maxSteps:=2000000) (disch:=first | omega | assumption | (simp only [DS,Nat.reduceAdd, *]; done) | (simp only [DZ]; omega)) only [RUN],zHS.nil _ _⟩,by omega,by omega,fun j hj=>(by cases hj),by omega,fun hj=>(by cases hj),fun hj=>(by cases hj)⟩
 simp (maxSteps:=2000000) (disch:=first | omega | assumption | (simp only [DS,Nat.reduceAdd, *]; done) | (simp only [DZ]; omega)) only [RUN,RU,zA2,zA1,lay,zAJ,reduceIte,Nat.reduceEqDiff,Nat.reduceBEq,Nat.reduceAdd,h0,ll,zVP,cmp]
 refine zB1 (I:=fun n t N => ∃ (i : Nat) (ops : AV),n = l.length - i ∧ i ≤ l.length ∧ nth zA4 t 4 = .ptr (M.size + 1) 0 ∧ nth zA4 t 12 = a ∧ nth zA4 t 13 = I64 l.length ∧ nth zA4 t 14 = I64 i ∧ Wf N ∧ M.size + 2 ≤ N.size ∧ N.wm = M.wm ∧ (∀ j,j < M.size → N.get j = M.get j) ∧ IsHist N M.size (M.size + 1) M.size ops (l.take i) ∧ zAW [] l = zAW (l.take i) (l.drop i) ∧ (zAT (l.take i)).length ≤ 64 * i) (n:=l.length) (by omega) ?_ ?_
 ·refine ⟨0,NIL,rfl,Nat.zero_le _, ?_, ?_, ?_, ?_,(wf.add _).add _,by simp only [zA8]; omega,rfl,fun j hj=>by rw [zAF (wf.add _) _ _ (by rw [zA8]; omega),zAF wf _ _ hj],hH0,rfl,Nat.le_refl 0⟩ <;> simp (maxSteps:=2000000) (disch:=first | omega | assumption | (simp only [DS,Nat.reduceAdd, *]; done) | (simp only [DZ]; omega)) only [RUN,reduceIte,Nat.reduceEqDiff]
  all_goals first | rfl | assumption | done
 ·rintro n t N hlt ⟨i,ops,rfl,hi,g4,g12,g13,g14,w,sz,wm,kp,hH,inv,tl⟩
  simp only [ht] at hlt ⊢
  by_cases hc : i < l.length
  ·have q2 : decide ((i : Int) < l.length) = true:=decide_eq_true (by omega)
   have w1 : IntKind.i64.wrap ((i : Int) + 1) = ((i + 1 : Nat) : Int):=by rw [wrap_i64] <;> omega
   obtain ⟨r,hiad,hr,hrl⟩:=hS.iad i hc
   rw [drop_step l i hc,zAW,← take_snoc l i hc] at inv
   have hts:=zMW (l.take i) l[i]
   have hsn:=take_snoc l i hc
   rw [← hsn] at hts
   generalize l[i] = e at *
   obtain ⟨ra,rfl,hra,hok⟩:=hr
   have ora:=hra.one
   have hck:=fun M=>@zCK fuel (d + 5) e ra hra hok (by omega) M
   cases hm : e.may with
   | false =>
    rw [hm] at hck
    simp only [hm,Bool.false_and] at inv
    simp (maxSteps:=2000000) (disch:=first | omega | assumption | (simp only [DS,Nat.reduceAdd, *]; done) | (simp only [DZ]; omega)) only [RUN,RU,zA2,zA1,zA0,zA5,slot,lay,reduceIte,Nat.reduceEqDiff,Nat.reduceAdd,Int.reduceEq,g12,g13,g14,q2,hiad,hck,zBG]
    exact kf _ ((w.add _).upd _ _) (by simp only [zAE,zA8]; omega) (fun j hj=>by rw [zAA (w.add _) _ _ _ (by omega),zAF w _ _ (by omega)]; exact kp j hj) inv
   | true =>
    rw [hm] at hck
    simp (maxSteps:=2000000) (disch:=first | omega | assumption | (simp only [DS,Nat.reduceAdd, *]; done) | (simp only [DZ]; omega)) only [RUN,RU,zA2,zA1,slot,lay,reduceIte,Nat.reduceEqDiff,Nat.reduceAdd,g4,g12,g13,g14,q2,hiad,hck,zB5]
    have hwN : N.wm ≤ N.size:=by omega
    have kX:=((Kept.refl w).add (.row false (opR ⟨0,Hd.z,0,⟨Eid.z,0⟩,Eid.z,Lb.z,[]⟩ NIL))).upd hwN (Nat.le_refl _) (.row false (opR e ra))
    have hli : (l.take i).length = i:=by rw [List.length_take]; omega
    refine zW7 (d:=d) (B:=M.size) (m:=M.size) (ops:=ops) (l:=l.take i) (hH.keep kX.get) (by omega) (by omega) hra hok hm (by omega) kX.wf (kX.wml hwN) fun N2 hN2=>?_
    have kN:=kX.trans hN2
    have gE : N2.get N.size = some (.row false (opR e ra)):=by
     rw [hN2.get _ (by rw [zAE,zA8]; omega)]
     exact zAP (w.add _) _ _ (by rw [zA8]; omega)
    have lE:=Mem.get_lt gE
    have w2:=kN.wf
    have hH2:=hH.keep kN.get
    have hg2:=hH2.hg
    have lg2:=Mem.get_lt hg2
    have sm2:=hH2.sm
    have oo2:=sm2.one
    have oc2:=sm2.cells
    have rl2:=sm2.rl
    have le2:=kN.le
    by_cases q3 : fitE (l.take i) e = 0
    ·have q3' : decide (fitE (l.take i) e = 0) = true:=decide_eq_true q3
     simp only [hm,q3',Bool.true_and] at inv
     simp (maxSteps:=2000000) (disch:=first | omega | assumption | (simp only [DS,Nat.reduceAdd, *]; done) | (simp only [DZ]; omega)) only [RUN,RU,zA2,zA1,slot,lay,zAJ,zAD,reduceIte,Nat.reduceEqDiff,Nat.reduceBEq,Nat.reduceAdd,g4,q3',gE,hg2]
     refine ⟨zBE rl2 (by omega), ?_⟩
     refine app1 w2 sm2 zDH (x:=e) ⟨ra,rfl,hra,hok⟩ rfl (by omega) (by omega) (by omega) fun ops' M3 m3 w3 le3 kp3 nw3 wm3 rl3 on3 oc3=>?_
     have gH3 : M3.get (M.size + 1) = some (.row false [ops,.mp M.size]):=(kp3 _ lg2 hH2.n1).trans hg2
     have gE3 : M3.get N.size = some (.row false (opR e ra)):=(kp3 _ lE (fun h=>by have:=hH.sm.lt _ h; omega)).trans gE
     have l3:=Mem.get_lt gH3
     have lE3:=Mem.get_lt gE3
     simp (maxSteps:=2000000) (disch:=first | omega | assumption | (simp only [DS,Nat.reduceAdd, *]; done) | (simp only [DZ]; omega)) only [RUN,RU,zA2,zA1,lay,reduceIte,Nat.reduceEqDiff,Nat.reduceBEq,Nat.reduceAdd,gH3,gE3,oc3]
     have ob' : ∀ j,rowOf ops' = some j → j ≠ M.size + 1 ∧ j ≠ M.size ∧ M.size ≤ j:=fun j hj=>by
      rcases nw3 j hj with h | h
      ·exact ⟨fun e=>hH.n1 (e ▸ h),fun e=>hH.n2 (e ▸ h),hH.ob j h⟩
      ·omega
     have hS4 : HS (M3.upd (M.size + 1) (.row false [ops',.mp M.size])) M.size (M.size + 1) M.size ops' (l.take (i + 1)) (zAT (l.take i)):=by
      obtain ⟨obj,mg,hset⟩:=hH2.mg
      refine ⟨zAP w3 _ _ l3, ?_,⟨obj, ?_,hset⟩,by omega,by omega,fun j hj=>(ob' j hj).2.2,by omega,fun hj=>(ob' _ hj).1 rfl,fun hj=>(ob' _ hj).2.1 rfl⟩
      ·rw [hsn]
       exact m3.keep fun j hj=>zAA w3 _ _ _ (fun e=>(ob' j hj).1 e.symm)
      ·rw [zAA w3 _ _ _ (by omega),kp3 _ (Mem.get_lt mg) hH2.n2]; exact mg
     have kp4 : ∀ j,j < M.size → (M3.upd (M.size + 1) (.row false [ops',.mp M.size])).get j = M.get j:=fun j hj=>by
      rw [zAA w3 _ _ _ (by omega),kp3 j (by omega) (fun h=>by have:=hH.ob j h; omega),kN.get j (by omega)]; exact kp j hj
     have w4:=w3.upd (M.size + 1) (.row false [ops',.mp M.size])
     have wm4 : (M3.upd (M.size + 1) (.row false [ops',.mp M.size])).wm = M.wm:=by
      show M3.wm = M.wm
      rw [wm3,kN.wm,wm]
     have gE4 : (M3.upd (M.size + 1) (.row false [ops',.mp M.size])).get N.size = some (.row false (opR e ra)):=by rw [zAA w3 _ _ _ (by omega)]; exact gE3
     have sz4 : M.size + 2 ≤ (M3.upd (M.size + 1) (.row false [ops',.mp M.size])).size:=by rw [zAE]; omega
     have lE4 : N.size < (M3.upd (M.size + 1) (.row false [ops',.mp M.size])).size:=by rw [zAE]; exact lE3
     generalize M3.upd (M.size + 1) (.row false [ops',.mp M.size]) = X4 at *
     by_cases q4 : e.kd = 1
     ·have q4' : decide (e.kd = 1) = true:=decide_eq_true q4
      rw [if_pos q4] at hts
      obtain ⟨r,hr,hn⟩:=zGD (fuel:=fuel) (d:=d + 6) hok.2.2.2.1 (zCP hm) (by omega)
      have hbn:=Spn.may_le (zCP hm)
      have il:=zI7 e.sp
      have rlen:=hr.len
      simp (maxSteps:=2000000) (disch:=first | omega | assumption | (simp only [DS,Nat.reduceAdd, *]; done) | (simp only [DZ]; omega)) only [RUN,RU,zA2,zA1,slot,reduceIte,Nat.reduceEqDiff,q4',gE4,hn,rlen]
      refine zB1 (I:=fun nk tk Nk => ∃ (ik : Nat),nk = e.sp.ids.length - ik ∧ ik ≤ e.sp.ids.length ∧ nth zA4 tk 4 = .ptr (M.size + 1) 0 ∧ nth zA4 tk 12 = a ∧ nth zA4 tk 13 = I64 l.length ∧ nth zA4 tk 14 = I64 i ∧ nth zA4 tk 42 = r ∧ nth zA4 tk 43 = I64 e.sp.ids.length ∧ nth zA4 tk 44 = I64 ik ∧ Wf Nk ∧ M.size + 2 ≤ Nk.size ∧ Nk.wm = M.wm ∧ (∀ j,j < M.size → Nk.get j = M.get j) ∧ HS Nk M.size (M.size + 1) M.size ops' (l.take (i + 1)) (zAT (l.take i) ++ e.sp.ids.take ik)) (n:=e.sp.ids.length) (by omega) ?_ ?_
      ·refine ⟨0,rfl,Nat.zero_le _, ?_, ?_, ?_, ?_, ?_, ?_, ?_,w4,sz4,wm4,kp4,(by rw [List.take_zero,List.append_nil]; exact hS4)⟩ <;> simp (maxSteps:=2000000) (disch:=first | omega | assumption | (simp only [DS,Nat.reduceAdd, *]; done) | (simp only [DZ]; omega)) only [RUN,reduceIte,Nat.reduceEqDiff,g4,g12,g13,g14]
       all_goals first | rfl | assumption | done
      ·rintro nk tk Nk hltk ⟨ik,rfl,hik,gk4,gk12,gk13,gk14,gk42,gk43,gk44,wk,szk,wmk,kpk,hSk⟩
       simp only [hlt] at hltk ⊢
       by_cases hck : ik < e.sp.ids.length
       ·have q5 : decide ((ik : Int) < e.sp.ids.length) = true:=decide_eq_true (by omega)
        have w1k : IntKind.i64.wrap ((ik : Int) + 1) = ((ik + 1 : Nat) : Int):=by rw [wrap_i64] <;> omega
        obtain ⟨rx,hiadx,hrx,hrlx⟩:=hr.iad ik hck
        have fr : e.sp.ids[ik] ∉ zAT (l.take i) ++ e.sp.ids.take ik:=by
         intro hin
         rcases List.mem_append.1 hin with h | h
         ·exact zNS q3 q4 _ (List.getElem_mem hck) h
         ·obtain ⟨j,hj,he⟩:=List.getElem_of_mem h
          rw [List.getElem_take] at he
          rw [List.length_take] at hj
          rw [zK5,zK5] at he
          have:=congrArg Eid.c he
          simp only [Spn.at] at this
          omega
        have sn:=take_snoc e.sp.ids ik hck
        generalize e.sp.ids[ik] = x at *
        obtain ⟨rfl,hxo⟩:=hrx
        have gk:=hSk.hg
        obtain ⟨obj,mgk,hset⟩:=hSk.mg
        have lk:=Mem.get_lt gk
        have lmk:=Mem.get_lt mgk
        simp (maxSteps:=2000000) (disch:=first | omega | assumption | (simp only [DS,Nat.reduceAdd, *]; done) | (simp only [DZ]; omega)) only [RUN,RU,zA2,zA1,slot,lay,reduceIte,Nat.reduceEqDiff,Nat.reduceBEq,Nat.reduceAdd,gk4,gk42,gk43,gk44,q5,hiadx,gk,x_mu]
        have wk2:=(wk.add (.row false (idR ⟨⟨⟨0,0⟩,0⟩,0⟩))).upd Nk.size (.row false (idR x))
        have keep2 : ∀ j,j < Nk.size → ((Nk.add (.row false (idR ⟨⟨⟨0,0⟩,0⟩,0⟩))).upd Nk.size (.row false (idR x))).get j = Nk.get j:=fun j hj=>by
         rw [zAA (wk.add _) _ _ _ (by omega),zAF wk _ _ hj]
        refine zWZ zU6 (l:=zAT (l.take i) ++ e.sp.ids.take ik) wk2 (by simp only [zAE,zA8]; omega) ((keep2 _ lmk).trans mgk) hset x fun o' hs'=>?_
        rw [if_neg fr] at hs'
        have hS5 : HS (((Nk.add (.row false (idR ⟨⟨⟨0,0⟩,0⟩,0⟩))).upd Nk.size (.row false (idR x))).upd M.size o') M.size (M.size + 1) M.size ops' (l.take (i + 1)) (zAT (l.take i) ++ e.sp.ids.take (ik + 1)):=by
         have u : ∀ j,j < Nk.size → j ≠ M.size → (((Nk.add (.row false (idR ⟨⟨⟨0,0⟩,0⟩,0⟩))).upd Nk.size (.row false (idR x))).upd M.size o').get j = Nk.get j:=fun j hj hne=>by
          rw [zAA wk2 _ _ _ (fun e=>hne e.symm),keep2 j hj]
         refine ⟨(u _ lk (by omega)).trans gk,hSk.sm.keep fun j hj=>u j (hSk.sm.lt j hj) (fun e=>hSk.n2 (e ▸ hj)),⟨o',zAP wk2 _ _ (by simp only [zAE,zA8]; omega), ?_⟩,hSk.ib,hSk.mb,hSk.ob,hSk.ne,hSk.n1,hSk.n2⟩
         rw [sn,← List.append_assoc]
         exact hs'
        have wm5 : (((Nk.add (.row false (idR ⟨⟨⟨0,0⟩,0⟩,0⟩))).upd Nk.size (.row false (idR x))).upd M.size o').wm = M.wm:=wmk
        have kp5 : ∀ j,j < M.size → (((Nk.add (.row false (idR ⟨⟨⟨0,0⟩,0⟩,0⟩))).upd Nk.size (.row false (idR x))).upd M.size o').get j = M.get j:=fun j hj=>by
         rw [zAA wk2 _ _ _ (by omega),keep2 j (by omega)]; exact kpk j hj
        have wk5:=wk2.upd M.size o'
        have sz5 : M.size + 2 ≤ (((Nk.add (.row false (idR ⟨⟨⟨0,0⟩,0⟩,0⟩))).upd Nk.size (.row false (idR x))).upd M.size o').size:=by simp only [zAE,zA8]; omega
        simp (maxSteps:=2000000) (disch:=first | omega | assumption | (simp only [DS,Nat.reduceAdd, *]; done) | (simp only [DZ]; omega)) only [RUN,RU,zA2,zA1,reduceIte,Nat.reduceEqDiff,Nat.reduceAdd,Nat.reduceLeDiff,gk4,gk12,gk13,gk14,gk42,gk43,gk44,w1k]
        exact ⟨hltk,e.sp.ids.length - (ik + 1),by omega,ik + 1,rfl,by omega,rfl,wk,by omega,wm5,kp5,hS5⟩
       ·obtain rfl : ik = e.sp.ids.length:=by omega
        have q5 : decide ((e.sp.ids.length : Int) < e.sp.ids.length) = false:=decide_eq_false (by omega)
        rw [List.take_length] at hSk
        simp (maxSteps:=2000000) (disch:=first | omega | assumption | (simp only [DS,Nat.reduceAdd, *]; done) | (simp only [DZ]; omega)) only [RUN,RU,zA2,zA1,reduceIte,Nat.reduceEqDiff,gk4,gk12,gk13,gk14,gk43,gk44,w1]
        exact ⟨hltk,l.length - (i + 1),by omega,i + 1,ops',rfl,by omega,rfl,wk,szk,wmk,kpk,hSk.to hts.symm,inv,by rw [hts,List.length_append]; omega⟩
     ·have q4' : decide (e.kd = 1) = false:=decide_eq_false q4
      rw [if_neg q4,List.append_nil] at hts
      simp (maxSteps:=2000000) (disch:=first | omega | assumption | (simp only [DS,Nat.reduceAdd, *]; done) | (simp only [DZ]; omega)) only [RUN,RU,zA2,zA1,reduceIte,Nat.reduceEqDiff,g4,g12,g13,g14,q4',w1]
      exact ⟨hlt,l.length - (i + 1),by omega,i + 1,ops',rfl,by omega,rfl,w4,sz4,wm4,kp4,hS4.to hts.symm,inv,by rw [hts]; omega⟩
    ·have q3' : decide (fitE (l.take i) e = 0) = false:=decide_eq_false q3
     simp only [hm,q3',Bool.false_and,Bool.and_false] at inv
     simp (maxSteps:=2000000) (disch:=first | omega | assumption | (simp only [DS,Nat.reduceAdd, *]; done) | (simp only [DZ]; omega)) only [RUN,RU,zA2,zA1,zA0,zA5,reduceIte,Nat.reduceEqDiff,q3']
     exact kf _ w2 (by omega) (fun j hj=>(kN.get j (by omega)).trans (kp j hj)) inv
  ·obtain rfl : i = l.length:=by omega
   have q1 : decide ((l.length : Int) < l.length) = false:=decide_eq_false (by omega)
   rw [List.drop_length,zAW] at inv
   rw [List.take_length] at hH tl
   simp (maxSteps:=2000000) (disch:=first | omega | assumption | (simp only [DS,Nat.reduceAdd, *]; done) | (simp only [DZ]; omega)) only [RUN,RU,zA2,zA1,zA0,zA5,reduceIte,Nat.reduceEqDiff,g4,g13,g14]
   exact kt _ _ w sz wm kp inv hH tl
end Go.Proofs.YtkfdflajadkfkaaGreat
namespace Go.Proofs.YtkfdflajadkfkaaGreat
open Go Go.Ax
theorem im88 : imax 8 8 = 8:=by decide
theorem im80 : imax 8 0 = 8:=by decide
theorem im08 : imax 0 8 = 8:=by decide
theorem im00 : imax 0 0 = 0:=by decide
theorem IMX : type_of% (And.intro im88 (And.intro im80 (And.intro im08 im00))):=And.intro im88 (And.intro im80 (And.intro im08 im00))
end Go.Proofs.YtkfdflajadkfkaaGreat
namespace Go.Proofs.YtkfdflajadkfkaaGreat
open Go Go.Ax
variable {fuel : Nat} {M : Mem} {Q : AV → Mem → Prop} {d : Nat} {x : Eid} {l : List Op} {o : Op} {ra ops a : AV} {B id m : Nat} {v : Lb}
abbrev opH (o : Op) : List AV:=[U8 o.kd,U8 o.hd.lb.lv,U32 o.hd.lb.cats,U8 o.hd.num,I64 o.sr,U8 o.sp.f.hd.lb.lv,U32 o.sp.f.hd.lb.cats,U8 o.sp.f.hd.num,I64 o.sp.f.c,I64 o.sp.n,U8 o.af.hd.lb.lv,U32 o.af.hd.lb.cats,U8 o.af.hd.num,I64 o.af.c,U8 o.to.lv,U32 o.to.cats]
def opK : NK Op Int where
 st:=17
 H:=opH
 f:=Op.rs
 T:=zAS
 ok:=Op.ok
 hl:=fun _=>rfl
 hz:=fun o y hy=>by
  simp only [opH,List.mem_cons,List.not_mem_nil,or_false] at hy
  rcases hy with rfl | rfl | rfl | rfl | rfl | rfl | rfl | rfl | rfl | rfl | rfl | rfl | rfl | rfl | rfl | rfl
  all_goals exact zC4 _ _
 ft:=zE1
theorem zLN (h : Sl opK.st opK.is a l) : Sl 17 isOp a l:=h
theorem zCO (hS : Sl 17 isOp a l) (hl : l.length ≤ 10000) (hf : l.length + 400 < fuel) (M : Mem) : zAC Tryz.prog (fsT tbl) fuel (d + 14) (.fn 16) [a] M = some (I64 (err (zAW [] l)),M):=by
 apply zB6
 refine zDL tf16 rfl (by simp only [icyL,fun M=>hS.icy M 12 (by omega)]) (by simp [a16]) fun b' ht hx=>?_
 have h0:=hx 0 _ rfl
 clear hx
 simp only [a16,c16,zzm] at ht ⊢
 simp (maxSteps:=2000000) (disch:=first | omega | assumption | (simp only [DS,Nat.reduceAdd, *]; done) | (simp only [DZ]; omega)) only [RUN,RU,zA2,zA1,reduceIte,Nat.reduceEqDiff,h0]
 refine of_0 (d:=d) hS hl hf Wf.mem0 (Nat.le_refl _) (fun N w s k hh=>?_) (fun N ops w s wm k hh _ _=>?_)
 ·rw [hh]
  simp (maxSteps:=2000000) (disch:=first | omega | assumption | (simp only [DS,Nat.reduceAdd, *]; done) | (simp only [DZ]; omega)) only [RUN,RU,zA2,zA1,zA0,zA5,frzL,reduceIte,Nat.reduceEqDiff,zBG,zBR]
 ·rw [hh]
  simp (maxSteps:=2000000) (disch:=first | omega | assumption | (simp only [DS,Nat.reduceAdd, *]; done) | (simp only [DZ]; omega)) only [RUN,RU,zA2,zA1,zA0,zA5,frzL,reduceIte,Nat.reduceEqDiff,zB5,zBR]
def zGJ (l : List Op) (v : Lb) : Int:=err (zAW [] l && v.may)
def lowL (l : List Op) (v : Lb) : List Op:=l.filter fun o=>o.hd.lb.leq v
theorem zLI (l : List Op) (o : Op) (v : Lb) : lowL (l ++ [o]) v = lowL l v ++ (if o.hd.lb.leq v then [o] else []):=by
 unfold lowL
 rw [List.filter_append]
 cases h : o.hd.lb.leq v <;> simp [h]
theorem zFB (l : List Op) (v : Lb) : (lowL l v).length ≤ l.length:=List.length_filter_le _ _
def zX3 (l : List Op) (v : Lb) (r : AV) : Prop:=∃ r1,r = .tup [r1,I64 (zGJ l v)] ∧ Sl 17 isOp r1 (if zGJ l v = 0 then lowL l v else [])
set_option maxHeartbeats 8000000 in
theorem zRI (hS : Sl 17 isOp a l) (hl : l.length ≤ 10000) (hf : l.length + 400 < fuel) (hd : ∀ o ∈ l,o.rs.length ≤ 1000000000) : ∃ r,zX3 l v r ∧ ∀ M,zAC Tryz.prog (fsT tbl) fuel (d + 15) (.fn 24) [a,lbA v] M = some (r,M):=by
 have ll:=hS.len
 have hck:=fun M=>zCO (fuel:=fuel) (d:=d) hS hl hf M
 have hlc:=fun M=>@zCD fuel (d + 13) v M
 refine zDI tf24 rfl (fun M=>by simp only [icyL,fun M=>hS.icy M 12 (by omega),zAK (zBA v) (show 1 < 12 by omega)]) ?_
 refine zAH tf24 rfl (by simp only [icyL,fun M=>hS.icy M 12 (by omega),zAK (zBA v) (show 1 < 12 by omega)]) (by simp [a24]) fun b' ht hx=>?_
 have h0:=hx 0 _ rfl
 have h1:=hx 1 _ rfl
 clear hx
 simp only [a24,c24,zz4,zzm] at ht ⊢
 unfold zX3 zGJ
 cases q1 : zAW [] l with
 | false =>
  rw [q1] at hck
  cases q2 : v.may <;> rw [q2] at hlc
  all_goals
   simp (maxSteps:=2000000) (disch:=first | omega | assumption | (simp only [DS,Nat.reduceAdd, *]; done) | (simp only [DZ]; omega)) only [RUN,RU,zA2,zA1,zA0,zA5,frzL,slot,reduceIte,Nat.reduceEqDiff,Nat.reduceBEq,Nat.reduceAdd,Int.reduceEq,h0,h1,hck,hlc,zB5,zBG,zCU,BMM,IMX]
   exact ⟨_,⟨NIL,rfl,.inl ⟨rfl,rfl⟩⟩,rfl⟩
 | true =>
  rw [q1] at hck
  cases q2 : v.may <;> rw [q2] at hlc
  ·simp (maxSteps:=2000000) (disch:=first | omega | assumption | (simp only [DS,Nat.reduceAdd, *]; done) | (simp only [DZ]; omega)) only [RUN,RU,zA2,zA1,zA0,zA5,frzL,slot,reduceIte,Nat.reduceEqDiff,Nat.reduceBEq,Nat.reduceAdd,Int.reduceEq,h0,h1,hck,hlc,zB5,zBG,zCU,BMM,IMX]
   exact ⟨_,⟨NIL,rfl,.inl ⟨rfl,rfl⟩⟩,rfl⟩
  ·simp (maxSteps:=2000000) (disch:=first | omega | assumption | (simp only [DS,Nat.reduceAdd, *]; done) | (simp only [DZ]; omega)) only [RUN,RU,zA2,zA1,slot,reduceIte,Nat.reduceEqDiff,Nat.reduceBEq,Nat.reduceAdd,h0,h1,hck,hlc,zB5,zCU,BMM,IMX,ll]
   refine zB1 (I:=fun n t N => ∃ (i : Nat) (out : AV),n = l.length - i ∧ i ≤ l.length ∧ nth zA4 t 3 = .ptr 0 0 ∧ nth zA4 t 4 = out ∧ nth zA4 t 17 = a ∧ nth zA4 t 18 = I64 l.length ∧ nth zA4 t 19 = I64 i ∧ Wf N ∧ N.get 0 = some (.row false (lbR v)) ∧ N.wm = 0 ∧ opK.NN N 1 out (lowL (l.take i) v)) (n:=l.length) (by omega) ?_ ?_
   ·refine ⟨0,NIL,rfl,Nat.zero_le _, ?_, ?_, ?_, ?_, ?_,Wf.mem0.add _,by simp (maxSteps:=2000000) (disch:=first | omega | assumption | (simp only [DS,Nat.reduceAdd, *]; done) | (simp only [DZ]; omega)) only [RUN],rfl,NK.NN.nil _ _⟩ <;> simp (maxSteps:=2000000) (disch:=first | omega | assumption | (simp only [DS,Nat.reduceAdd, *]; done) | (simp only [DZ]; omega)) only [RUN,reduceIte,Nat.reduceEqDiff]
    all_goals first | rfl | assumption | done
   ·rintro n t N hlt ⟨i,out,rfl,hi,g3,g4,g17,g18,g19,w,g,wm,hN⟩
    simp only [ht] at hlt ⊢
    by_cases hc : i < l.length
    ·have q3 : decide ((i : Int) < l.length) = true:=decide_eq_true (by omega)
     have w1 : IntKind.i64.wrap ((i : Int) + 1) = ((i + 1 : Nat) : Int):=by rw [wrap_i64] <;> omega
     obtain ⟨r,hiad,hr,hrl⟩:=hS.iad i hc
     have hls:=zLI (l.take i) l[i] v
     rw [← take_snoc l i hc] at hls
     have hlo:=hd l[i] (List.getElem_mem hc)
     have hll:=zFB (l.take i) v
     rw [List.length_take] at hll
     generalize l[i] = e at *
     obtain ⟨ra,rfl,hra,hok⟩:=hr
     have ora:=hra.one
     have lN:=Mem.get_lt g
     have hle:=fun M=>@zFA fuel (d + 13) e.hd.lb v M
     have kX:=((Kept.refl w).add (.row false (opR ⟨0,Hd.z,0,⟨Eid.z,0⟩,Eid.z,Lb.z,[]⟩ NIL))).upd (by omega) (Nat.le_refl _) (.row false (opR e ra))
     cases q4 : e.hd.lb.leq v with
     | false =>
      rw [q4] at hle
      rw [q4,if_neg (by decide),List.append_nil] at hls
      simp (maxSteps:=2000000) (disch:=first | omega | assumption | (simp only [DS,Nat.reduceAdd, *]; done) | (simp only [DZ]; omega)) only [RUN,RU,zA2,zA1,slot,lay,reduceIte,Nat.reduceEqDiff,Nat.reduceAdd,g3,g4,g17,g18,g19,q3,hiad,w,g,hle,w1]
      exact ⟨hlt,l.length - (i + 1),by omega,i + 1,out,rfl,by omega,rfl,rfl,wm,by rw [hls]; exact hN.keep fun j a b=>kX.get j b⟩
     | true =>
      rw [q4] at hle
      rw [q4,if_pos rfl] at hls
      have oo:=hN.one
      have oc:=hN.cells
      simp (maxSteps:=2000000) (disch:=first | omega | assumption | (simp only [DS,Nat.reduceAdd, *]; done) | (simp only [DZ]; omega)) only [RUN,RU,zA2,zA1,slot,lay,reduceIte,Nat.reduceEqDiff,Nat.reduceAdd,g3,g4,g17,g18,g19,q3,hiad,g,hle]
      refine zID (d:=d + 12) hra hlo kX.wf (by rw [kX.wm]; omega) fun a' N2 hN2 sm2 nw2=>?_
      have k2:=kX.trans hN2
      have w2:=k2.wf
      have oa:=sm2.one
      have ca:=sm2.cells
      have rl2:=zBE sm2.rl (Nat.le_refl N2.size)
      have rr2:=hN.rows (show N.size ≤ N2.size + 1 by have:=k2.le; omega)
      simp (maxSteps:=2000000) (disch:=first | omega | assumption | (simp only [DS,Nat.reduceAdd, *]; done) | (simp only [DZ]; omega)) only [RUN,RU,zA2,zA1,lay,zAJ,zAD,reduceIte,Nat.reduceEqDiff,Nat.reduceBEq,Nat.reduceAdd,rr2]
      have hsz : N.size + 1 ≤ N2.size:=hN2.le
      refine NK.NN.app (K:=opK) (B:=1) (l:=lowL (l.take i) v) (x:=e) (ra:=a') w2 (hN.keep fun j a b=>k2.get j b) ⟨rfl,oa,ca⟩ ⟨sm2,fun j hj=>by have:=nw2 j hj; simp only [zAE,zA8] at this; omega,hok⟩ (fun j hj hj2=>by have h1:=hN.lt j hj; have h2:=nw2 j hj2; simp only [zAE,zA8] at h2; omega) (by omega) (by omega) (by omega) fun o' M' hN' w' le' kp' nw' wm'=>?_
      simp (maxSteps:=2000000) (disch:=first | omega | assumption | (simp only [DS,Nat.reduceAdd, *]; done) | (simp only [DZ]; omega)) only [RUN,RU,zA2,zA1,reduceIte,Nat.reduceEqDiff,g3,g4,g17,g18,g19,w1]
      refine ⟨hlt,l.length - (i + 1),by omega,i + 1,o',rfl,by omega,rfl,rfl,w', ?_, ?_,by rw [hls]; exact hN'⟩
      ·rw [kp' 0 (by omega) (fun h=>by have:=hN.lt 0 h; omega),k2.get 0 lN]; exact g
      ·rw [wm',k2.wm]; exact wm
    ·obtain rfl : i = l.length:=by omega
     have q3 : decide ((l.length : Int) < l.length) = false:=decide_eq_false (by omega)
     rw [List.take_length] at hN
     obtain ⟨o',hz,hs⟩:=hN.frz (k:=11) (by omega)
     have hz:=hz N (fun _ _=>rfl)
     simp (maxSteps:=2000000) (disch:=first | omega | assumption | (simp only [DS,Nat.reduceAdd, *]; done) | (simp only [DZ]; omega)) only [RUN,RU,zA2,zA1,zA0,zA5,frzL,reduceIte,Nat.reduceEqDiff,g4,g18,g19,hz]
     exact ⟨_,⟨o',rfl,zLN hs⟩,rfl⟩
end Go.Proofs.YtkfdflajadkfkaaGreat
namespace Go.Ax
open Go
variable {α : Type} {M N : Mem} {st : Nat} {T : List AV → α → Prop} {v o : AV} {l : List α}
def SlR (M : Mem) (st : Nat) (T : List AV → α → Prop) (v : AV) (l : List α) : Prop :=
 (v = NIL ∧ l = []) ∨ ∃ (id : Nat) (rows : List (List AV)) (cap : Option Nat),v = .sl id 0 rows.length cap st ∧ M.rd id = some rows.flatten ∧ All2 T rows l ∧ ∀ r ∈ rows,r.length = st
theorem SlR.of (h : SlM M st T v l) : SlR M st T v l:=by
 rcases h with h | ⟨id,rows,cap,rfl,_,hg,hA,hr⟩
 ·exact .inl h
 ·exact .inr ⟨id,rows,cap,rfl,zBJ hg,hA,hr⟩
theorem SlR.keep (h : SlR M st T v l) (k : ∀ j,N.rd j = M.rd j) : SlR N st T v l:=by
 rcases h with h | ⟨id,rows,cap,h1,h2,h3,h4⟩
 ·exact .inl h
 ·exact .inr ⟨id,rows,cap,h1,(k id).trans h2,h3,h4⟩
theorem SlR.icyk (h : SlR M st T v l) (wf : Wf M) (hT : FzT T) {k : Nat} (hk : 1 < k) : ∃ v' M',Go.Ax.icy k M v = some (v',M') ∧ Sl st T v' l ∧ Wf M' ∧ M'.size = M.size ∧ (∀ j,M'.rd j = M.rd j) ∧ ∀ j,rowOf v ≠ some j → M'.get j = M.get j:=by
 obtain ⟨k,rfl⟩ : ∃ j,k = j + 1:=⟨k - 1,by omega⟩
 rcases h with ⟨rfl,rfl⟩ | ⟨id,rows,cap,rfl,hg,hA,hr⟩
 ·exact ⟨NIL,M,rfl,.inl ⟨rfl,rfl⟩,wf,rfl,fun _=>rfl,fun _ _=>rfl⟩
 ·have hfl:=zAI hr
  have hcs : ∀ N,icyL (Go.Ax.icy k) N rows.flatten = some (rows.flatten,N):=zC5 (by omega) fun x hx N=>hT.celI.flat hA x hx N k (by omega)
  have hble : Nat.ble (0 + rows.length * st) rows.flatten.length = true:=zFU (by omega)
  have hsl : slot rows.flatten 0 (rows.length * st) = rows.flatten:=zBC _ _ hfl.symm
  have hrd:=hg
  rw [zCB] at hrd
  cases ho : M.get id with
  | none=>rw [ho] at hrd; cases hrd
  | some x =>
   rw [ho] at hrd
   cases x with
   | row b ds =>
    have e : ds = rows.flatten:=by simpa [rd1] using hrd
    subst e
    exact ⟨_,M.upd id (.fro rows.flatten),by simp only [Go.Ax.icy,hg,hble,hcs,ho,zBD wf (Mem.get_lt ho),hsl],.inr ⟨rows,cap,rfl,hA,hr⟩,wf.upd _ _,rfl,NK.rd_fro wf ho,fun j hj=>zAA wf _ _ _ (fun e=>hj (by rw [e]; rfl))⟩
   | fro ds=>exact ⟨_,M,by simp only [Go.Ax.icy,hg,hble,hcs,ho,hsl],.inr ⟨rows,cap,rfl,hA,hr⟩,wf,rfl,fun _=>rfl,fun _ _=>rfl⟩
   | _=>simp [rd1] at hrd
theorem SlR.hand {P : Program} {fs : Nat → Option AFunc} {fuel f n : Nat} {af : AFunc} {rest : List AV} {R : AV → Prop} {Q : AV → Mem → Prop} (h : fs f = some af) (hg : af.gc = 1) (hN : SlR M st T o l) (wf : Wf M) (hT : FzT T) (hr : ∀ M,icyL (Go.Ax.icy 12) M rest = some (rest,M)) (hc : ∀ o',Sl st T o' l → ∃ r,R r ∧ ∀ M,zAC P fs fuel (n + 1) (.fn f) (o' :: rest) M = some (r,M))
  (k : ∀ r M',R r → Wf M' → M'.size = M.size → SlR M' st T o l → (∀ j,rowOf o ≠ some j → M'.get j = M.get j) → Q r M') : W3 (zAC P fs fuel (n + 1) (.fn f) (o :: rest) M) Q:=by
 obtain ⟨o',M',i1,s1,w1,z1,r1,g1⟩:=hN.icyk wf hT (k:=12) (by omega)
 obtain ⟨r,hR,hcall⟩:=hc o' s1
 refine ⟨r,M',zEK (bs:=o' :: rest) h hg (hcall mem0) (M3:=mem0) ?_ ?_,k r M' hR w1 z1 (hN.keep r1) g1⟩
 ·simp only [icyL,s1.icy mem0 12 (by omega),hr]
 ·simp only [icyL,i1,hr]
end Go.Ax
namespace Go.Proofs.YtkfdflajadkfkaaGreat
open Go Go.Ax
variable {fuel : Nat} {M : Mem} {Q : AV → Mem → Prop} {d : Nat} {l : List Op} {a : AV} {x : Eid} {v : Lb}
set_option maxHeartbeats 8000000 in
theorem zJA {o : Op} {ra : AV} (hS : Sl 17 isOp a l) (hR : Sl 1 zAS ra o.rs) (ho : o.ok) (hm : ∀ o ∈ l,o.may = true) (hom : o.may = true) (hl : l.length ≤ 40000) (hf : l.length + 200 < fuel) (M : Mem) : zAC Tryz.prog (fsT tbl) fuel (d + 5) (.fn 73) [a,.agg (opR o ra)] M = some (BL (zBS l o),M):=by
 have ora:=hR.one
 have hsm:=zCP hom
 have hb:=Spn.may_le hsm
 obtain ⟨rn,hrn,hall⟩:=zJC (fuel:=fuel) (d:=d + 3) ho.2.2.2.1 hsm (by omega)
 have lrn:=hrn.len
 have hle:=fun M=>zD2 (fuel:=fuel) (d:=d + 2) o.hd.lb o.to ho.2.1.1 ho.2.2.2.2.2.1 (by omega) M
 have hil : o.sp.ids.length ≤ 64:=by unfold Spn.ids; rw [List.length_map,List.length_range]; omega
 have hiok : ∀ y ∈ o.sp.ids,y.ok:=fun y hy=>by
  unfold Spn.ids at hy
  obtain ⟨i,hi,rfl⟩:=List.mem_map.1 hy
  exact zIY ho.2.2.2.1 hsm i (List.mem_range.1 hi)
 apply zB6
 refine zAH tf73 rfl (by simp only [icyL,fun M=>hS.icy M 12 (by omega),zBW hR.fz]) (by simp [a73]) fun b' ht hx=>?_
 have h0:=hx 0 _ rfl
 have h1:=hx 1 _ rfl
 clear hx
 simp only [a73,c73,zzm] at ht ⊢
 unfold zBS
 by_cases hk : o.kd = 3
 ·have hk':=decide_eq_true hk
  rw [if_pos hk]
  generalize o.sp.ids = I at *
  simp (maxSteps:=2000000) (disch:=first | omega | assumption | (simp only [DS,Nat.reduceAdd, *]; done) | (simp only [DZ]; omega)) only [RUN,RU,zA2,zA1,slot,reduceIte,Nat.reduceEqDiff,h1,hk',hall]
  refine zB1 (I:=fun n t N => ∃ (i : Nat),n = I.length - i ∧ i ≤ I.length ∧ nth zA4 t 0 = a ∧ nth zA4 t 3 = .ptr 0 0 ∧ nth zA4 t 5 = rn ∧ nth zA4 t 6 = I64 i ∧ Wf N ∧ N.get 0 = some (.row false (opR o ra)) ∧ (I.take i).all (fun id=>zDG (made l id o.hd.lb) o.hd.lb) = true) (n:=I.length) (by omega) ?_ ?_
  ·refine ⟨0,rfl,Nat.zero_le _, ?_, ?_, ?_, ?_,Wf.mem0.add _,by simp (maxSteps:=2000000) (disch:=first | omega | assumption | (simp only [DS,Nat.reduceAdd, *]; done) | (simp only [DZ]; omega)) only [RUN],rfl⟩ <;> simp (maxSteps:=2000000) (disch:=first | omega | assumption | (simp only [DS,Nat.reduceAdd, *]; done) | (simp only [DZ]; omega)) only [RUN,reduceIte,Nat.reduceEqDiff,h0]
   all_goals first | rfl | assumption | done
  ·rintro n t N hlt ⟨i,rfl,hi,g0,g3,g5,g6,w,g,hj⟩
   simp only [ht] at hlt ⊢
   have lg:=Mem.get_lt g
   by_cases hc : i < I.length
   ·have q1 : decide ((i : Int) < I.length) = true:=decide_eq_true (by omega)
    have w1 : IntKind.i64.wrap ((i : Int) + 1) = ((i + 1 : Nat) : Int):=by rw [wrap_i64] <;> omega
    obtain ⟨r,hiad,⟨hr1,_⟩,_⟩:=hrn.iad i hc
    subst hr1
    have hsn:=take_snoc I i hc
    have hmem:=List.getElem_mem hc
    generalize I[i] = y at *
    obtain ⟨rf,hrf,hof⟩:=zOY (fuel:=fuel) (d:=d) (x:=y) (v:=o.hd.lb) hS hm (hiok y hmem) ho.2.1.1 hl hf
    have hml:=zIA l y o.hd.lb
    have ham:=fun M=>zFR (fuel:=fuel) (d:=d + 3) hrf o.hd.lb (by omega) (by omega) M
    cases q2 : zDG (made l y o.hd.lb) o.hd.lb with
    | true =>
     rw [q2] at ham
     simp (maxSteps:=2000000) (disch:=first | omega | assumption | (simp only [DS,Nat.reduceAdd, *]; done) | (simp only [DZ]; omega)) only [RUN,RU,zA2,zA1,slot,reduceIte,Nat.reduceEqDiff,Nat.reduceBEq,Nat.reduceAdd,g0,g3,g5,g6,lrn,q1,hiad,g,hof,ham,w1]
     exact ⟨hlt,I.length - (i + 1),by omega,i + 1,rfl,by omega,rfl,w,by rw [hsn,List.all_append,hj]; simp [q2]⟩
    | false =>
     rw [q2] at ham
     have e : (I.all fun id=>zDG (made l id o.hd.lb) o.hd.lb) = false:=by
      rw [List.all_eq_false]
      exact ⟨y,hmem,by rw [q2]; decide⟩
     simp (maxSteps:=2000000) (disch:=first | omega | assumption | (simp only [DS,Nat.reduceAdd, *]; done) | (simp only [DZ]; omega)) only [RUN,RU,zA2,zA1,zA0,zA5,frzL,slot,reduceIte,Nat.reduceEqDiff,Nat.reduceBEq,Nat.reduceAdd,g0,g3,g5,g6,lrn,q1,hiad,g,hof,ham]
     rw [e,Bool.and_false]
   ·obtain rfl : i = I.length:=by omega
    have q1 : decide ((I.length : Int) < I.length) = false:=decide_eq_false (by omega)
    rw [List.take_length] at hj
    simp (maxSteps:=2000000) (disch:=first | omega | assumption | (simp only [DS,Nat.reduceAdd, *]; done) | (simp only [DZ]; omega)) only [RUN,RU,zA2,zA1,zA0,zA5,frzL,slot,reduceIte,Nat.reduceEqDiff,g3,g5,g6,lrn,g,hle]
    rw [hj,Bool.and_true]
 ·have hk':=decide_eq_false hk
  rw [if_neg hk]
  simp (maxSteps:=2000000) (disch:=first | omega | assumption | (simp only [DS,Nat.reduceAdd, *]; done) | (simp only [DZ]; omega)) only [RUN,RU,zA2,zA1,zA0,zA5,frzL,reduceIte,Nat.reduceEqDiff,h1,hk']
def isB (l : List Op) (x : Eid) (v : Lb) : Bool:=((zBI l x v).all fun to=>to.leq v) && x.hd.lb.leq v
set_option maxHeartbeats 8000000 in
theorem zOX (hS : Sl 17 isOp a l) (hm : ∀ o ∈ l,o.may = true) (hx : x.ok) (hv : v.ok) (hl : l.length ≤ 40000) (hf : l.length + 200 < fuel) (M : Mem) : zAC Tryz.prog (fsT tbl) fuel (d + 4) (.fn 45) [a,idA x,lbA v] M = some (BL (isB l x v),M):=by
 obtain ⟨rr,hrr,hra⟩:=zEW (fuel:=fuel) (d:=d) (x:=x) hS hm hv hl hf
 have lrr:=hrr.len
 have hrl:=zD3 l x v
 have hle:=fun M=>zD2 (fuel:=fuel) (d:=d + 1) x.hd.lb v hx.1.1 hv (by omega) M
 apply zB6
 refine zAH tf45 rfl (by simp only [icyL,fun M=>hS.icy M 12 (by omega),zAK (zCW x) (show 1 < 12 by omega),zAK (zBA v) (show 1 < 12 by omega)]) (by simp [a45]) fun b' ht hx=>?_
 have h0:=hx 0 _ rfl
 have h1:=hx 1 _ rfl
 have h2:=hx 2 _ rfl
 clear hx
 simp only [a45,c45,zzm] at ht ⊢
 unfold isB
 generalize zBI l x v = R at *
 simp (maxSteps:=2000000) (disch:=first | omega | assumption | (simp only [DS,Nat.reduceAdd, *]; done) | (simp only [DZ]; omega)) only [RUN,RU,zA2,zA1,slot,reduceIte,Nat.reduceEqDiff,Nat.reduceAdd,h0,h1,h2,hra]
 refine zB1 (I:=fun n t N => ∃ (i : Nat),n = R.length - i ∧ i ≤ R.length ∧ nth zA4 t 4 = .ptr 0 0 ∧ nth zA4 t 5 = .ptr 1 0 ∧ nth zA4 t 7 = rr ∧ nth zA4 t 8 = I64 i ∧ Wf N ∧ N.get 0 = some (.row false (idR x)) ∧ N.get 1 = some (.row false (lbR v)) ∧ (R.take i).all (fun to=>to.leq v) = true) (n:=R.length) (by omega) ?_ ?_
 ·refine ⟨0,rfl,Nat.zero_le _, ?_, ?_, ?_, ?_,(Wf.mem0.add _).add _,by simp (maxSteps:=2000000) (disch:=first | omega | assumption | (simp only [DS,Nat.reduceAdd, *]; done) | (simp only [DZ]; omega)) only [RUN],by simp (maxSteps:=2000000) (disch:=first | omega | assumption | (simp only [DS,Nat.reduceAdd, *]; done) | (simp only [DZ]; omega)) only [RUN],rfl⟩ <;> simp (maxSteps:=2000000) (disch:=first | omega | assumption | (simp only [DS,Nat.reduceAdd, *]; done) | (simp only [DZ]; omega)) only [RUN,reduceIte,Nat.reduceEqDiff]
  all_goals first | rfl | assumption | done
 ·rintro n t N hlt ⟨i,rfl,hi,g4,g5,g7,g8,w,m0,m1,hj⟩
  simp only [ht] at hlt ⊢
  have l0:=Mem.get_lt m0
  have l1:=Mem.get_lt m1
  by_cases hc : i < R.length
  ·have q1 : decide ((i : Int) < R.length) = true:=decide_eq_true (by omega)
   have w1 : IntKind.i64.wrap ((i : Int) + 1) = ((i + 1 : Nat) : Int):=by rw [wrap_i64] <;> omega
   obtain ⟨r,hiad,⟨hr1,hr2⟩,_⟩:=hrr.iad i hc
   subst hr1
   have hsn:=take_snoc R i hc
   have hmem:=List.getElem_mem hc
   generalize R[i] = y at *
   have hly:=fun M=>zD2 (fuel:=fuel) (d:=d + 1) y v hr2 hv (by omega) M
   cases q2 : y.leq v with
   | true =>
    rw [q2] at hly
    simp (maxSteps:=2000000) (disch:=first | omega | assumption | (simp only [DS,Nat.reduceAdd, *]; done) | (simp only [DZ]; omega)) only [RUN,RU,zA2,zA1,slot,reduceIte,Nat.reduceEqDiff,Nat.reduceBEq,Nat.reduceAdd,g4,g5,g7,g8,lrr,q1,hiad,m0,m1,hly,w1]
    exact ⟨hlt,R.length - (i + 1),by omega,i + 1,rfl,by omega,rfl,w,by rw [hsn,List.all_append,hj]; simp [q2]⟩
   | false =>
    rw [q2] at hly
    have e : (R.all fun to=>to.leq v) = false:=by
     rw [List.all_eq_false]
     exact ⟨y,hmem,by rw [q2]; decide⟩
    simp (maxSteps:=2000000) (disch:=first | omega | assumption | (simp only [DS,Nat.reduceAdd, *]; done) | (simp only [DZ]; omega)) only [RUN,RU,zA2,zA1,zA0,zA5,frzL,slot,reduceIte,Nat.reduceEqDiff,Nat.reduceBEq,Nat.reduceAdd,g5,g7,g8,lrr,q1,hiad,m1,hly]
    rw [e,Bool.false_and]
  ·obtain rfl : i = R.length:=by omega
   have q1 : decide ((R.length : Int) < R.length) = false:=decide_eq_false (by omega)
   rw [List.take_length] at hj
   simp (maxSteps:=2000000) (disch:=first | omega | assumption | (simp only [DS,Nat.reduceAdd, *]; done) | (simp only [DZ]; omega)) only [RUN,RU,zA2,zA1,zA0,zA5,frzL,slot,reduceIte,Nat.reduceEqDiff,g4,g5,g7,g8,lrr,m0,m1,hle]
   rw [hj,Bool.true_and]
def zD0 (l : List Op) : List El:=l.flatMap fun o=>if o.kd = 1 then o.rn.elB else []
theorem zOK (l : List Op) (o : Op) : zD0 (l ++ [o]) = zD0 l ++ (if o.kd = 1 then o.rn.elB else []):=by simp [zD0]
theorem zTO (r : Rn) : r.elB.map (·.id) = r.sp.ids:=by simp [Rn.elB,Spn.ids,Function.comp_def]
theorem zLL (l : List Op) : (zD0 l).map (·.id) = zAT l:=by
 induction l with
 | nil=>rfl
 | cons o l ih =>
  have e1 : zD0 (o :: l) = (if o.kd = 1 then o.rn.elB else []) ++ zD0 l:=by simp [zD0]
  have e2 : zAT (o :: l) = (if o.kd = 1 then o.sp.ids else []) ++ zAT l:=by simp [zAT]
  rw [e1,e2,List.map_append,ih]
  split
  ·rw [zTO]; rfl
  ·rfl
theorem zRH (l : List Op) : (zD0 l).length = (zAT l).length:=by rw [← zLL,List.length_map]
theorem zM6 (l : List Op) (x : Eid) : decide (0 ≤ whI (zD0 l) x) = decide (x ∈ zAT l):=by
 rw [zVL,← zLL,Bool.eq_iff_iff,List.any_eq_true,decide_eq_true_iff,List.mem_map]
 constructor
 ·rintro ⟨e,he,h⟩; exact ⟨e,he,of_decide_eq_true h⟩
 ·rintro ⟨e,he,h⟩; exact ⟨e,he,decide_eq_true h⟩
theorem zLM {l : List Op} (hr : ∀ o ∈ l,o.kd = 1 → o.rn.may = true) : (zD0 l).length ≤ 64 * l.length:=by
 induction l with
 | nil=>simp [zD0]
 | cons o l ih =>
  have e1 : zD0 (o :: l) = (if o.kd = 1 then o.rn.elB else []) ++ zD0 l:=by simp [zD0]
  have:=ih fun p hp=>hr p (List.mem_cons_of_mem _ hp)
  rw [e1,List.length_append,List.length_cons]
  split
  ·rename_i hk
   have hb:=Spn.may_le (Rn.spB (hr o List.mem_cons_self hk))
   rw [zE9]
   omega
  ·simp; omega
theorem op_rn {o : Op} (h : o.ok) : o.rn.ok:=⟨h.2.2.2.1,h.2.2.2.2.1,h.2.2.2.2.2.2⟩
set_option maxHeartbeats 8000000 in
theorem zKJ (hS : Sl 17 isOp a l) (hr : ∀ o ∈ l,o.kd = 1 → o.rn.may = true) (hl : l.length ≤ 40000) (hf : l.length + 300 < fuel) : ∃ r,Sl 9 isEl r (zD0 l) ∧ ∀ M,zAC Tryz.prog (fsT tbl) fuel (d + 4) (.fn 68) [a] M = some (r,M):=by
 have ll:=hS.len
 refine zDI tf68 rfl (fun M=>by simp only [icyL,fun M=>hS.icy M 12 (by omega)]) ?_
 refine zAH tf68 rfl (by simp only [icyL,fun M=>hS.icy M 12 (by omega)]) (by simp [a68]) fun b' ht hx=>?_
 have h0:=hx 0 _ rfl
 clear hx
 simp only [a68,c68,zz0,zz1,zzm] at ht ⊢
 simp (maxSteps:=2000000) (disch:=first | omega | assumption | (simp only [DS,Nat.reduceAdd, *]; done) | (simp only [DZ]; omega)) only [RUN,RU,zA2,zA1]
 refine zB1 (I:=fun n t N => ∃ (i : Nat) (o : AV),n = l.length - i ∧ i ≤ l.length ∧ nth zA4 t 0 = a ∧ nth zA4 t 3 = o ∧ nth zA4 t 4 = I64 i ∧ Wf N ∧ SlM N 9 isEl o (zD0 (l.take i))) (n:=l.length) (by omega) ?_ ?_
 ·refine ⟨0,NIL,rfl,Nat.zero_le _, ?_, ?_, ?_,Wf.mem0,SlM.nil⟩ <;> simp (maxSteps:=2000000) (disch:=first | omega | assumption | (simp only [DS,Nat.reduceAdd, *]; done) | (simp only [DZ]; omega)) only [RUN,reduceIte,Nat.reduceEqDiff,h0]
  all_goals first | rfl | assumption | done
 ·rintro n t N hlt ⟨i,o,rfl,hi,g0,g3,g4,w,sm⟩
  simp only [ht] at hlt ⊢
  have oo:=sm.one
  have co:=sm.cells
  by_cases hc : i < l.length
  ·have q1 : decide ((i : Int) < l.length) = true:=decide_eq_true (by omega)
   have w1 : IntKind.i64.wrap ((i : Int) + 1) = ((i + 1 : Nat) : Int):=by rw [wrap_i64] <;> omega
   obtain ⟨r,hiad,hri,_⟩:=hS.iad i hc
   have hsn:=zOK (l.take i) l[i]
   rw [← take_snoc l i hc] at hsn
   have hmi:=hr l[i] (List.getElem_mem hc)
   have hlen:=zLM (l:=l.take i) fun o ho=>hr o (List.mem_of_mem_take ho)
   rw [List.length_take] at hlen
   generalize l[i] = e at *
   obtain ⟨ra,rfl,hra,hok⟩:=hri
   have ora:=hra.one
   by_cases hk : e.kd = 1
   ·have hk':=decide_eq_true hk
    rw [if_pos hk] at hsn
    have hrm:=hmi hk
    have hb:=Spn.may_le (Rn.spB hrm)
    have h64 : e.rn.sp.n.toNat ≤ 64:=by omega
    simp (maxSteps:=2000000) (disch:=first | omega | assumption | (simp only [DS,Nat.reduceAdd, *]; done) | (simp only [DZ]; omega)) only [RUN,RU,zA2,zA1,slot,lay,zAJ,zAD,reduceIte,Nat.reduceEqDiff,Nat.reduceBEq,Nat.reduceAdd,g0,g3,g4,ll,q1,hiad,hra.fz.cells,hk']
    have wX : Wf (((N.add (.row false (rnR ⟨⟨Eid.z,0⟩,Eid.z,[]⟩ NIL))).upd N.size (.row false (rnR e.rn ra))).add (.row false (rnR e.rn ra))):=((w.add _).upd _ _).add _
    have hsm : SlM (((N.add (.row false (rnR ⟨⟨Eid.z,0⟩,Eid.z,[]⟩ NIL))).upd N.size (.row false (rnR e.rn ra))).add (.row false (rnR e.rn ra))) 10 isRn (.sl (N.size + 1) 0 1 (some 1) 10) [e.rn]:=zPF (rows:=[rnR e.rn ra]) (.cons ⟨ra,rfl,hra,op_rn hok⟩ .nil) (by simp) rfl (.inr rfl) (by rw [zAG ((w.add _).upd _ _) _ _ (by simp only [zAE,zA8]; omega) (by simp only [zAE,zA8]; omega)]; rfl)
    refine SlR.hand (n:=d + 2) (rest:=[]) (R:=fun r=>Sl 9 isEl r e.rn.elB) tf88 rfl (SlR.of hsm) wX fz_Rn (fun _=>rfl) (fun o' ho'=>?_) fun r N2 hrr w2 s2 n2 k2=>?_
    ·obtain ⟨r,h1,h2⟩:=zMP (fuel:=fuel) (d:=d) ho' (fun r hr=>by rw [List.mem_singleton] at hr; rw [hr]; exact hrm) (by simp) (by simp; omega)
     exact ⟨r,by simpa [elsB] using h1,h2⟩
    ·have sm2 : SlM N2 9 isEl o (zD0 (l.take i)):=sm.keep fun j hj=>by
      have hlj:=sm.lt j hj
      rw [k2 j (by simp only [rowOf]; intro h; cases h; omega),zAF ((w.add _).upd _ _) _ _ (by simp only [zAE,zA8]; omega),zAA (w.add _) _ _ _ (by omega),zAF w _ _ hlj]
     have rl2:=zBE sm2.rl (Nat.le_refl N2.size)
     simp (maxSteps:=2000000) (disch:=first | omega | assumption | (simp only [DS,Nat.reduceAdd, *]; done) | (simp only [DZ]; omega)) only [RUN,RU,zA2,zA1,reduceIte,Nat.reduceEqDiff,rl2,hrr.fz.rows]
     refine zHQ (bytes:=56) w2 sm2 zQV.cel hrr (by omega) (by rw [zE9]; omega) (by rw [zE9]; omega) fun o' M' m' w' le' sz' kp' nw' wm' rl' on' oc'=>?_
     simp (maxSteps:=2000000) (disch:=first | omega | assumption | (simp only [DS,Nat.reduceAdd, *]; done) | (simp only [DZ]; omega)) only [RUN,RU,zA2,zA1,reduceIte,Nat.reduceEqDiff,g0,g3,g4,w',w1]
     exact ⟨hlt,l.length - (i + 1),by omega,i + 1,o',rfl,by omega,rfl,rfl,by rw [hsn]; exact m'⟩
   ·have hk':=decide_eq_false hk
    rw [if_neg hk,List.append_nil] at hsn
    simp (maxSteps:=2000000) (disch:=first | omega | assumption | (simp only [DS,Nat.reduceAdd, *]; done) | (simp only [DZ]; omega)) only [RUN,RU,zA2,zA1,reduceIte,Nat.reduceEqDiff,g0,g3,g4,ll,q1,hiad,hk',w1]
    exact ⟨hlt,l.length - (i + 1),by omega,i + 1,o,rfl,by omega,rfl,rfl,w,by rw [hsn]; exact sm⟩
  ·obtain rfl : i = l.length:=by omega
   have q1 : decide ((l.length : Int) < l.length) = false:=decide_eq_false (by omega)
   rw [List.take_length] at sm
   obtain ⟨r,hz,hsr⟩:=sm.frz zQV.cel (k:=12) (by omega)
   simp (maxSteps:=2000000) (disch:=first | omega | assumption | (simp only [DS,Nat.reduceAdd, *]; done) | (simp only [DZ]; omega)) only [RUN,RU,zA2,zA1,zA0,zA5,frzL,reduceIte,Nat.reduceEqDiff,g0,g3,g4,ll,hz]
   exact ⟨r,hsr,rfl⟩
theorem zKK {o : Op} {ae : AV} {E : List El} (hE : Sl 9 isEl ae E) (hx : x.ok) (hv : v.ok) (hl : E.length ≤ 1000000000) (hf : E.length + 100 < fuel) (M : Mem) : zAC Tryz.prog (fsT tbl) fuel (d + 3) (.fn 70) [ae,idA x,lbA v] M = some (BL (decide (0 ≤ whI E x) && x.hd.lb.leq v),M):=by
 have hw:=fun M=>zFQ (fuel:=fuel) (d:=d + 1) hE x hl (by omega) M
 have hle:=fun M=>zD2 (fuel:=fuel) (d:=d) x.hd.lb v hx.1.1 hv (by omega) M
 apply zB6
 refine zAH tf70 rfl (by simp only [icyL,fun M=>hE.icy M 12 (by omega),zAK (zCW x) (show 1 < 12 by omega),zAK (zBA v) (show 1 < 12 by omega)]) (by simp [a70]) fun b' ht hx=>?_
 have h0:=hx 0 _ rfl
 have h1:=hx 1 _ rfl
 have h2:=hx 2 _ rfl
 clear hx
 simp only [a70,c70,zzm] at ht ⊢
 cases q : decide (0 ≤ whI E x) with
 | false=>simp (maxSteps:=2000000) (disch:=first | omega | assumption | (simp only [DS,Nat.reduceAdd, *]; done) | (simp only [DZ]; omega)) only [RUN,RU,zA2,zA1,zA0,zA5,frzL,slot,reduceIte,Nat.reduceEqDiff,Nat.reduceAdd,h0,h1,h2,hw,q,Bool.false_and]
 | true=>simp (maxSteps:=2000000) (disch:=first | omega | assumption | (simp only [DS,Nat.reduceAdd, *]; done) | (simp only [DZ]; omega)) only [RUN,RU,zA2,zA1,zA0,zA5,frzL,slot,reduceIte,Nat.reduceEqDiff,Nat.reduceAdd,h0,h1,h2,hw,q,hle]
set_option maxHeartbeats 8000000 in
theorem zEE (hS : Sl 17 isOp a l) (hv : v.ok) (hl : l.length ≤ 40000) (hf : l.length + 200 < fuel) : ∃ r,Sl 17 isOp r (lowL l v) ∧ ∀ M,zAC Tryz.prog (fsT tbl) fuel (d + 3) (.fn 25) [a,lbA v] M = some (r,M):=by
 have ll:=hS.len
 refine zDI tf25 rfl (fun M=>by simp only [icyL,fun M=>hS.icy M 12 (by omega),zAK (zBA v) (show 1 < 12 by omega)]) ?_
 refine zAH tf25 rfl (by simp only [icyL,fun M=>hS.icy M 12 (by omega),zAK (zBA v) (show 1 < 12 by omega)]) (by simp [a25]) fun b' ht hx=>?_
 have h0:=hx 0 _ rfl
 have h1:=hx 1 _ rfl
 clear hx
 simp only [a25,c25,zz4,zzm] at ht ⊢
 simp (maxSteps:=2000000) (disch:=first | omega | assumption | (simp only [DS,Nat.reduceAdd, *]; done) | (simp only [DZ]; omega)) only [RUN,RU,zA2,zA1,h1]
 refine zB1 (I:=fun n t N => ∃ (i : Nat) (o : AV),n = l.length - i ∧ i ≤ l.length ∧ nth zA4 t 0 = a ∧ nth zA4 t 3 = .ptr 0 0 ∧ nth zA4 t 5 = o ∧ nth zA4 t 6 = I64 i ∧ Wf N ∧ N.get 0 = some (.row false (lbR v)) ∧ SlM N 17 isOp o (lowL (l.take i) v) ∧ (∀ j,rowOf o = some j → 1 ≤ j)) (n:=l.length) (by omega) ?_ ?_
 ·refine ⟨0,NIL,rfl,Nat.zero_le _, ?_, ?_, ?_, ?_,Wf.mem0.add _,by simp (maxSteps:=2000000) (disch:=first | omega | assumption | (simp only [DS,Nat.reduceAdd, *]; done) | (simp only [DZ]; omega)) only [RUN],SlM.nil,(fun _ h=>by cases h)⟩ <;> simp (maxSteps:=2000000) (disch:=first | omega | assumption | (simp only [DS,Nat.reduceAdd, *]; done) | (simp only [DZ]; omega)) only [RUN,reduceIte,Nat.reduceEqDiff,h0]
  all_goals first | rfl | assumption | done
 ·rintro n t N hlt ⟨i,o,rfl,hi,g0,g3,g5,g6,w,m0,sm,ro⟩
  simp only [ht] at hlt ⊢
  have l0:=Mem.get_lt m0
  have oo:=sm.one
  have co:=sm.cells
  by_cases hc : i < l.length
  ·have q1 : decide ((i : Int) < l.length) = true:=decide_eq_true (by omega)
   have w1 : IntKind.i64.wrap ((i : Int) + 1) = ((i + 1 : Nat) : Int):=by rw [wrap_i64] <;> omega
   obtain ⟨r,hiad,hri,_⟩:=hS.iad i hc
   have hsn:=zLI (l.take i) l[i] v
   rw [← take_snoc l i hc] at hsn
   have hll:=zFB (l.take i) v
   rw [List.length_take] at hll
   generalize l[i] = e at *
   obtain ⟨ra,rfl,hra,hok⟩:=hri
   have ora:=hra.one
   have hle:=fun M=>zD2 (fuel:=fuel) (d:=d) e.hd.lb v hok.2.1.1 hv (by omega) M
   cases q2 : e.hd.lb.leq v with
   | false =>
    rw [q2] at hle
    rw [q2,if_neg (by decide),List.append_nil] at hsn
    simp (maxSteps:=2000000) (disch:=first | omega | assumption | (simp only [DS,Nat.reduceAdd, *]; done) | (simp only [DZ]; omega)) only [RUN,RU,zA2,zA1,slot,reduceIte,Nat.reduceEqDiff,Nat.reduceBEq,Nat.reduceAdd,g0,g3,g5,g6,ll,q1,hiad,m0,hle,w1]
    exact ⟨hlt,l.length - (i + 1),by omega,i + 1,o,rfl,by omega,rfl,rfl,w,by rw [hsn]; exact sm,ro⟩
   | true =>
    rw [q2] at hle
    rw [q2,if_pos rfl] at hsn
    simp (maxSteps:=2000000) (disch:=first | omega | assumption | (simp only [DS,Nat.reduceAdd, *]; done) | (simp only [DZ]; omega)) only [RUN,RU,zA2,zA1,slot,lay,zAJ,zAD,reduceIte,Nat.reduceEqDiff,Nat.reduceBEq,Nat.reduceAdd,g0,g3,g5,g6,ll,q1,hiad,m0,hle]
    refine ⟨zBE sm.rl (by omega), ?_⟩
    refine app1 (bytes:=112) w sm zDH (x:=e) ⟨ra,rfl,hra,hok⟩ rfl (by omega) (by omega) (by omega) fun o' M' m' w' le' kp' nw' wm' rl' on' oc'=>?_
    simp (maxSteps:=2000000) (disch:=first | omega | assumption | (simp only [DS,Nat.reduceAdd, *]; done) | (simp only [DZ]; omega)) only [RUN,RU,zA2,zA1,reduceIte,Nat.reduceEqDiff,g0,g3,g5,g6,w',w1]
    refine ⟨hlt,l.length - (i + 1),by omega,i + 1,o',rfl,by omega,rfl,rfl, ?_,by rw [hsn]; exact m',fun j hj=>?_⟩
    ·rw [kp' 0 l0 (fun h=>by have:=ro 0 h; omega)]; exact m0
    ·rcases nw' j hj with h | h
     ·exact ro j h
     ·omega
  ·obtain rfl : i = l.length:=by omega
   have q1 : decide ((l.length : Int) < l.length) = false:=decide_eq_false (by omega)
   rw [List.take_length] at sm
   obtain ⟨r,hz,hsr⟩:=sm.frz zDH.cel (k:=12) (by omega)
   simp (maxSteps:=2000000) (disch:=first | omega | assumption | (simp only [DS,Nat.reduceAdd, *]; done) | (simp only [DZ]; omega)) only [RUN,RU,zA2,zA1,zA0,zA5,frzL,reduceIte,Nat.reduceEqDiff,g0,g5,g6,ll,hz]
   exact ⟨r,hsr,rfl⟩
end Go.Proofs.YtkfdflajadkfkaaGreat
namespace Go.Proofs.YtkfdflajadkfkaaGreat
open Go Go.Ax
theorem zUM {l : List Op} {v : Lb} (h : zGJ l v = 0) : zAW [] l = true:=by
 unfold zGJ err at h
 cases hh : zAW [] l <;> simp [hh] at h ⊢
theorem zER : ∀ {pre l : List Op},zAW pre l = true → ∀ o ∈ l,o.may = true
 | _,[],_,_,h=>by cases h
 | pre,o :: l,h,p,hp=>by
  simp only [zAW,Bool.and_eq_true] at h
  rcases List.mem_cons.1 hp with rfl | hp
  ·exact h.1.1
  ·exact zER h.2 p hp
end Go.Proofs.YtkfdflajadkfkaaGreat
namespace Go.Proofs.YtkfdflajadkfkaaGreat
open Go Go.Ax
/-! ### Raises -/
/-! ### A history is right -/
theorem zTT {pre : List Op} {o : Op} (h : fitE pre o = 0) : pre.length < 2048:=by
 unfold fitE at h
 split at h
 ·split at h
  ·cases h
  ·omega
 ·rename_i h1; exact absurd h h1
theorem zL5 {pre : List Op} {o : Op} (h : fitE pre o = 0) : zES pre o = 0:=by
 unfold fitE at h
 split at h
 ·assumption
 ·exact h
theorem zNT {pre : List Op} {o : Op} (hm : o.may = true) (h : fitE pre o = 0) : zBS pre o = true:=by
 by_cases hk : o.kd = 3
 ·have h1:=zL5 h
  unfold zES at h1
  rw [if_neg (by omega),if_neg (by omega)] at h1
  unfold raiE at h1
  split at h1
  ·split at h1
   ·rename_i h2
    have:=h2.2
    unfold chfB at this
    simp only [Bool.and_eq_true] at this
    exact this.2
   ·cases h1
  ·cases h1
 ·unfold zBS
  rw [if_neg hk]
theorem zHE : ∀ {pre l : List Op},zAW pre l = true → zFS pre l = true
 | _,[],_=>rfl
 | pre,o :: l,h=>by
  simp only [zAW,Bool.and_eq_true,decide_eq_true_eq] at h
  simp only [zFS,Bool.and_eq_true]
  exact ⟨⟨h.1.1,zNT h.1.1 h.1.2⟩,zHE h.2⟩
theorem zLC : ∀ {pre l : List Op},zAW pre l = true → l ≠ [] → pre.length + l.length ≤ 2048
 | _,[],_,h=>absurd rfl h
 | pre,[o],h,_=>by
  simp only [zAW,Bool.and_eq_true,decide_eq_true_eq] at h
  have:=zTT h.1.2
  simp only [List.length_singleton]
  omega
 | pre,o :: p :: l,h,_=>by
  simp only [zAW,Bool.and_eq_true] at h
  have:=zLC (pre:=pre ++ [o]) (l:=p :: l) (by simp only [zAW,Bool.and_eq_true]; exact h.2) (by simp)
  simp only [List.length_append,List.length_cons,List.length_nil] at this ⊢
  omega
theorem zHD {l : List Op} (h : zAW [] l = true) : zDD l = 0:=by
 have h1 : ¬2048 < l.length:=by
  by_cases e : l = []
  ·subst e; simp
  ·have:=zLC h e
   simp only [List.length_nil] at this
   omega
 unfold zDD
 rw [if_neg h1,zHE h]
 rfl
end Go.Proofs.YtkfdflajadkfkaaGreat
namespace Go.Proofs.YtkfdflajadkfkaaGreat
open Go Go.Ax
variable {fuel : Nat} {M : Mem} {Q : AV → Mem → Prop} {d : Nat} {l : List Op} {a : AV} {x : Eid} {v : Lb}
theorem zT7 {o : Op} (hm : o.may = true) (hk : o.kd = 1) : rofE o = 0 ↔ o.rn.may = true:=by
 unfold rofE
 rw [if_pos hm]
 by_cases h : o.rn.may = true
 ·rw [if_pos ⟨hk,h⟩]; simp [h]
 ·rw [if_neg (fun k=>h k.2)]; simp [h]
theorem zO2 : ∀ {pre l : List Op},zAW pre l = true → ∀ o ∈ l,o.kd = 1 → o.rn.may = true
 | _,[],_,o,ho,_=>absurd ho (by simp)
 | pre,p :: l,h,o,ho,hk=>by
  simp only [zAW,Bool.and_eq_true,decide_eq_true_eq] at h
  rcases List.mem_cons.1 ho with rfl | ho
  ·have h0:=zL5 h.1.2
   unfold zES at h0
   rw [if_pos hk] at h0
   unfold insE at h0
   split at h0
   ·cases h0
   ·split at h0
    ·cases h0
    ·rename_i h2
     exact (zT7 h.1.1 hk).1 (Classical.byContradiction fun hne=>h2 (.inl hne))
  ·exact zO2 h.2 o ho hk
theorem zV8 (l : List Op) (o : Op) (x : Eid) : (decide (0 ≤ whI (zD0 l) x) && x.hd.lb.leq o.hd.lb) = zE0 l o x:=by unfold zE0; rw [zM6]
theorem zXY {o : Op} (hh : zAW [] l = true) (hm : o.may = true) : raiE l o = if allB l o then (if zBS l o then 0 else 2) else 6:=by
 have hc:=zHD hh
 have h1 : chfE l o = 0:=by unfold chfE; rw [if_pos hc,hm]; rfl
 unfold raiE chfB
 rw [h1]
 simp
set_option maxHeartbeats 16000000 in
theorem zJB {o : Op} {ra : AV} (hS : Sl 17 isOp a l) (hR : Sl 1 zAS ra o.rs) (ho : o.ok) (hh : zAW [] l = true) (hom : o.may = true) (hl : l.length ≤ 10000) (hf : 64 * l.length + 2000 < fuel) (M : Mem) : zAC Tryz.prog (fsT tbl) fuel (d + 6) (.fn 39) [a,.agg (opR o ra)] M = some (I64 (fitE l o),M):=by
 have ll:=hS.len
 have ora:=hR.one
 have hsm:=zCP hom
 have hb:=Spn.may_le hsm
 have hrnm:=zO2 hh
 obtain ⟨ro,hro,hon⟩:=zKJ (fuel:=fuel) (d:=d + 1) hS hrnm (by omega) (by omega)
 obtain ⟨rn,hrn,hall⟩:=zJC (fuel:=fuel) (d:=d + 4) ho.2.2.2.1 hsm (by omega)
 have lro:=hro.len
 have lrn:=hrn.len
 have hom1:=zLM hrnm
 have hil : (o.sp.ids.length : Int) = o.sp.n:=by unfold Spn.ids; rw [List.length_map,List.length_range]; omega
 have hiok : ∀ y ∈ o.sp.ids,y.ok:=fun y hy=>by
  unfold Spn.ids at hy
  obtain ⟨i,hi,rfl⟩:=List.mem_map.1 hy
  exact zIY ho.2.2.2.1 hsm i (List.mem_range.1 hi)
 have hse:=fun y hy M=>zKK (fuel:=fuel) (d:=d + 2) (x:=y) (v:=o.hd.lb) (o:=o) hro hy ho.2.1.1 (by omega) (by omega) M
 simp only [zV8 l o] at hse
 have hwh:=fun y M=>zFQ (fuel:=fuel) (d:=d + 4) hro y (by omega) (by omega) M
 have hri:=fun M=>zJA (fuel:=fuel) (d:=d) hS hR ho (zER hh) hom (by omega) (by omega) M
 have e2048 : ∀ b : Bool,(2048 ≤ (l.length : Int) ↔ b = true) → (if 2048 ≤ l.length then (4 : Int) else 0) = if b = true then 4 else 0:=fun b h=>by
  by_cases q : 2048 ≤ l.length
  ·rw [if_pos q,if_pos (h.1 (by omega))]
  ·rw [if_neg q,if_neg (fun k=>q (by have:=h.2 k; omega))]
 apply zB6
 refine zAH tf39 rfl (by simp only [icyL,fun M=>hS.icy M 12 (by omega),zBW hR.fz]) (by simp [a39]) fun b' ht hx=>?_
 have h0:=hx 0 _ rfl
 have h1:=hx 1 _ rfl
 clear hx
 simp only [a39,c39,zz0,zz2,zzm,zzg] at ht ⊢
 unfold fitE zES
 by_cases hk : o.kd = 1
 ·have k1:=decide_eq_true hk
  have k2 : decide (o.kd = 2) = false:=decide_eq_false (by omega)
  have k3 : decide (o.kd = 3) = false:=decide_eq_false (by omega)
  rw [if_pos hk]
  have hsa:=fun M=>hse o.af ho.2.2.2.2.1 M
  have h16 : ∀ M,zAC Tryz.prog (fsT tbl) fuel (d + 5) (.fn 71) [.agg [U8 o.sp.f.hd.lb.lv,U32 o.sp.f.hd.lb.cats,U8 o.sp.f.hd.num,I64 o.sp.f.c,I64 o.sp.n,U8 o.af.hd.lb.lv,U32 o.af.hd.lb.cats,U8 o.af.hd.num,I64 o.af.c,ra]] M = some (BL o.rn.may,M):=fun M=>zMO (fuel:=fuel) (d:=d) (o:=o.rn) hR ho.2.2.2.2.2.2 (by omega) M
  have hro1:=zT7 hom hk
  unfold insE
  by_cases z : o.af ≠ Eid.z ∧ zE0 l o o.af = false
  ·rw [if_pos z]
   have z1 : decide (o.af = Eid.z) = false:=decide_eq_false z.1
   rw [z.2] at hsa
   simp (maxSteps:=2000000) (disch:=first | omega | assumption | (simp only [DS,Nat.reduceAdd, *]; done) | (simp only [DZ]; omega)) only [RUN,RU,zA2,zA1,zA0,zA5,frzL,slot,zAJ,reduceIte,Nat.reduceEqDiff,Int.reduceEq,h0,h1,hon,hall,k1,↓pIdN,zCL,ETA,z1,hsa]
   all_goals rfl
  ·rw [if_neg z]
   have zz : decide (o.af = Eid.z) = true ∨ (decide (o.af = Eid.z) = false ∧ zE0 l o o.af = true):=by
    by_cases z1 : o.af = Eid.z
    ·exact .inl (decide_eq_true z1)
    ·refine .inr ⟨decide_eq_false z1, ?_⟩
     cases h : zE0 l o o.af with
     | true=>rfl
     | false=>exact absurd ⟨z1,h⟩ z
   by_cases hr1 : o.rn.may = true
   ·rw [hr1] at h16
    have hro0:=hro1.2 hr1
    have st1 : True:=trivial
    generalize hI : o.sp.ids = I at *
    rcases zz with z1 | ⟨z1,z2⟩
    all_goals (try rw [z2] at hsa)
    all_goals simp (maxSteps:=2000000) (disch:=first | omega | assumption | (simp only [DS,Nat.reduceAdd, *]; done) | (simp only [DZ]; omega)) only [RUN,RU,zA2,zA1,slot,lay,zAJ,reduceIte,Nat.reduceEqDiff,Nat.reduceBEq,Nat.reduceAdd,h0,h1,hR.fz.cells,hon,hall,k1,↓pIdN,zCL,ETA,z1,hsa,h16]
    all_goals
     refine zB1 (I:=fun n t N => ∃ (i : Nat),n = I.length - i ∧ i ≤ I.length ∧ nth zA4 t 0 = a ∧ nth zA4 t 3 = .ptr 0 0 ∧ nth zA4 t 5 = ro ∧ nth zA4 t 6 = rn ∧ nth zA4 t 7 = I64 i ∧ Wf N ∧ N.get 0 = some (.row false (opR o ra)) ∧ (I.take i).any (fun x=>decide (x ∈ zAT l)) = false) (n:=I.length) (by omega) ?_ ?_
     ·refine ⟨0,rfl,Nat.zero_le _, ?_, ?_, ?_, ?_, ?_,Wf.mem0.add _,by simp (maxSteps:=2000000) (disch:=first | omega | assumption | (simp only [DS,Nat.reduceAdd, *]; done) | (simp only [DZ]; omega)) only [RUN],rfl⟩ <;> simp (maxSteps:=2000000) (disch:=first | omega | assumption | (simp only [DS,Nat.reduceAdd, *]; done) | (simp only [DZ]; omega)) only [RUN,reduceIte,Nat.reduceEqDiff,h0]
      all_goals first | rfl | assumption | done
     ·rintro n t N hlt ⟨i,rfl,hi,g0,g3,g5,g6,g7,w,g,hj⟩
      simp only [ht] at hlt ⊢
      have lg:=Mem.get_lt g
      by_cases hc : i < I.length
      ·have q1 : decide ((i : Int) < I.length) = true:=decide_eq_true (by omega)
       have w1 : IntKind.i64.wrap ((i : Int) + 1) = ((i + 1 : Nat) : Int):=by rw [wrap_i64] <;> omega
       obtain ⟨r,hiad,⟨hr1,_⟩,_⟩:=hrn.iad i hc
       subst hr1
       have hsn:=take_snoc I i hc
       have hmem:=List.getElem_mem hc
       generalize I[i] = y at *
       have hw0:=zM6 l y
       have hwy:=fun M=>hwh y M
       cases q2 : decide (0 ≤ whI (zD0 l) y) with
       | true =>
        rw [q2] at hw0
        have e : (I.any fun x=>decide (x ∈ zAT l)) = true:=List.any_eq_true.2 ⟨y,hmem,hw0.symm⟩
        simp (maxSteps:=2000000) (disch:=first | omega | assumption | (simp only [DS,Nat.reduceAdd, *]; done) | (simp only [DZ]; omega)) only [RUN,RU,zA2,zA1,zA0,zA5,frzL,slot,reduceIte,Nat.reduceEqDiff,g5,g6,g7,lrn,q1,hiad,hwy,q2]
        rw [if_pos (Or.inr e)]
        rfl
       | false =>
        rw [q2] at hw0
        simp (maxSteps:=2000000) (disch:=first | omega | assumption | (simp only [DS,Nat.reduceAdd, *]; done) | (simp only [DZ]; omega)) only [RUN,RU,zA2,zA1,slot,reduceIte,Nat.reduceEqDiff,g0,g3,g5,g6,g7,lrn,q1,hiad,hwy,q2,w1]
        exact ⟨hlt,I.length - (i + 1),by omega,i + 1,rfl,by omega,rfl,w,g,by rw [hsn,List.any_append,hj]; simp [← hw0]⟩
      ·obtain rfl : i = I.length:=by omega
       have q1 : decide ((I.length : Int) < I.length) = false:=decide_eq_false (by omega)
       rw [List.take_length] at hj
       rw [if_neg (show ¬(rofE o ≠ 0 ∨ (I.any fun x=>decide (x ∈ zAT l)) = true) from fun h=>h.elim (fun h=>h hro0) (fun h=>by rw [hj] at h; cases h))]
       have hlo:=zRH l
       have w2 : IntKind.i64.wrap (((zD0 l).length : Int) + I.length) = ((zAT l).length : Int) + o.sp.n:=by rw [hlo,hil,wrap_i64] <;> omega
       by_cases q3 : 8192 < ((zAT l).length : Int) + o.sp.n
       ·have q3':=decide_eq_true q3
        rw [if_pos q3]
        simp (maxSteps:=2000000) (disch:=first | omega | assumption | (simp only [DS,Nat.reduceAdd, *]; done) | (simp only [DZ]; omega)) only [RUN,RU,zA2,zA1,zA0,zA5,frzL,reduceIte,Nat.reduceEqDiff,Int.reduceEq,g5,g6,g7,lrn,lro,w2,q3']
        all_goals rfl
       ·have q3':=decide_eq_false q3
        rw [if_neg q3]
        simp (maxSteps:=2000000) (disch:=first | omega | assumption | (simp only [DS,Nat.reduceAdd, *]; done) | (simp only [DZ]; omega)) only [RUN,RU,zA2,zA1,reduceIte,Nat.reduceEqDiff,g5,g6,g7,lrn,lro,w2,q3']
        refine w_un (by omega) ?_
        have q4 : decide ((0 : Int) < I.length) = true:=decide_eq_true (by omega)
        by_cases q5 : 2048 ≤ l.length
        ·have q5' : decide ((2048 : Int) ≤ l.length) = true:=decide_eq_true (by omega)
         simp (maxSteps:=2000000) (disch:=first | omega | assumption | (simp only [DS,Nat.reduceAdd, *]; done) | (simp only [DZ]; omega)) only [RUN,RU,zA2,zA1,zA0,zA5,frzL,reduceIte,Nat.reduceEqDiff,g0,g3,g6,lrn,q4,g,k1,k2,k3,ll,q5',zGC]
         rw [if_pos q5]
        ·have q5' : decide ((2048 : Int) ≤ l.length) = false:=decide_eq_false (by omega)
         simp (maxSteps:=2000000) (disch:=first | omega | assumption | (simp only [DS,Nat.reduceAdd, *]; done) | (simp only [DZ]; omega)) only [RUN,RU,zA2,zA1,zA0,zA5,frzL,reduceIte,Nat.reduceEqDiff,g0,g3,g6,lrn,q4,g,k1,k2,k3,ll,q5',zGC]
         rw [if_neg q5]
   ·have hr2 : o.rn.may = false:=by cases h : o.rn.may with
     | true=>exact absurd h hr1
     | false=>rfl
    rw [hr2] at h16
    rw [if_pos (show rofE o ≠ 0 ∨ _ from .inl fun h=>hr1 (hro1.1 h))]
    rcases zz with z1 | ⟨z1,z2⟩
    all_goals (try rw [z2] at hsa)
    all_goals simp (maxSteps:=2000000) (disch:=first | omega | assumption | (simp only [DS,Nat.reduceAdd, *]; done) | (simp only [DZ]; omega)) only [RUN,RU,zA2,zA1,zA0,zA5,frzL,slot,lay,zAJ,reduceIte,Nat.reduceEqDiff,Nat.reduceBEq,Nat.reduceAdd,Int.reduceEq,h0,h1,hR.fz.cells,hon,hall,k1,↓pIdN,zCL,ETA,z1,hsa,h16]
    all_goals rfl
 ·have k1:=decide_eq_false hk
  rw [if_neg hk]
  have hk23:=(zT3 hom ho).resolve_left hk
  have eK : (if o.kd = 2 then remE l o else raiE l o) = if allB l o then (if (o.kd = 2 ∧ o.sp.f.hd.lb ≠ o.hd.lb) ∨ (o.kd = 3 ∧ zBS l o = false) then 2 else 0) else 6:=by
   rcases hk23 with h2 | h3
   ·rw [if_pos h2]
    unfold remE
    by_cases q : o.sp.f.hd.lb = o.hd.lb
    ·rw [if_pos q,if_neg (c:=_ ∨ _) (fun h=>h.elim (fun h=>h.2 q) (fun h=>by omega))]
    ·rw [if_neg q,if_pos (c:=_ ∨ _) (.inl ⟨h2,q⟩)]
   ·rw [if_neg (by omega),zXY hh hom]
    cases hri' : zBS l o with
    | true=>rw [if_pos rfl,if_neg (c:=_ ∨ _) (fun h=>h.elim (fun h=>by omega) (fun h=>by cases h.2))]
    | false =>
     rw [if_pos (c:=_ ∨ _) (.inr ⟨h3,rfl⟩)]
     simp
  rw [eK]
  unfold allB
  generalize hI : o.sp.ids = I at *
  simp (maxSteps:=2000000) (disch:=first | omega | assumption | (simp only [DS,Nat.reduceAdd, *]; done) | (simp only [DZ]; omega)) only [RUN,RU,zA2,zA1,slot,reduceIte,Nat.reduceEqDiff,h0,h1,hon,hall,k1]
  refine zB1 (I:=fun n t N => ∃ (i : Nat),n = I.length - i ∧ i ≤ I.length ∧ nth zA4 t 0 = a ∧ nth zA4 t 3 = .ptr 0 0 ∧ nth zA4 t 5 = ro ∧ nth zA4 t 6 = rn ∧ nth zA4 t 8 = I64 i ∧ Wf N ∧ N.get 0 = some (.row false (opR o ra)) ∧ (I.take i).all (fun x=>zE0 l o x) = true) (n:=I.length) (by omega) ?_ ?_
  ·refine ⟨0,rfl,Nat.zero_le _, ?_, ?_, ?_, ?_, ?_,Wf.mem0.add _,by simp (maxSteps:=2000000) (disch:=first | omega | assumption | (simp only [DS,Nat.reduceAdd, *]; done) | (simp only [DZ]; omega)) only [RUN],rfl⟩ <;> simp (maxSteps:=2000000) (disch:=first | omega | assumption | (simp only [DS,Nat.reduceAdd, *]; done) | (simp only [DZ]; omega)) only [RUN,reduceIte,Nat.reduceEqDiff,h0]
   all_goals first | rfl | assumption | done
  ·rintro n t N hlt ⟨i,rfl,hi,g0,g3,g5,g6,g8,w,g,hj⟩
   simp only [ht] at hlt ⊢
   have lg:=Mem.get_lt g
   by_cases hc : i < I.length
   ·have q1 : decide ((i : Int) < I.length) = true:=decide_eq_true (by omega)
    have w1 : IntKind.i64.wrap ((i : Int) + 1) = ((i + 1 : Nat) : Int):=by rw [wrap_i64] <;> omega
    obtain ⟨r,hiad,⟨hr1,_⟩,_⟩:=hrn.iad i hc
    subst hr1
    have hsn:=take_snoc I i hc
    have hmem:=List.getElem_mem hc
    generalize I[i] = y at *
    have hsy:=fun M=>hse y (hiok y hmem) M
    cases q2 : zE0 l o y with
    | true =>
     rw [q2] at hsy
     simp (maxSteps:=2000000) (disch:=first | omega | assumption | (simp only [DS,Nat.reduceAdd, *]; done) | (simp only [DZ]; omega)) only [RUN,RU,zA2,zA1,slot,reduceIte,Nat.reduceEqDiff,Nat.reduceBEq,Nat.reduceAdd,g0,g3,g5,g6,g8,lrn,q1,g,k1,hiad,hsy,w1]
     exact ⟨hlt,I.length - (i + 1),by omega,i + 1,rfl,by omega,rfl,w,by rw [hsn,List.all_append,hj]; simp [q2]⟩
    | false =>
     rw [q2] at hsy
     have e : (I.all fun x=>zE0 l o x) = false:=by
      rw [List.all_eq_false]
      exact ⟨y,hmem,by rw [q2]; decide⟩
     simp (maxSteps:=2000000) (disch:=first | omega | assumption | (simp only [DS,Nat.reduceAdd, *]; done) | (simp only [DZ]; omega)) only [RUN,RU,zA2,zA1,zA0,zA5,frzL,slot,reduceIte,Nat.reduceEqDiff,Nat.reduceBEq,Nat.reduceAdd,g3,g5,g6,g8,lrn,q1,g,k1,hiad,hsy]
     rw [e]
     rfl
   ·obtain rfl : i = I.length:=by omega
    have q1 : decide ((I.length : Int) < I.length) = false:=decide_eq_false (by omega)
    rw [List.take_length] at hj
    rw [hj,if_pos rfl]
    by_cases q5 : 2048 ≤ l.length
    ·have q5' : decide ((2048 : Int) ≤ l.length) = true:=decide_eq_true (by omega)
     rcases hk23 with h2 | h3
     ·have k2:=decide_eq_true h2
      have k3 : decide (o.kd = 3) = false:=decide_eq_false (by omega)
      cases q6 : decide (o.sp.f.hd.lb = o.hd.lb) with
      | true =>
       rw [if_neg (c:=_ ∨ _) (fun h=>h.elim (fun h=>h.2 (of_decide_eq_true q6)) (fun h=>by omega)),if_pos rfl,if_pos q5]
       simp (maxSteps:=2000000) (disch:=first | omega | assumption | (simp only [DS,Nat.reduceAdd, *]; done) | (simp only [DZ]; omega)) only [RUN,RU,zA2,zA1,zA0,zA5,frzL,slot,reduceIte,Nat.reduceEqDiff,g0,g3,g6,g8,lrn,g,k2,k3,↓pLbN,zD1,ETA,q6,ll,q5']
      | false =>
       rw [if_pos (c:=_ ∨ _) (.inl ⟨h2,of_decide_eq_false q6⟩)]
       simp (maxSteps:=2000000) (disch:=first | omega | assumption | (simp only [DS,Nat.reduceAdd, *]; done) | (simp only [DZ]; omega)) only [RUN,RU,zA2,zA1,zA0,zA5,frzL,slot,reduceIte,Nat.reduceEqDiff,Int.reduceEq,g3,g6,g8,lrn,g,k2,↓pLbN,zD1,ETA,q6]
       all_goals rfl
     ·have k2 : decide (o.kd = 2) = false:=decide_eq_false (by omega)
      have k3:=decide_eq_true h3
      cases q6 : zBS l o with
      | true =>
       rw [q6] at hri
       rw [if_neg (c:=_ ∨ _) (fun h=>h.elim (fun h=>by omega) (fun h=>by cases h.2)),if_pos rfl,if_pos q5]
       simp (maxSteps:=2000000) (disch:=first | omega | assumption | (simp only [DS,Nat.reduceAdd, *]; done) | (simp only [DZ]; omega)) only [RUN,RU,zA2,zA1,zA0,zA5,frzL,slot,reduceIte,Nat.reduceEqDiff,g0,g3,g6,g8,lrn,g,k2,k3,hri,ll,q5']
      | false =>
       rw [q6] at hri
       rw [if_pos (c:=_ ∨ _) (.inr ⟨h3,rfl⟩)]
       simp (maxSteps:=2000000) (disch:=first | omega | assumption | (simp only [DS,Nat.reduceAdd, *]; done) | (simp only [DZ]; omega)) only [RUN,RU,zA2,zA1,zA0,zA5,frzL,slot,reduceIte,Nat.reduceEqDiff,Int.reduceEq,g0,g3,g6,g8,lrn,g,k2,k3,hri]
       all_goals rfl
    ·have q5' : decide ((2048 : Int) ≤ l.length) = false:=decide_eq_false (by omega)
     rcases hk23 with h2 | h3
     ·have k2:=decide_eq_true h2
      have k3 : decide (o.kd = 3) = false:=decide_eq_false (by omega)
      cases q6 : decide (o.sp.f.hd.lb = o.hd.lb) with
      | true =>
       rw [if_neg (c:=_ ∨ _) (fun h=>h.elim (fun h=>h.2 (of_decide_eq_true q6)) (fun h=>by omega)),if_pos rfl,if_neg q5]
       simp (maxSteps:=2000000) (disch:=first | omega | assumption | (simp only [DS,Nat.reduceAdd, *]; done) | (simp only [DZ]; omega)) only [RUN,RU,zA2,zA1,zA0,zA5,frzL,slot,reduceIte,Nat.reduceEqDiff,g0,g3,g6,g8,lrn,g,k2,k3,↓pLbN,zD1,ETA,q6,ll,q5']
      | false =>
       rw [if_pos (c:=_ ∨ _) (.inl ⟨h2,of_decide_eq_false q6⟩)]
       simp (maxSteps:=2000000) (disch:=first | omega | assumption | (simp only [DS,Nat.reduceAdd, *]; done) | (simp only [DZ]; omega)) only [RUN,RU,zA2,zA1,zA0,zA5,frzL,slot,reduceIte,Nat.reduceEqDiff,Int.reduceEq,g3,g6,g8,lrn,g,k2,↓pLbN,zD1,ETA,q6]
       all_goals rfl
     ·have k2 : decide (o.kd = 2) = false:=decide_eq_false (by omega)
      have k3:=decide_eq_true h3
      cases q6 : zBS l o with
      | true =>
       rw [q6] at hri
       rw [if_neg (c:=_ ∨ _) (fun h=>h.elim (fun h=>by omega) (fun h=>by cases h.2)),if_pos rfl,if_neg q5]
       simp (maxSteps:=2000000) (disch:=first | omega | assumption | (simp only [DS,Nat.reduceAdd, *]; done) | (simp only [DZ]; omega)) only [RUN,RU,zA2,zA1,zA0,zA5,frzL,slot,reduceIte,Nat.reduceEqDiff,g0,g3,g6,g8,lrn,g,k2,k3,hri,ll,q5']
      | false =>
       rw [q6] at hri
       rw [if_pos (c:=_ ∨ _) (.inr ⟨h3,rfl⟩)]
       simp (maxSteps:=2000000) (disch:=first | omega | assumption | (simp only [DS,Nat.reduceAdd, *]; done) | (simp only [DZ]; omega)) only [RUN,RU,zA2,zA1,zA0,zA5,frzL,slot,reduceIte,Nat.reduceEqDiff,Int.reduceEq,g0,g3,g6,g8,lrn,g,k2,k3,hri]
       all_goals rfl
theorem zMJ (l : List Op) (o : Op) : zAW [] (l ++ [o]) = (zAW [] l && (o.may && decide (fitE l o = 0))):=by
 have key : ∀ (l pre : List Op),zAW pre (l ++ [o]) = (zAW pre l && (o.may && decide (fitE (pre ++ l) o = 0))):=by
  intro l
  induction l with
  | nil=>intro pre; simp [zAW]
  | cons p l ih=>intro pre; simp only [List.cons_append,zAW,ih]; simp [Bool.and_assoc]
 simpa using key l []
theorem zHF : ∀ {pre l m : List Op},zAW pre (l ++ m) = true → zAW pre l = true
 | _,[],_,_=>rfl
 | pre,o :: l,m,h=>by
  simp only [List.cons_append,zAW,Bool.and_eq_true] at h ⊢
  exact ⟨h.1,zHF h.2⟩
set_option maxHeartbeats 8000000 in
theorem zDV (hS : Sl 17 isOp a l) (hl : l.length ≤ 10000) (hf : 64 * l.length + 2000 < fuel) (M : Mem) : zAC Tryz.prog (fsT tbl) fuel (d + 7) (.fn 20) [a] M = some (BL (zAW [] l),M):=by
 have ll:=hS.len
 apply zB6
 refine zAH tf20 rfl (by simp only [icyL,fun M=>hS.icy M 12 (by omega)]) (by simp [a20]) fun b' ht hx=>?_
 have h0:=hx 0 _ rfl
 clear hx
 simp only [a20,c20,zzm] at ht ⊢
 simp (maxSteps:=2000000) (disch:=first | omega | assumption | (simp only [DS,Nat.reduceAdd, *]; done) | (simp only [DZ]; omega)) only [RUN,RU,zA2,zA1]
 refine zB1 (I:=fun n t N => ∃ (i : Nat),n = l.length - i ∧ i ≤ l.length ∧ nth zA4 t 0 = a ∧ nth zA4 t 3 = I64 i ∧ Wf N ∧ zAW [] (l.take i) = true) (n:=l.length) (by omega) ?_ ?_
 ·refine ⟨0,rfl,Nat.zero_le _, ?_, ?_,Wf.mem0,rfl⟩ <;> simp (maxSteps:=2000000) (disch:=first | omega | assumption | (simp only [DS,Nat.reduceAdd, *]; done) | (simp only [DZ]; omega)) only [RUN,reduceIte,Nat.reduceEqDiff,h0]
  all_goals first | rfl | assumption | done
 ·rintro n t N hlt ⟨i,rfl,hi,g0,g3,w,hj⟩
  simp only [ht] at hlt ⊢
  by_cases hc : i < l.length
  ·have q1 : decide ((i : Int) < l.length) = true:=decide_eq_true (by omega)
   have w1 : IntKind.i64.wrap ((i : Int) + 1) = ((i + 1 : Nat) : Int):=by rw [wrap_i64] <;> omega
   obtain ⟨r,hiad,hri,_⟩:=hS.iad i hc
   obtain ⟨at1,hsl,hst⟩:=zY3 hS (j:=i) (by omega)
   have hsn:=zMJ (l.take i) l[i]
   rw [← take_snoc l i hc,hj,Bool.true_and] at hsn
   have hlt1 : (l.take i).length ≤ i:=by rw [List.length_take]; omega
   have hbad : zAW [] (l.take (i + 1)) = false → zAW [] l = false:=fun h=>by
    cases k : zAW [] l with
    | false=>rfl
    | true =>
     have e : l = l.take (i + 1) ++ l.drop (i + 1):=(List.take_append_drop _ _).symm
     rw [e] at k
     rw [zHF k] at h
     cases h
   generalize l[i] = e at *
   obtain ⟨ra,rfl,hra,hok⟩:=hri
   have ora:=hra.one
   have hm9:=fun M=>zJD (fuel:=fuel) (d:=d + 1) hra hok (by omega) M
   cases q2 : e.may with
   | false =>
    rw [q2] at hm9 hsn
    rw [hbad (by rw [hsn,Bool.false_and])]
    simp (maxSteps:=2000000) (disch:=first | omega | assumption | (simp only [DS,Nat.reduceAdd, *]; done) | (simp only [DZ]; omega)) only [RUN,RU,zA2,zA1,zA0,zA5,frzL,slot,reduceIte,Nat.reduceEqDiff,Nat.reduceBEq,Nat.reduceAdd,g0,g3,ll,q1,hiad,hm9]
   | true =>
    have her:=fun M=>zJB (fuel:=fuel) (d:=d) hst hra hok hj q2 (by omega) (by omega) M
    rw [q2] at hm9 hsn
    by_cases q3 : fitE (l.take i) e = 0
    ·have q3':=decide_eq_true q3
     rw [q3',Bool.true_and] at hsn
     simp (maxSteps:=2000000) (disch:=first | omega | assumption | (simp only [DS,Nat.reduceAdd, *]; done) | (simp only [DZ]; omega)) only [RUN,RU,zA2,zA1,slot,reduceIte,Nat.reduceEqDiff,Nat.reduceBEq,Nat.reduceAdd,g0,g3,ll,q1,hiad,hS.fz.rows,hm9,hsl,her,q3',w1]
     exact ⟨hlt,l.length - (i + 1),by omega,i + 1,rfl,by omega,rfl,w,hsn⟩
    ·have q3':=decide_eq_false q3
     rw [q3',Bool.true_and] at hsn
     rw [hbad hsn]
     simp (maxSteps:=2000000) (disch:=first | omega | assumption | (simp only [DS,Nat.reduceAdd, *]; done) | (simp only [DZ]; omega)) only [RUN,RU,zA2,zA1,zA0,zA5,frzL,slot,reduceIte,Nat.reduceEqDiff,Nat.reduceBEq,Nat.reduceAdd,g0,g3,ll,q1,hiad,hS.fz.rows,hm9,hsl,her,q3']
  ·obtain rfl : i = l.length:=by omega
   have q1 : decide ((l.length : Int) < l.length) = false:=decide_eq_false (by omega)
   rw [List.take_length] at hj
   rw [hj]
   simp (maxSteps:=2000000) (disch:=first | omega | assumption | (simp only [DS,Nat.reduceAdd, *]; done) | (simp only [DZ]; omega)) only [RUN,RU,zA2,zA1,zA0,zA5,frzL,reduceIte,Nat.reduceEqDiff,g0,g3,ll]
end Go.Proofs.YtkfdflajadkfkaaGreat
namespace Go.Proofs.YtkfdflajadkfkaaGreat
open Go Go.Ax
variable {fuel : Nat} {M : Mem} {Q : AV → Mem → Prop} {d : Nat} {x : Eid} {l : List Op} {o : Op} {ra ops a : AV} {B id m : Nat} {v : Lb}
def hid1 (l : List Op) (o : Op) (v : Lb) (n : Nat) (c : Int) : Int:=if zF1 l (o.sp.at n) v then c else -1
def zDX (l : List Op) (o : Op) (v : Lb) : List Int:=o.rs.mapIdx fun n c=>hid1 l o v n c
set_option maxHeartbeats 8000000 in
theorem zO1 {rs : List Int} {n bo bl bv : Nat} (hS : Sl 17 isOp a l) (hl : l.length ≤ 40000) (hf : l.length + 200 < fuel) (ho : o.ok) (hc : 0 ≤ o.sp.f.c ∧ o.sp.f.c ≤ 2000000000000) (wf : Wf M) (hn : n < rs.length) (hn2 : n ≤ 100000) (hR : SlM M 1 zAS ra rs) (g1 : M.get bo = some (.row false (opR o ra))) (g2 : M.get bl = some (.row false [a])) (g3 : M.get bv = some (.row false (lbR v)))
  (k : ∀ u N,Wf N → M.size ≤ N.size → (∀ j,j < M.size → rowOf ra ≠ some j → N.get j = M.get j) → SlM N 1 zAS ra (rs.set n (hid1 l o v n (rs.getD n 0))) → N.wm = M.wm → Q u N) :
  W3 (zAC Tryz.prog (fsT tbl) fuel (d + 12) (.fn 37) [I64 n,.ptr bo 0,.ptr bl 0,.ptr bv 0] M) Q:=by
 have l1:=Mem.get_lt g1
 have l2:=Mem.get_lt g2
 have l3:=Mem.get_lt g3
 have oa:=hS.one
 have w1 : IntKind.i64.wrap (o.sp.f.c + n) = o.sp.f.c + n:=wrap_i64 (by omega) (by omega)
 have hx : (o.sp.at n).ok:=⟨ho.2.2.2.1.1.1,by show -9223372036854775808 ≤ o.sp.f.c + n; omega,by show o.sp.f.c + n ≤ _; omega⟩
 have hsh:=fun M=>zPE (fuel:=fuel) (d:=d) (x:=o.sp.at n) (v:=v) hS hl hf hx M
 replace hsh : ∀ M,zAC Tryz.prog (fsT tbl) fuel (d + 11) (.fn 38) [a,.agg [U8 o.sp.f.hd.lb.lv,U32 o.sp.f.hd.lb.cats,U8 o.sp.f.hd.num,I64 (o.sp.f.c + n)],lbA v] M = some (.tup [BL (zF1 l (o.sp.at n) v),I64 (askE l (o.sp.at n) v)],M):=hsh
 obtain ⟨id,cs,hrow,lid,hg,hcs,hiad,hset⟩:=hR.at1 hn
 have hgd : rs.getD n 0 = rs[n]:=by rw [List.getD_eq_getElem?_getD,List.getElem?_eq_getElem hn]; rfl
 rw [hgd] at k
 unfold hid1 at k
 refine zAY tf37 rfl (by simp [a37]) fun b' ht hx=>?_
 have h0:=hx 0 _ rfl
 have h1:=hx 1 _ rfl
 have h2:=hx 2 _ rfl
 have h3:=hx 3 _ rfl
 clear hx
 simp only [a37,c37,zz2,zzm] at ht ⊢
 cases q : zF1 l (o.sp.at n) v with
 | true =>
  rw [q] at hsh k
  rw [if_pos rfl] at k
  simp (maxSteps:=2000000) (disch:=first | omega | assumption | (simp only [DS,Nat.reduceAdd, *]; done) | (simp only [DZ]; omega)) only [RUN,RU,zA2,zA1,zA0,zA5,slot,lay,zAJ,reduceIte,Nat.reduceEqDiff,Nat.reduceBEq,Nat.reduceAdd,h0,h1,h2,h3,g1,g2,g3,w1,hsh]
  rw [List.set_getElem_self] at k
  refine k _ _ ((wf.add _).upd _ _) (by simp only [zAE,zA8]; omega) (fun j hj _=>?_) (hR.keep fun j hj=>?_) rfl
  ·rw [zAA (wf.add _) _ _ _ (by omega),zAF wf _ _ hj]
  ·have:=hR.lt j hj
   rw [zAA (wf.add _) _ _ _ (by omega),zAF wf _ _ this]
 | false =>
  rw [q] at hsh k
  rw [if_neg (by decide)] at k
  simp (maxSteps:=2000000) (disch:=first | omega | assumption | (simp only [DS,Nat.reduceAdd, *]; done) | (simp only [DZ]; omega)) only [RUN,RU,zA2,zA1,zA0,zA5,slot,lay,zAJ,reduceIte,Nat.reduceEqDiff,Nat.reduceBEq,Nat.reduceAdd,h0,h1,h2,h3,g1,g2,g3,w1,hsh,hiad,hg]
  have wA : ∀ p q,Wf ((M.add p).upd M.size q):=fun p q=>(wf.add p).upd _ _
  refine k _ _ ((wA _ _).upd _ _) (by simp only [zAE,zA8]; omega) (fun j hj hne=>?_) (hset (I32 (-1)) (-1) rfl _ ?_) rfl
  ·rw [zAA (wA _ _) _ _ _ (fun e=>hne (by rw [hrow,e])),zAA (wf.add _) _ _ _ (by omega),zAF wf _ _ hj]
  ·exact zAP (wA _ _) _ _ (by simp only [zAE,zA8]; omega)
def curL (l : List Op) (o : Op) (v : Lb) (i : Nat) : List Int:=(zDX l o v).take i ++ o.rs.drop i
theorem zDA (l : List Op) (o : Op) (v : Lb) : (zDX l o v).length = o.rs.length:=by unfold zDX; exact List.length_mapIdx
theorem zG6 (l : List Op) (o : Op) (v : Lb) (i : Nat) (h : i ≤ o.rs.length) : (curL l o v i).length = o.rs.length:=by
 unfold curL
 rw [List.length_append,List.length_take,List.length_drop,zDA]
 omega
theorem zI0 (l : List Op) (o : Op) (v : Lb) (i : Nat) (h : i < o.rs.length) : (curL l o v i).set i (hid1 l o v i ((curL l o v i).getD i 0)) = curL l o v (i + 1):=by
 have hl:=zDA l o v
 have e1 : (curL l o v i).getD i 0 = o.rs[i]:=by
  unfold curL
  rw [List.getD_eq_getElem?_getD,List.getElem?_append_right (by rw [List.length_take]; omega),List.length_take,show i - min i (zDX l o v).length = 0 by omega,List.getElem?_drop,Nat.add_zero,List.getElem?_eq_getElem h]
  rfl
 have e2 : (zDX l o v)[i]'(by omega) = hid1 l o v i o.rs[i]:=by
  unfold zDX
  rw [List.getElem_mapIdx]
 rw [e1,← e2]
 unfold curL
 rw [List.set_append_right _ _ (by rw [List.length_take]; omega),List.length_take,show i - min i (zDX l o v).length = 0 by omega,List.drop_eq_getElem_cons h,List.set_cons_zero,take_snoc _ i (by omega),List.append_assoc]
 rfl
set_option maxHeartbeats 8000000 in
theorem zWM (hS : Sl 17 isOp a l) (hl : l.length ≤ 40000) (hR : Sl 1 zAS ra o.rs) (ho : o.ok) (hc : 0 ≤ o.sp.f.c ∧ o.sp.f.c ≤ 2000000000000) (hrl : o.rs.length ≤ 100000) (hf : l.length + o.rs.length + 300 < fuel) (wf : Wf M) (hw : M.wm ≤ M.size)
  (k : ∀ a' N,Wf N → M.size ≤ N.size → (∀ j,j < M.size → N.get j = M.get j) → SlM N 1 zAS a' (zDX l o v) → (∀ id,rowOf a' = some id → M.size ≤ id) → N.wm = M.wm → Q (.agg (opR o a')) N) :
  W3 (zAC Tryz.prog (fsT tbl) fuel (d + 13) (.fn 19) [a,.agg (opR o ra),lbA v] M) Q:=by
 have oa:=hS.one
 have ora:=hR.one
 have z:=opR ⟨0,Hd.z,0,⟨Eid.z,0⟩,Eid.z,Lb.z,[]⟩ NIL
 have kA:=((((Kept.refl wf).add (.row false [a])).add (.row false (opR o ra))).add (.row false (lbR v))).add (.row false (opR ⟨0,Hd.z,0,⟨Eid.z,0⟩,Eid.z,Lb.z,[]⟩ NIL))
 have wA:=kA.wf
 have sA : ((((M.add (.row false [a])).add (.row false (opR o ra))).add (.row false (lbR v))).add (.row false (opR ⟨0,Hd.z,0,⟨Eid.z,0⟩,Eid.z,Lb.z,[]⟩ NIL))).size = M.size + 4:=rfl
 have y0 : ((((M.add (.row false [a])).add (.row false (opR o ra))).add (.row false (lbR v))).add (.row false (opR ⟨0,Hd.z,0,⟨Eid.z,0⟩,Eid.z,Lb.z,[]⟩ NIL))).get M.size = some (.row false [a]):=by simp (maxSteps:=2000000) (disch:=first | omega | assumption | (simp only [DS,Nat.reduceAdd, *]; done) | (simp only [DZ]; omega)) only [RUN]
 have y1 : ((((M.add (.row false [a])).add (.row false (opR o ra))).add (.row false (lbR v))).add (.row false (opR ⟨0,Hd.z,0,⟨Eid.z,0⟩,Eid.z,Lb.z,[]⟩ NIL))).get (M.size + 1) = some (.row false (opR o ra)):=by simp (maxSteps:=2000000) (disch:=first | omega | assumption | (simp only [DS,Nat.reduceAdd, *]; done) | (simp only [DZ]; omega)) only [RUN]
 have y2 : ((((M.add (.row false [a])).add (.row false (opR o ra))).add (.row false (lbR v))).add (.row false (opR ⟨0,Hd.z,0,⟨Eid.z,0⟩,Eid.z,Lb.z,[]⟩ NIL))).get (M.size + 1 + 1) = some (.row false (lbR v)):=by simp (maxSteps:=2000000) (disch:=first | omega | assumption | (simp only [DS,Nat.reduceAdd, *]; done) | (simp only [DZ]; omega)) only [RUN]
 have y3 : ((((M.add (.row false [a])).add (.row false (opR o ra))).add (.row false (lbR v))).add (.row false (opR ⟨0,Hd.z,0,⟨Eid.z,0⟩,Eid.z,Lb.z,[]⟩ NIL))).get (M.size + 1 + 1 + 1) = some (.row false (opR ⟨0,Hd.z,0,⟨Eid.z,0⟩,Eid.z,Lb.z,[]⟩ NIL)):=by simp (maxSteps:=2000000) (disch:=first | omega | assumption | (simp only [DS,Nat.reduceAdd, *]; done) | (simp only [DZ]; omega)) only [RUN]
 refine zAY tf19 rfl (by simp [a19]) fun b' ht hx=>?_
 have h0:=hx 0 _ rfl
 have h1:=hx 1 _ rfl
 have h2:=hx 2 _ rfl
 clear hx
 simp only [a19,c19,zz4,zzm] at ht ⊢
 simp (maxSteps:=2000000) (disch:=first | omega | assumption | (simp only [DS,Nat.reduceAdd, *]; done) | (simp only [DZ]; omega)) only [RUN,RU,zA2,zA1,slot,reduceIte,Nat.reduceEqDiff,h0,h1,h2,hS.fz.cells]
 refine zID (d:=d + 10) hR (by omega) (by simp (maxSteps:=2000000) (disch:=first | omega | assumption | (simp only [DS,Nat.reduceAdd, *]; done) | (simp only [DZ]; omega)) only [RUN,wf]) (by simp only [zA8]; show M.wm ≤ _; omega) fun a' N hN sm nw=>?_
 have hN' : Kept ((((M.add (.row false [a])).add (.row false (opR o ra))).add (.row false (lbR v))).add (.row false (opR ⟨0,Hd.z,0,⟨Eid.z,0⟩,Eid.z,Lb.z,[]⟩ NIL))) N:=hN
 replace nw : ∀ id,rowOf a' = some id → M.size + 4 ≤ id:=nw
 clear hN
 have hN:=hN'
 clear hN'
 generalize (((M.add (.row false [a])).add (.row false (opR o ra))).add (.row false (lbR v))).add (.row false (opR ⟨0,Hd.z,0,⟨Eid.z,0⟩,Eid.z,Lb.z,[]⟩ NIL)) = X at *
 have kN:=kA.trans hN
 have x0:=(hN.get _ (Mem.get_lt y0)).trans y0
 have x1:=(hN.get _ (Mem.get_lt y1)).trans y1
 have x2:=(hN.get _ (Mem.get_lt y2)).trans y2
 have x3:=(hN.get _ (Mem.get_lt y3)).trans y3
 have l1:=Mem.get_lt x1
 have wN:=hN.wf
 have oa':=sm.one
 have ca':=sm.cells
 have hln:=sm.len
 simp (maxSteps:=2000000) (disch:=first | omega | assumption | (simp only [DS,Nat.reduceAdd, *]; done) | (simp only [DZ]; omega)) only [RUN,RU,zA2,zA1,lay,reduceIte,Nat.reduceEqDiff,Nat.reduceAdd,x1,hln]
 have r1 : ∀ j,rowOf a' = some j → M.size + 4 ≤ j:=nw
 have eN : ∀ j,j ≠ M.size + 1 → (N.upd (M.size + 1) (.row false (opR o a'))).get j = N.get j:=fun j hj=>zAA wN _ _ _ (fun e=>hj e.symm)
 have wY:=wN.upd (M.size + 1) (.row false (opR o a'))
 have sY : M.size + 4 ≤ (N.upd (M.size + 1) (.row false (opR o a'))).size:=by rw [zAE]; have:=hN.le; omega
 have z0:=(eN M.size (by omega)).trans x0
 have z1 : (N.upd (M.size + 1) (.row false (opR o a'))).get (M.size + 1) = some (.row false (opR o a')):=zAP wN _ _ l1
 have z2:=(eN (M.size + 1 + 1) (by omega)).trans x2
 have z3:=(eN (M.size + 1 + 1 + 1) (by omega)).trans x3
 have zm : SlM (N.upd (M.size + 1) (.row false (opR o a'))) 1 zAS a' o.rs:=sm.keep fun j hj=>eN j (by have:=r1 j hj; omega)
 have zw : (N.upd (M.size + 1) (.row false (opR o a'))).wm = M.wm:=kN.wm
 have zk : ∀ j,j < M.size → (N.upd (M.size + 1) (.row false (opR o a'))).get j = M.get j:=fun j hj=>(eN j (by omega)).trans (kN.get j hj)
 generalize N.upd (M.size + 1) (.row false (opR o a')) = Y at *
 have c0 : curL l o v 0 = o.rs:=by unfold curL; simp
 refine zB1 (I:=fun nq tq Nq => ∃ (iq : Nat),nq = o.rs.length - iq ∧ iq ≤ o.rs.length ∧ nth zA4 tq 4 = .ptr (M.size + 1) 0 ∧ nth zA4 tq 6 = .ptr (M.size + 1 + 1 + 1) 0 ∧ nth zA4 tq 7 = .fn 37 [] [.ptr (M.size + 1) 0,.ptr M.size 0,.ptr (M.size + 1 + 1) 0] ∧ nth zA4 tq 14 = I64 o.rs.length ∧ nth zA4 tq 15 = I64 iq ∧ Wf Nq ∧ M.size + 4 ≤ Nq.size ∧ (∀ j,j < M.size → Nq.get j = M.get j) ∧ Nq.get M.size = some (.row false [a]) ∧ Nq.get (M.size + 1) = some (.row false (opR o a')) ∧ Nq.get (M.size + 1 + 1) = some (.row false (lbR v)) ∧ Nq.get (M.size + 1 + 1 + 1) = some (.row false (opR ⟨0,Hd.z,0,⟨Eid.z,0⟩,Eid.z,Lb.z,[]⟩ NIL)) ∧ SlM Nq 1 zAS a' (curL l o v iq) ∧ Nq.wm = M.wm) (n:=o.rs.length) (by omega) ?_ ?_
 ·refine ⟨0,rfl,Nat.zero_le _, ?_, ?_, ?_, ?_, ?_,wY,sY,zk,z0,z1,z2,z3,(by rw [c0]; exact zm),zw⟩ <;> simp (maxSteps:=2000000) (disch:=first | omega | assumption | (simp only [DS,Nat.reduceAdd, *]; done) | (simp only [DZ]; omega)) only [RUN,reduceIte,Nat.reduceEqDiff]
  all_goals first | rfl | assumption | done
 ·rintro nq tq Nq hltq ⟨iq,rfl,hiq,gq4,gq6,gq7,gq14,gq15,w,sz,kp,p0,p1,p2,p3,sm2,wm⟩
  simp only [ht] at hltq ⊢
  have oa2:=sm2.one
  have ca2:=sm2.cells
  have lp1:=Mem.get_lt p1
  have lp3:=Mem.get_lt p3
  by_cases hcc : iq < o.rs.length
  ·have q1 : decide ((iq : Int) < o.rs.length) = true:=decide_eq_true (by omega)
   have w1 : IntKind.i64.wrap ((iq : Int) + 1) = ((iq + 1 : Nat) : Int):=by rw [wrap_i64] <;> omega
   simp (maxSteps:=2000000) (disch:=first | omega | assumption | (simp only [DS,Nat.reduceAdd, *]; done) | (simp only [DZ]; omega)) only [RUN,RU,zA2,zA1,reduceIte,Nat.reduceEqDiff,gq7,gq14,gq15,q1]
   refine zO1 (d:=d) (n:=iq) hS hl (by omega) ho hc w (by rw [zG6 _ _ _ _ (by omega)]; exact hcc) (by omega) sm2 p1 p0 p2 fun u N' w' le' kp' sm' wm'=>?_
   rw [zI0 _ _ _ _ hcc] at sm'
   have nr : ∀ j,j < M.size + 4 → rowOf a' ≠ some j:=fun j hj e=>by have:=r1 j e; omega
   simp (maxSteps:=2000000) (disch:=first | omega | assumption | (simp only [DS,Nat.reduceAdd, *]; done) | (simp only [DZ]; omega)) only [RUN,RU,zA2,zA1,reduceIte,Nat.reduceEqDiff,gq4,gq6,gq7,gq14,gq15,w1]
   exact ⟨hltq,o.rs.length - (iq + 1),by omega,iq + 1,rfl,by omega,rfl,w',by omega,fun j hj=>(kp' j (by omega) (nr j (by omega))).trans (kp j hj),(kp' _ (by omega) (nr _ (by omega))).trans p0,(kp' _ (by omega) (nr _ (by omega))).trans p1,(kp' _ (by omega) (nr _ (by omega))).trans p2,(kp' _ (by omega) (nr _ (by omega))).trans p3,sm',wm'.trans wm⟩
  ·obtain rfl : iq = o.rs.length:=by omega
   have q1 : decide ((o.rs.length : Int) < o.rs.length) = false:=decide_eq_false (by omega)
   have cl : curL l o v o.rs.length = zDX l o v:=by unfold curL; rw [List.drop_length,List.append_nil,List.take_of_length_le (by rw [zDA]; exact Nat.le_refl _)]
   rw [cl] at sm2
   simp (maxSteps:=2000000) (disch:=first | omega | assumption | (simp only [DS,Nat.reduceAdd, *]; done) | (simp only [DZ]; omega)) only [RUN,RU,zA2,zA1,zA0,zA5,slot,lay,reduceIte,Nat.reduceEqDiff,Nat.reduceAdd,gq4,gq6,gq14,gq15,p1,p3]
   refine k a' _ (w.upd _ _) (by rw [zAE]; omega) (fun j hj=>?_) (sm2.keep fun j hj=>?_) (fun j hj=>by have:=r1 j hj; omega) wm
   ·rw [zAA w _ _ _ (by omega)]; exact kp j hj
   ·rw [zAA w _ _ _ (by have:=r1 j hj; omega)]
end Go.Proofs.YtkfdflajadkfkaaGreat
namespace Go.Proofs.YtkfdflajadkfkaaGreat
open Go Go.Ax
def zCS (l : List Op) (v : Lb) (o : Op) : Op:={ o with rs:=zDX l o v }
def zDY (l : List Op) (v : Lb) (fr : Int) : Int:=if zGJ l v = 0 then (if fr < 0 ∨ ((lowL l v).length : Int) < fr then 2 else 0) else zGJ l v
def zGK (l : List Op) (v : Lb) (fr : Int) : Int:=if zDY l v fr = 0 then (lowL l v).length else 0
def zDZ (l : List Op) (v : Lb) (fr : Int) : List Op:=if zDY l v fr = 0 then (((lowL l v).drop fr.toNat).take 3).map (zCS l v) else []
def zXS (l : List Op) (v : Lb) (fr : Int) (r : AV) : Prop:=∃ r1,r = .tup [r1,I64 (zGK l v fr),I64 (zDY l v fr)] ∧ Sl 17 isOp r1 (zDZ l v fr)
theorem zI6 {l : List Op} {v : Lb} {o : Op} (h : o.ok) : (zCS l v o).ok:=by
 obtain ⟨h1,h2,h3,h4,h5,h6,h7⟩:=h
 refine ⟨h1,h2,h3,h4,h5,h6,fun x hx=>?_⟩
 simp only [zCS,zDX] at hx
 obtain ⟨i,hi,rfl⟩:=List.mem_mapIdx.1 hx
 unfold hid1
 split
 ·exact h7 _ (List.getElem_mem hi)
 ·omega
end Go.Proofs.YtkfdflajadkfkaaGreat
namespace Go.Proofs.YtkfdflajadkfkaaGreat
open Go Go.Ax
variable {fuel : Nat} {M : Mem} {Q : AV → Mem → Prop} {d : Nat} {l : List Op} {a : AV}
/-! ### Copies -/
theorem zKT {o : Op} {ra : AV} (hS : Sl 1 zAS ra o.rs) (hl : o.rs.length ≤ 1000000000) (wf : Wf M) (hw : M.wm ≤ M.size) (k : ∀ a' N,Wf N → M.size ≤ N.size → (∀ j,j < M.size → N.get j = M.get j) → SlM N 1 zAS a' o.rs → (∀ id,rowOf a' = some id → M.size ≤ id) → N.wm = M.wm → Q (.agg (opR o a')) N) :
  W3 (zAC Tryz.prog (fsT tbl) fuel (d + 1) (.fn 6) [.agg (opR o ra)] M) Q:=by
 have ora:=hS.one
 have hwf:=wf
 refine zAY tf6 rfl (by simp [a6]) fun b' ht hx=>?_
 have h0:=hx 0 _ rfl
 clear hx
 simp only [a6,c6,zz4] at ht ⊢
 simp (maxSteps:=2000000) (disch:=first | omega | assumption | (simp only [DS,Nat.reduceAdd, *]; done) | (simp only [DZ]; omega)) only [RUN,RU,zA2,zA1,reduceIte,Nat.reduceEqDiff,h0,hS.fz.rows]
 refine zHQ (by simp (maxSteps:=2000000) (disch:=first | omega | assumption | (simp only [DS,Nat.reduceAdd, *]; done) | (simp only [DZ]; omega)) only [RUN,wf]) SlM.nil zE1.cel hS (by omega) (by simp; omega) (by simp; omega) fun a' N m' w' le' sz' kp' nw' wm' rl' on' oc'=>?_
 simp only [zA8] at le' kp' nw'
 rw [List.nil_append] at m'
 have g0 : N.get M.size = some (.row false (opR o ra)):=by rw [kp' _ (by omega) (by simp [rowOf])]; simp (maxSteps:=2000000) (disch:=first | omega | assumption | (simp only [DS,Nat.reduceAdd, *]; done) | (simp only [DZ]; omega)) only [RUN]
 have g1 : N.get (M.size + 1) = some (.row false (opR ⟨0,Hd.z,0,⟨Eid.z,0⟩,Eid.z,Lb.z,[]⟩ NIL)):=by rw [kp' _ (by omega) (by simp [rowOf])]; simp (maxSteps:=2000000) (disch:=first | omega | assumption | (simp only [DS,Nat.reduceAdd, *]; done) | (simp only [DZ]; omega)) only [RUN]
 have nr : ∀ id,rowOf a' = some id → M.size + 2 ≤ id:=fun id h=>by
  rcases nw' id h with h' | h'
  ·cases h'
  ·omega
 have z0 : M.size < N.size:=by omega
 have z1 : M.size + 1 < N.size:=by omega
 simp (maxSteps:=2000000) (disch:=first | omega | assumption | (simp only [DS,Nat.reduceAdd, *]; done) | (simp only [DZ]; omega)) only [RUN,RU,zA2,zA1,zA0,zA5,slot,lay,reduceIte,Nat.reduceEqDiff,Nat.reduceAdd,g0,g1,oc']
 refine k a' _ ((w'.upd _ _).upd _ _) (by simp only [zAE]; omega) (fun j hj=>?_) (m'.keep fun j hj=>?_) (fun id h=>by have:=nr id h; omega) wm'
 ·rw [zAA (w'.upd _ _) _ _ _ (by omega),zAA w' _ _ _ (by omega),kp' j (by omega) (by simp [rowOf]),zAF (wf.add _) _ _ (by rw [zA8]; omega),zAF wf _ _ hj]
 ·have:=nr j hj
  rw [zAA (w'.upd _ _) _ _ _ (by omega),zAA w' _ _ _ (by omega)]
end Go.Proofs.YtkfdflajadkfkaaGreat
namespace Go.Proofs.YtkfdflajadkfkaaGreat
open Go Go.Ax
variable {fuel : Nat} {M : Mem} {Q : AV → Mem → Prop} {d : Nat} {l : List Op} {a : AV} {x : Eid} {v : Lb}
theorem zPS (p : Lb → Bool) (out : List Lb) (y : Lb) : (addL out y).any p = (out.any p || p y):=by
 unfold addL
 split
 ·rename_i h
  obtain ⟨z,hz,h2⟩:=List.any_eq_true.1 h
  have e : y = z:=of_decide_eq_true h2
  cases hp : p y with
  | false=>rw [Bool.or_false]
  | true =>
   rw [Bool.or_true]
   exact List.any_eq_true.2 ⟨z,hz,by rw [← e]; exact hp⟩
 ·rw [List.any_append]; simp
theorem zL1 (p : Lb → Bool) : ∀ (R out : List Lb),(R.foldl addL out).any p = (out.any p || R.any p)
 | [],out=>by simp
 | y :: R,out=>by rw [List.foldl_cons,zL1 p R,zPS,List.any_cons,Bool.or_assoc]
theorem zWP (hh : zAW [] l = true) (hx : x.may = true) (hv : v.may = true) : isB l x v = zF1 l x v:=by
 have h0 : askE l x v = 0:=by
  unfold askE
  rw [if_pos (zHD hh),hx,hv]
  rfl
 unfold zF1 isB made
 have e1 : ((zBI l x v).any fun to => !to.leq v) = !((zBI l x v).all fun to=>to.leq v):=zHT _ _
 have e2 : ([x.hd.lb].any fun to => !to.leq v) = !x.hd.lb.leq v:=by simp
 rw [h0,zL1,e1,e2]
 cases (zBI l x v).all fun to=>to.leq v <;> cases x.hd.lb.leq v <;> rfl
theorem zW2 {s : Spn} (h : s.may = true) {n : Int} (h0 : 0 ≤ n) (h1 : n < s.n) : (s.at n).may = true:=by
 have hb:=Spn.may_le h
 unfold Spn.may Eid.may at h
 unfold Eid.may
 simp only [Bool.and_eq_true,decide_eq_true_eq] at h ⊢
 refine ⟨⟨h.1.1.1.1.1, ?_⟩, ?_⟩
 ·show 1 ≤ s.f.c + n; omega
 ·show s.f.c + n ≤ _; omega
theorem rs_sp {o : Op} (hm : o.may = true) {i : Nat} (hi : i < o.rs.length) : (i : Int) < o.sp.n:=by
 unfold Op.may Op.part Op.bare at hm
 simp only [Bool.and_eq_true] at hm
 have hp:=hm.2
 split at hp
 ·simp only [Bool.and_eq_true,decide_eq_true_eq] at hp
  have:=hp.1.2
  omega
 ·split at hp
  ·simp only [Bool.and_eq_true,decide_eq_true_eq] at hp
   have:=hp.2.2
   omega
  ·simp only [Bool.and_eq_true,decide_eq_true_eq] at hp
   have:=hp.1.2
   omega
set_option maxHeartbeats 16000000 in
theorem zEX {o : Op} {ra : AV} (hS : Sl 17 isOp a l) (hR : Sl 1 zAS ra o.rs) (ho : o.ok) (hh : zAW [] l = true) (hom : o.may = true) (hv : v.ok) (hvm : v.may = true) (hl : l.length ≤ 10000) (hf : l.length + 1000 < fuel) : ∃ r,Sl 1 zAS r (zDX l o v) ∧ ∀ M,zAC Tryz.prog (fsT tbl) fuel (d + 5) (.fn 23) [a,.agg (opR o ra),lbA v] M = some (.agg (opR o r),M):=by
 have ora:=hR.one
 have hb:=Spn.may_le (zCP hom)
 have hml:=zK8 hom
 refine zDI tf23 rfl (fun M=>by simp only [icyL,fun M=>hS.icy M 12 (by omega),zBW hR.fz,zAK (zBA v) (show 1 < 12 by omega)]) ?_
 refine zAH tf23 rfl (by simp only [icyL,fun M=>hS.icy M 12 (by omega),zBW hR.fz,zAK (zBA v) (show 1 < 12 by omega)]) (by simp [a23]) fun b' ht hx=>?_
 have h0:=hx 0 _ rfl
 have h1:=hx 1 _ rfl
 have h2:=hx 2 _ rfl
 clear hx
 simp only [a23,c23,zz2,zz4,zzm] at ht ⊢
 simp (maxSteps:=2000000) (disch:=first | omega | assumption | (simp only [DS,Nat.reduceAdd, *]; done) | (simp only [DZ]; omega)) only [RUN,RU,zA2,zA1,slot,reduceIte,Nat.reduceEqDiff,Nat.reduceAdd,h1,h2]
 have wX : Wf (((mem0.add (.row false (opR o ra))).add (.row false (lbR v))).add (.row false (opR ⟨0,Hd.z,0,⟨Eid.z,0⟩,Eid.z,Lb.z,[]⟩ NIL))):=((Wf.mem0.add _).add _).add _
 refine zKT (d:=d + 3) hR (by omega) wX (by show 0 ≤ _; omega) fun a' N wN le kp sm nw wm=>?_
 have le : 3 ≤ N.size:=le
 have x0 : N.get 0 = some (.row false (opR o ra)):=by rw [kp 0 (by show 0 < 3; omega)]; simp (maxSteps:=2000000) (disch:=first | omega | assumption | (simp only [DS,Nat.reduceAdd, *]; done) | (simp only [DZ]; omega)) only [RUN]
 have x1 : N.get 1 = some (.row false (lbR v)):=by rw [kp 1 (by show 1 < 3; omega)]; simp (maxSteps:=2000000) (disch:=first | omega | assumption | (simp only [DS,Nat.reduceAdd, *]; done) | (simp only [DZ]; omega)) only [RUN]
 have x2 : N.get 2 = some (.row false (opR ⟨0,Hd.z,0,⟨Eid.z,0⟩,Eid.z,Lb.z,[]⟩ NIL)):=by rw [kp 2 (by show 2 < 3; omega)]; simp (maxSteps:=2000000) (disch:=first | omega | assumption | (simp only [DS,Nat.reduceAdd, *]; done) | (simp only [DZ]; omega)) only [RUN]
 have nr : ∀ j,rowOf a' = some j → 3 ≤ j:=nw
 clear kp nw
 have oa':=sm.one
 have ca':=sm.cells
 have rl':=zBE sm.rl (Nat.le_refl N.size)
 have l0:=Mem.get_lt x0
 simp (maxSteps:=2000000) (disch:=first | omega | assumption | (simp only [DS,Nat.reduceAdd, *]; done) | (simp only [DZ]; omega)) only [RUN,RU,zA2,zA1,lay,reduceIte,Nat.reduceEqDiff,Nat.reduceAdd,x0]
 have c0 : curL l o v 0 = o.rs:=by unfold curL; simp
 refine zB1 (I:=fun nq tq Nq => ∃ (iq : Nat),nq = o.rs.length - iq ∧ iq ≤ o.rs.length ∧ nth zA4 tq 0 = a ∧ nth zA4 tq 4 = .ptr 0 0 ∧ nth zA4 tq 5 = .ptr 1 0 ∧ nth zA4 tq 6 = .ptr 2 0 ∧ nth zA4 tq 7 = I64 iq ∧ Wf Nq ∧ Nq.get 0 = some (.row false (opR o a')) ∧ Nq.get 1 = some (.row false (lbR v)) ∧ Nq.get 2 = some (.row false (opR ⟨0,Hd.z,0,⟨Eid.z,0⟩,Eid.z,Lb.z,[]⟩ NIL)) ∧ SlM Nq 1 zAS a' (curL l o v iq)) (n:=o.rs.length) (by omega) ?_ ?_
 ·refine ⟨0,rfl,Nat.zero_le _, ?_, ?_, ?_, ?_, ?_,wN.upd _ _,zAP wN _ _ l0,(by rw [zAA wN _ _ _ (by omega)]; exact x1),(by rw [zAA wN _ _ _ (by omega)]; exact x2),(by rw [c0]; exact sm.keep fun j hj=>zAA wN _ _ _ (by have:=nr j hj; omega))⟩ <;> simp (maxSteps:=2000000) (disch:=first | omega | assumption | (simp only [DS,Nat.reduceAdd, *]; done) | (simp only [DZ]; omega)) only [RUN,reduceIte,Nat.reduceEqDiff,h0]
  all_goals first | rfl | assumption | done
 ·rintro nq tq Nq hltq ⟨iq,rfl,hiq,gq0,gq4,gq5,gq6,gq7,w,z0,z1,z2,sm2⟩
  simp only [ht] at hltq ⊢
  have oa2:=sm2.one
  have ca2:=sm2.cells
  have ln2:=sm2.len
  rw [zG6 l o v iq (by omega)] at ln2
  have p0:=Mem.get_lt z0
  have p2:=Mem.get_lt z2
  by_cases hc : iq < o.rs.length
  ·have q1 : decide ((iq : Int) < o.rs.length) = true:=decide_eq_true (by omega)
   have w1 : IntKind.i64.wrap ((iq : Int) + 1) = ((iq + 1 : Nat) : Int):=by rw [wrap_i64] <;> omega
   have hsp:=rs_sp hom hc
   have w2 : IntKind.i64.wrap (o.sp.f.c + iq) = o.sp.f.c + iq:=wrap_i64 (by omega) (by omega)
   have hxo : (o.sp.at iq).ok:=⟨ho.2.2.2.1.1.1,by show -9223372036854775808 ≤ o.sp.f.c + iq; omega,by show o.sp.f.c + iq ≤ _; omega⟩
   have his:=fun M=>zOX (fuel:=fuel) (d:=d) (x:=o.sp.at iq) (v:=v) hS (zER hh) hxo hv (by omega) (by omega) M
   rw [zWP hh (zW2 (zCP hom) (by omega) hsp) hvm] at his
   replace his : ∀ M,zAC Tryz.prog (fsT tbl) fuel (d + 4) (.fn 45) [a,.agg [U8 o.sp.f.hd.lb.lv,U32 o.sp.f.hd.lb.cats,U8 o.sp.f.hd.num,I64 (o.sp.f.c + iq)],lbA v] M = some (BL (zF1 l (o.sp.at iq) v),M):=his
   have hst:=zI0 l o v iq hc
   obtain ⟨id,cs,hrow,lid,hg,hcs,hiad,hset⟩:=sm2.at1 (i:=iq) (by rw [zG6 l o v iq (by omega)]; exact hc)
   have hid:=nr id hrow
   cases q2 : zF1 l (o.sp.at iq) v with
   | true =>
    rw [q2] at his
    have hid1 : ∀ c,hid1 l o v iq c = c:=fun c=>by unfold hid1; rw [if_pos q2]
    rw [hid1] at hst
    have hcl:=zG6 l o v iq (by omega)
    have hsame : curL l o v (iq + 1) = curL l o v iq:=by
     rw [← hst,List.getD_eq_getElem?_getD,List.getElem?_eq_getElem (by omega),Option.getD_some,List.set_getElem_self]
    simp (maxSteps:=2000000) (disch:=first | omega | assumption | (simp only [DS,Nat.reduceAdd, *]; done) | (simp only [DZ]; omega)) only [RUN,RU,zA2,zA1,slot,lay,zAJ,reduceIte,Nat.reduceEqDiff,Nat.reduceBEq,Nat.reduceAdd,gq0,gq4,gq5,gq6,gq7,z0,z1,ln2,q1,w2,his,w1]
    exact ⟨hltq,o.rs.length - (iq + 1),by omega,iq + 1,rfl,by omega,rfl,w,z2,by rw [hsame]; exact sm2⟩
   | false =>
    rw [q2] at his
    have hid1 : ∀ c,hid1 l o v iq c = -1:=fun c=>by unfold hid1; rw [if_neg (by rw [q2]; decide)]
    rw [hid1] at hst
    simp (maxSteps:=2000000) (disch:=first | omega | assumption | (simp only [DS,Nat.reduceAdd, *]; done) | (simp only [DZ]; omega)) only [RUN,RU,zA2,zA1,slot,lay,zAJ,reduceIte,Nat.reduceEqDiff,Nat.reduceBEq,Nat.reduceAdd,gq0,gq4,gq5,gq6,gq7,z0,z1,ln2,q1,w2,his,w1,hiad,hg]
    refine ⟨hltq,o.rs.length - (iq + 1),by omega,iq + 1,rfl,by omega,rfl,w,z2, ?_⟩
    rw [← hst]
    exact hset _ _ rfl _ (zAP w _ _ lid)
  ·obtain rfl : iq = o.rs.length:=by omega
   have q1 : decide ((o.rs.length : Int) < o.rs.length) = false:=decide_eq_false (by omega)
   have cl : curL l o v o.rs.length = zDX l o v:=by unfold curL; rw [List.drop_length,List.append_nil,List.take_of_length_le (by rw [zDA]; exact Nat.le_refl _)]
   rw [cl] at sm2
   obtain ⟨rf,hrf,hfr⟩:=zM0 sm2 zE1.cel 11 (by omega)
   have hfr:=hfr (Nq.upd 2 (.row false (opR o a'))) fun id h=>by
    have:=nr id h
    rw [zAA w _ _ _ (by omega)]
   simp (maxSteps:=2000000) (disch:=first | omega | assumption | (simp only [DS,Nat.reduceAdd, *]; done) | (simp only [DZ]; omega)) only [RUN,RU,zA2,zA1,zA0,zA5,frzL,slot,lay,reduceIte,Nat.reduceEqDiff,Nat.reduceAdd,Nat.reduceSub,gq4,gq6,gq7,z0,z2,ln2,hfr]
   exact ⟨rf,hrf,rfl⟩
end Go.Proofs.YtkfdflajadkfkaaGreat
namespace Go.Proofs.YtkfdflajadkfkaaGreat
open Go Go.Ax
variable {fuel : Nat} {M : Mem} {Q : AV → Mem → Prop} {d : Nat} {l : List Op} {a : AV} {x : Eid} {v : Lb}
def opZ : Op:=⟨0,Hd.z,0,⟨Eid.z,0⟩,Eid.z,Lb.z,[]⟩
def hdE (l : List Op) (o : Op) (v : Lb) : Int:=err (zAW [] l && o.may && v.may)
def hdO (l : List Op) (o : Op) (v : Lb) : Op:=if hdE l o v = 0 then zCS l v o else opZ
theorem zU3 {o : Op} : hdE l o v = 0 ↔ zAW [] l = true ∧ o.may = true ∧ v.may = true:=by
 unfold hdE err
 cases zAW [] l <;> cases o.may <;> cases v.may <;> simp
set_option maxHeartbeats 8000000 in
theorem zKL {o : Op} {ra : AV} (hS : Sl 17 isOp a l) (hR : Sl 1 zAS ra o.rs) (ho : o.ok) (hv : v.ok) (hl : l.length ≤ 10000) (hf : 64 * l.length + 2000 < fuel) : ∃ r,Sl 1 zAS r (hdO l o v).rs ∧ ∀ M,zAC Tryz.prog (fsT tbl) fuel (d + 8) (.fn 8) [a,.agg (opR o ra),lbA v] M = some (.tup [.agg (opR (hdO l o v) r),I64 (hdE l o v)],M):=by
 have ora:=hR.one
 have hm:=fun M=>zDV (fuel:=fuel) (d:=d) hS hl (by omega) M
 have h9:=fun M=>zJD (fuel:=fuel) (d:=d + 2) hR ho (by omega) M
 have h1':=fun M=>@zDQ fuel (d + 6) v M
 have bad : ∀ (h : hdE l o v = 8),(hdO l o v = opZ):=fun h=>by unfold hdO; rw [if_neg (by rw [h]; decide)]
 by_cases h : hdE l o v = 0
 ·obtain ⟨e1,e2,e3⟩:=zU3.1 h
  have eO : hdO l o v = zCS l v o:=by unfold hdO; rw [if_pos h]
  obtain ⟨rh,hrh,hhd⟩:=zEX (fuel:=fuel) (d:=d + 2) hS hR ho e1 e2 hv e3 hl (by omega)
  have orh:=hrh.one
  rw [e1] at hm
  rw [e2] at h9
  rw [e3] at h1'
  rw [h,eO]
  refine zDI tf8 rfl (fun M=>by simp only [icyL,fun M=>hS.icy M 12 (by omega),zBW hR.fz,zAK (zBA v) (show 1 < 12 by omega)]) ?_
  refine zAH tf8 rfl (by simp only [icyL,fun M=>hS.icy M 12 (by omega),zBW hR.fz,zAK (zBA v) (show 1 < 12 by omega)]) (by simp [a8]) fun b' ht hx=>?_
  have h0:=hx 0 _ rfl
  have h1:=hx 1 _ rfl
  have h2:=hx 2 _ rfl
  clear hx
  simp only [a8,c8,zz4,zzm] at ht ⊢
  simp (maxSteps:=2000000) (disch:=first | omega | assumption | (simp only [DS,Nat.reduceAdd, *]; done) | (simp only [DZ]; omega)) only [RUN,RU,zA2,zA1,zA0,zA5,frzL,slot,lay,reduceIte,Nat.reduceEqDiff,Nat.reduceAdd,Nat.reduceSub,h0,h1,h2,hm,h9,h1',hhd,hrh.fz.frz]
  exact ⟨rh,hrh,rfl⟩
 ·have h8 : hdE l o v = 8:=by
   unfold hdE err at h ⊢
   split
   ·rename_i q; rw [if_pos q] at h; exact absurd rfl h
   ·rfl
  have hn : ¬(zAW [] l = true ∧ o.may = true ∧ v.may = true):=fun k=>h (zU3.2 k)
  rw [h8,bad h8]
  refine zDI tf8 rfl (fun M=>by simp only [icyL,fun M=>hS.icy M 12 (by omega),zBW hR.fz,zAK (zBA v) (show 1 < 12 by omega)]) ?_
  refine zAH tf8 rfl (by simp only [icyL,fun M=>hS.icy M 12 (by omega),zBW hR.fz,zAK (zBA v) (show 1 < 12 by omega)]) (by simp [a8]) fun b' ht hx=>?_
  have h0:=hx 0 _ rfl
  have h1:=hx 1 _ rfl
  have h2:=hx 2 _ rfl
  clear hx
  simp only [a8,c8,zz4,zzm] at ht ⊢
  cases e1 : zAW [] l with
  | false =>
   rw [e1] at hm
   simp (maxSteps:=2000000) (disch:=first | omega | assumption | (simp only [DS,Nat.reduceAdd, *]; done) | (simp only [DZ]; omega)) only [RUN,RU,zA2,zA1,zA0,zA5,frzL,slot,lay,zAJ,reduceIte,Nat.reduceEqDiff,Nat.reduceAdd,Nat.reduceSub,h0,h1,h2,hm]
   exact ⟨NIL,.inl ⟨rfl,rfl⟩,rfl⟩
  | true =>
   rw [e1] at hm
   cases e2 : o.may with
   | false =>
    rw [e2] at h9
    simp (maxSteps:=2000000) (disch:=first | omega | assumption | (simp only [DS,Nat.reduceAdd, *]; done) | (simp only [DZ]; omega)) only [RUN,RU,zA2,zA1,zA0,zA5,frzL,slot,lay,zAJ,reduceIte,Nat.reduceEqDiff,Nat.reduceAdd,Nat.reduceSub,h0,h1,h2,hm,h9]
    exact ⟨NIL,.inl ⟨rfl,rfl⟩,rfl⟩
   | true =>
    rw [e2] at h9
    have e3 : v.may = false:=by
     cases k : v.may with
     | false=>rfl
     | true=>exact absurd ⟨e1,e2,k⟩ hn
    rw [e3] at h1'
    simp (maxSteps:=2000000) (disch:=first | omega | assumption | (simp only [DS,Nat.reduceAdd, *]; done) | (simp only [DZ]; omega)) only [RUN,RU,zA2,zA1,zA0,zA5,frzL,slot,lay,zAJ,reduceIte,Nat.reduceEqDiff,Nat.reduceAdd,Nat.reduceSub,h0,h1,h2,hm,h9,h1']
    exact ⟨NIL,.inl ⟨rfl,rfl⟩,rfl⟩
set_option maxHeartbeats 8000000 in
theorem zED (hS : Sl 17 isOp a l) (hl : l.length ≤ 100000) (hd : ∀ o ∈ l,o.rs.length ≤ 1000000000) (hf : l.length + 100 < fuel) : ∃ r,Sl 17 isOp r l ∧ ∀ M,zAC Tryz.prog (fsT tbl) fuel (d + 2) (.fn 5) [a] M = some (r,M):=by
 have ll:=hS.len
 refine zDI tf5 rfl (fun M=>by simp only [icyL,fun M=>hS.icy M 12 (by omega)]) ?_
 refine zAH tf5 rfl (by simp only [icyL,fun M=>hS.icy M 12 (by omega)]) (by simp [a5]) fun b' ht hx=>?_
 have h0:=hx 0 _ rfl
 clear hx
 simp only [a5,c5,zz4,zzm] at ht ⊢
 simp (maxSteps:=2000000) (disch:=first | omega | assumption | (simp only [DS,Nat.reduceAdd, *]; done) | (simp only [DZ]; omega)) only [RUN,RU,zA2,zA1]
 refine zB1 (I:=fun n t N => ∃ (i : Nat) (out : AV),n = l.length - i ∧ i ≤ l.length ∧ nth zA4 t 0 = a ∧ nth zA4 t 3 = out ∧ nth zA4 t 4 = I64 i ∧ Wf N ∧ N.wm = 0 ∧ opK.NN N 0 out (l.take i)) (n:=l.length) (by omega) ?_ ?_
 ·refine ⟨0,NIL,rfl,Nat.zero_le _, ?_, ?_, ?_,Wf.mem0,rfl,NK.NN.nil _ _⟩ <;> simp (maxSteps:=2000000) (disch:=first | omega | assumption | (simp only [DS,Nat.reduceAdd, *]; done) | (simp only [DZ]; omega)) only [RUN,reduceIte,Nat.reduceEqDiff,h0]
  all_goals first | rfl | assumption | done
 ·rintro n t N hlt ⟨i,out,rfl,hi,g0,g3,g4,w,wm,hN⟩
  simp only [ht] at hlt ⊢
  have oo:=hN.one
  have oc:=hN.cells
  by_cases hc : i < l.length
  ·have q3 : decide ((i : Int) < l.length) = true:=decide_eq_true (by omega)
   have w1 : IntKind.i64.wrap ((i : Int) + 1) = ((i + 1 : Nat) : Int):=by rw [wrap_i64] <;> omega
   obtain ⟨r,hiad,hr,hrl⟩:=hS.iad i hc
   have hsn:=take_snoc l i hc
   have hlo:=hd l[i] (List.getElem_mem hc)
   generalize l[i] = e at *
   obtain ⟨ra,rfl,hra,hok⟩:=hr
   have ora:=hra.one
   simp (maxSteps:=2000000) (disch:=first | omega | assumption | (simp only [DS,Nat.reduceAdd, *]; done) | (simp only [DZ]; omega)) only [RUN,RU,zA2,zA1,slot,reduceIte,Nat.reduceEqDiff,g0,g3,g4,ll,q3,hiad]
   refine zKT (d:=d) hra hlo w (by omega) fun a' N2 w2 le2 kp2 sm2 nw2 wm2=>?_
   have oa2:=sm2.one
   have ca2:=sm2.cells
   have rl2:=zBE sm2.rl (Nat.le_refl N2.size)
   have rr2:=hN.rows (show N.size ≤ N2.size + 1 by omega)
   have hli : (l.take i).length ≤ i:=by rw [List.length_take]; omega
   simp (maxSteps:=2000000) (disch:=first | omega | assumption | (simp only [DS,Nat.reduceAdd, *]; done) | (simp only [DZ]; omega)) only [RUN,RU,zA2,zA1,lay,zAJ,zAD,reduceIte,Nat.reduceEqDiff,Nat.reduceBEq,Nat.reduceAdd,rr2]
   refine NK.NN.app (K:=opK) (B:=0) (l:=l.take i) (x:=e) (ra:=a') w2 (hN.keep fun j a b=>kp2 j b) ⟨rfl,oa2,ca2⟩ ⟨sm2,fun j hj=>Nat.zero_le _,hok⟩ (fun j hj hj2=>by have h1:=hN.lt j hj; have h2:=nw2 j hj2; omega) (by omega) (by omega) (by omega) fun o' M' hN' w' le' kp' nw' wm'=>?_
   simp (maxSteps:=2000000) (disch:=first | omega | assumption | (simp only [DS,Nat.reduceAdd, *]; done) | (simp only [DZ]; omega)) only [RUN,RU,zA2,zA1,reduceIte,Nat.reduceEqDiff,g0,g3,g4,w1]
   exact ⟨hlt,l.length - (i + 1),by omega,i + 1,o',rfl,by omega,rfl,rfl,w',by rw [wm',wm2]; exact wm,by rw [hsn]; exact hN'⟩
  ·obtain rfl : i = l.length:=by omega
   have q3 : decide ((l.length : Int) < l.length) = false:=decide_eq_false (by omega)
   rw [List.take_length] at hN
   obtain ⟨o',hz,hs⟩:=hN.frz (k:=11) (by omega)
   have hz:=hz N (fun _ _=>rfl)
   simp (maxSteps:=2000000) (disch:=first | omega | assumption | (simp only [DS,Nat.reduceAdd, *]; done) | (simp only [DZ]; omega)) only [RUN,RU,zA2,zA1,zA0,zA5,frzL,reduceIte,Nat.reduceEqDiff,g0,g3,g4,ll,hz]
   exact ⟨o',zLN hs,rfl⟩
set_option maxHeartbeats 16000000 in
theorem zIH {n : Nat} (hS : Sl 17 isOp a l) (hh : zAW [] l = true) (hv : v.ok) (hvm : v.may = true) (hl : l.length ≤ 10000) (hf : l.length + 1000 < fuel) (hn : n ≤ (lowL l v).length) : ∃ r,Sl 17 isOp r ((((lowL l v).drop n).take 3).map (zCS l v)) ∧ ∀ M,zAC Tryz.prog (fsT tbl) fuel (d + 6) (.fn 26) [a,lbA v,I64 n] M = some (r,M):=by
 obtain ⟨ru,hru,hup⟩:=zEE (fuel:=fuel) (d:=d + 2) hS hv (by omega) (by omega)
 have lru:=hru.len
 have hlow:=zFB l v
 have hmay : ∀ o ∈ lowL l v,o.may = true:=fun o ho=>zER hh o (List.mem_filter.1 ho).1
 refine zDI tf26 rfl (fun M=>by simp only [icyL,fun M=>hS.icy M 12 (by omega),zAK (zBA v) (show 1 < 12 by omega),zH4]) ?_
 refine zAH tf26 rfl (by simp only [icyL,fun M=>hS.icy M 12 (by omega),zAK (zBA v) (show 1 < 12 by omega),zH4]) (by simp [a26]) fun b' ht hx=>?_
 have h0:=hx 0 _ rfl
 have h1:=hx 1 _ rfl
 have h2:=hx 2 _ rfl
 clear hx
 simp only [a26,c26,zz4,zzm] at ht ⊢
 generalize hP : ((lowL l v).drop n).take 3 = P
 have hm2 : P.length = min 3 ((lowL l v).length - n):=by rw [← hP,List.length_take,List.length_drop]
 have hget : ∀ i (h : i < P.length),∃ h' : n + i < (lowL l v).length,P[i] = (lowL l v)[n + i]:=fun i h=>by
  subst hP
  exact ⟨by rw [List.length_take,List.length_drop] at h; omega,by rw [List.getElem_take,List.getElem_drop]⟩
 clear hP
 generalize hU : lowL l v = U at *
 clear hU
 obtain ⟨m,hm⟩ : ∃ m : Nat,m = P.length:=⟨_,rfl⟩
 have w3 : IntKind.i64.wrap ((n : Int) + 3) = (n : Int) + 3:=wrap_i64 (by omega) (by omega)
 simp (maxSteps:=2000000) (disch:=first | omega | assumption | (simp only [DS,Nat.reduceAdd, *]; done) | (simp only [DZ]; omega)) only [RUN,RU,zA2,zA1,slot,reduceIte,Nat.reduceEqDiff,h0,h1,h2,hup]
 refine zB1 (I:=fun nq tq Nq => ∃ (iq : Nat) (out : AV),nq = m - iq ∧ iq ≤ m ∧ nth zA4 tq 0 = a ∧ nth zA4 tq 2 = I64 n ∧ nth zA4 tq 4 = .ptr 0 0 ∧ nth zA4 tq 7 = ru ∧ nth zA4 tq 8 = out ∧ nth zA4 tq 9 = I64 ((n + iq : Nat) : Int) ∧ Wf Nq ∧ Nq.get 0 = some (.row false (lbR v)) ∧ SlM Nq 17 isOp out ((P.take iq).map (zCS l v)) ∧ (∀ j,rowOf out = some j → 1 ≤ j)) (n:=m) (by omega) ?_ ?_
 ·refine ⟨0,NIL,rfl,Nat.zero_le _, ?_, ?_, ?_, ?_, ?_, ?_,Wf.mem0.add _,by simp (maxSteps:=2000000) (disch:=first | omega | assumption | (simp only [DS,Nat.reduceAdd, *]; done) | (simp only [DZ]; omega)) only [RUN],SlM.nil,(fun _ h=>by cases h)⟩ <;> simp (maxSteps:=2000000) (disch:=first | omega | assumption | (simp only [DS,Nat.reduceAdd, *]; done) | (simp only [DZ]; omega)) only [RUN,RU,reduceIte,Nat.reduceEqDiff,h0,h2]
  all_goals first | rfl | assumption | done
 ·rintro nq tq Nq hltq ⟨iq,out,rfl,hiq,gq0,gq2,gq4,gq7,gq8,gq9,w,g,sm,ro⟩
  simp only [ht] at hltq ⊢
  have lg:=Mem.get_lt g
  have oo:=sm.one
  have oc:=sm.cells
  by_cases hc : iq < m
  ·obtain ⟨hni,hpe⟩:=hget iq (by omega)
   have q1 : decide (((n + iq : Nat) : Int) < U.length) = true:=decide_eq_true (by omega)
   have q2 : decide (((n + iq : Nat) : Int) < (n : Int) + 3) = true:=decide_eq_true (by omega)
   have w1 : IntKind.i64.wrap (((n + iq : Nat) : Int) + 1) = ((n + (iq + 1) : Nat) : Int):=by rw [wrap_i64] <;> omega
   obtain ⟨r,hiad,hr,hrl⟩:=hru.iad (n + iq) hni
   have hcP : iq < P.length:=by omega
   have hsn : (P.take (iq + 1)).map (zCS l v) = (P.take iq).map (zCS l v) ++ [zCS l v U[n + iq]]:=by rw [take_snoc P iq hcP,List.map_append,hpe]; rfl
   have hmi:=hmay U[n + iq] (List.getElem_mem hni)
   generalize U[n + iq] = e at *
   obtain ⟨ra,rfl,hra,hok⟩:=hr
   obtain ⟨rh,hrh,hhd⟩:=zEX (fuel:=fuel) (d:=d) hS hra hok hh hmi hv hvm hl hf
   have hll : ((P.take iq).map (zCS l v)).length ≤ 3:=by rw [List.length_map,List.length_take]; omega
   simp (maxSteps:=2000000) (disch:=first | omega | assumption | (simp only [DS,Nat.reduceAdd, *]; done) | (simp only [DZ]; omega)) only [RUN,RU,zA2,zA1,slot,lay,zAJ,zAD,reduceIte,Nat.reduceEqDiff,Nat.reduceBEq,Nat.reduceAdd,gq0,gq2,gq4,gq7,gq8,gq9,lru,q1,w3,q2,hiad,g,hhd]
   refine ⟨zBE sm.rl (by omega), ?_⟩
   refine app1 (bytes:=112) w sm zDH (x:=zCS l v e) ⟨rh,rfl,hrh,zI6 hok⟩ rfl (by omega) (by omega) (by omega) fun o' M' m' w' le' kp' nw' wm' rl' on' oc'=>?_
   simp (maxSteps:=2000000) (disch:=first | omega | assumption | (simp only [DS,Nat.reduceAdd, *]; done) | (simp only [DZ]; omega)) only [RUN,RU,zA2,zA1,reduceIte,Nat.reduceEqDiff,Nat.reduceAdd,gq0,gq2,gq4,gq7,gq8,gq9,w',w1]
   refine ⟨hltq,m - (iq + 1),by omega,iq + 1,o',rfl,by omega,rfl,rfl, ?_,by rw [hsn]; exact m',fun j hj=>?_⟩
   ·rw [kp' 0 lg (fun h=>by have:=ro 0 h; omega)]; exact g
   ·rcases nw' j hj with h | h
    ·exact ro j h
    ·omega
  ·have him : iq = m:=by omega
   rw [List.take_of_length_le (by omega)] at sm
   obtain ⟨r,hz,hsr⟩:=sm.frz zDH.cel (k:=12) (by omega)
   by_cases q : n + iq < U.length
   ·have q1 : decide (((n + iq : Nat) : Int) < U.length) = true:=decide_eq_true (by omega)
    have q2 : decide (((n + iq : Nat) : Int) < (n : Int) + 3) = false:=decide_eq_false (by omega)
    simp (maxSteps:=2000000) (disch:=first | omega | assumption | (simp only [DS,Nat.reduceAdd, *]; done) | (simp only [DZ]; omega)) only [RUN,RU,zA2,zA1,zA0,zA5,frzL,reduceIte,Nat.reduceEqDiff,gq2,gq7,gq8,gq9,lru,q1,w3,q2,hz]
    exact ⟨r,hsr,rfl⟩
   ·have q1 : decide (((n + iq : Nat) : Int) < U.length) = false:=decide_eq_false (by omega)
    simp (maxSteps:=2000000) (disch:=first | omega | assumption | (simp only [DS,Nat.reduceAdd, *]; done) | (simp only [DZ]; omega)) only [RUN,RU,zA2,zA1,zA0,zA5,frzL,reduceIte,Nat.reduceEqDiff,gq7,gq8,gq9,lru,q1,hz]
    exact ⟨r,hsr,rfl⟩
set_option maxHeartbeats 8000000 in
theorem zKM {fr : Int} (hS : Sl 17 isOp a l) (hv : v.ok) (hl : l.length ≤ 10000) (hf : 64 * l.length + 2000 < fuel) : ∃ r,zXS l v fr r ∧ ∀ M,zAC Tryz.prog (fsT tbl) fuel (d + 8) (.fn 10) [a,lbA v,I64 fr] M = some (r,M):=by
 have hm:=fun M=>zDV (fuel:=fuel) (d:=d) hS hl (by omega) M
 have h1':=fun M=>@zDQ fuel (d + 6) v M
 obtain ⟨ru,hru,hup⟩:=zEE (fuel:=fuel) (d:=d + 4) hS hv (by omega) (by omega)
 have lru:=hru.len
 have hlow:=zFB l v
 refine zDI tf10 rfl (fun M=>by simp only [icyL,fun M=>hS.icy M 12 (by omega),zAK (zBA v) (show 1 < 12 by omega),zH4]) ?_
 refine zAH tf10 rfl (by simp only [icyL,fun M=>hS.icy M 12 (by omega),zAK (zBA v) (show 1 < 12 by omega),zH4]) (by simp [a10]) fun b' ht hx=>?_
 have h0:=hx 0 _ rfl
 have h1:=hx 1 _ rfl
 have h2:=hx 2 _ rfl
 clear hx
 simp only [a10,c10,zzm] at ht ⊢
 unfold zXS zGK zDZ zDY zGJ
 cases e1 : zAW [] l with
 | false =>
  rw [e1] at hm
  simp (maxSteps:=2000000) (disch:=first | omega | assumption | (simp only [DS,Nat.reduceAdd, *]; done) | (simp only [DZ]; omega)) only [RUN,RU,zA2,zA1,zA0,zA5,frzL,reduceIte,Nat.reduceEqDiff,h0,h1,hm]
  exact ⟨_,⟨NIL,rfl,.inl ⟨rfl,rfl⟩⟩,rfl⟩
 | true =>
  rw [e1] at hm
  cases e2 : v.may with
  | false =>
   rw [e2] at h1'
   simp (maxSteps:=2000000) (disch:=first | omega | assumption | (simp only [DS,Nat.reduceAdd, *]; done) | (simp only [DZ]; omega)) only [RUN,RU,zA2,zA1,zA0,zA5,frzL,slot,reduceIte,Nat.reduceEqDiff,h0,h1,hm,h1']
   exact ⟨_,⟨NIL,rfl,.inl ⟨rfl,rfl⟩⟩,rfl⟩
  | true =>
   rw [e2] at h1'
   have e0 : err (true && true) = 0:=rfl
   simp only [e0,if_true]
   by_cases q1 : fr < 0
   ·have q1':=decide_eq_true q1
    simp (maxSteps:=2000000) (disch:=first | omega | assumption | (simp only [DS,Nat.reduceAdd, *]; done) | (simp only [DZ]; omega)) only [RUN,RU,zA2,zA1,zA0,zA5,frzL,slot,reduceIte,Nat.reduceEqDiff,Int.reduceEq,h0,h1,h2,hm,h1',hup,lru,q1,true_or,if_true]
    exact ⟨_,⟨NIL,rfl,.inl ⟨rfl,rfl⟩⟩,rfl⟩
   ·have q1':=decide_eq_false q1
    by_cases q2 : ((lowL l v).length : Int) < fr
    ·have q2':=decide_eq_true q2
     simp (maxSteps:=2000000) (disch:=first | omega | assumption | (simp only [DS,Nat.reduceAdd, *]; done) | (simp only [DZ]; omega)) only [RUN,RU,zA2,zA1,zA0,zA5,frzL,slot,reduceIte,Nat.reduceEqDiff,Int.reduceEq,h0,h1,h2,hm,h1',hup,lru,q1,q2,or_true,if_true]
     exact ⟨_,⟨NIL,rfl,.inl ⟨rfl,rfl⟩⟩,rfl⟩
    ·have q2':=decide_eq_false q2
     simp only [q1,q2,or_self,if_false,if_true]
     obtain ⟨n,rfl⟩ : ∃ n : Nat,fr = n:=⟨fr.toNat,by omega⟩
     obtain ⟨rs,hrs,hsv⟩:=zIH (fuel:=fuel) (d:=d + 1) (n:=n) hS e1 hv e2 hl (by omega) (by omega)
     have ors:=hrs.one
     rw [Int.toNat_natCast]
     simp (maxSteps:=2000000) (disch:=first | omega | assumption | (simp only [DS,Nat.reduceAdd, *]; done) | (simp only [DZ]; omega)) only [RUN,RU,zA2,zA1,zA0,zA5,frzL,slot,reduceIte,Nat.reduceEqDiff,h0,h1,h2,hm,h1',hup,lru,q1',q2',hsv,hrs.fz.frz]
     exact ⟨_,⟨rs,rfl,hrs⟩,rfl⟩
def tkE (m : List Op) (v : Lb) (fr : Int) (p : List Op) : Int :=
 if (zAW [] m && v.may) = false then 8 else if 3 < p.length then 4 else if fr ≠ m.length then 6 else if (p.any (fun o => !o.hd.lb.leq v) || !zAW [] (m ++ p)) = true then 8 else 0
def tkL (m : List Op) (v : Lb) (fr : Int) (p : List Op) : List Op:=if tkE m v fr p = 0 then m ++ p else []
theorem zUE (p : List Op) (v : Lb) : decide ((lowL p v).length = p.length) = !(p.any fun o => !o.hd.lb.leq v):=by
 have e1 : (p.any fun o => !o.hd.lb.leq v) = !(p.all fun o=>o.hd.lb.leq v):=zHT _ _
 rw [e1,Bool.not_not,Bool.eq_iff_iff,decide_eq_true_iff,List.all_eq_true]
 unfold lowL
 rw [List.length_filter_eq_length_iff]
set_option maxHeartbeats 16000000 in
theorem zKN {b : AV} {fr : Int} {p : List Op} (hS : Sl 17 isOp a l) (hP : Sl 17 isOp b p) (hv : v.ok) (hl : l.length ≤ 1000) (hpl : p.length ≤ 1000) (hf : 200000 < fuel) (hd : ∀ o ∈ l ++ p,o.rs.length ≤ 1000000000) : ∃ r,Sl 17 isOp r (tkL l v fr p) ∧ ∀ M,zAC Tryz.prog (fsT tbl) fuel (d + 8) (.fn 12) [a,lbA v,I64 fr,b] M = some (.tup [r,I64 (tkE l v fr p)],M):=by
 have ll:=hS.len
 have lp:=hP.len
 have hm:=fun M=>zDV (fuel:=fuel) (d:=d) hS (by omega) (by omega) M
 have h1':=fun M=>@zDQ fuel (d + 6) v M
 obtain ⟨ru,hru,hup⟩:=zEE (fuel:=fuel) (d:=d + 4) hP hv (by omega) (by omega)
 have lru:=hru.len
 have hlow:=zFB p v
 have hla:=zUE p v
 have hpz : (l ++ p).length ≤ 2000:=by rw [List.length_append]; omega
 refine zDI tf12 rfl (fun M=>by simp only [icyL,fun M=>hS.icy M 12 (by omega),fun M=>hP.icy M 12 (by omega),zAK (zBA v) (show 1 < 12 by omega),zH4]) ?_
 refine zAH tf12 rfl (by simp only [icyL,fun M=>hS.icy M 12 (by omega),fun M=>hP.icy M 12 (by omega),zAK (zBA v) (show 1 < 12 by omega),zH4]) (by simp [a12]) fun b' ht hx=>?_
 have h0:=hx 0 _ rfl
 have h1:=hx 1 _ rfl
 have h2:=hx 2 _ rfl
 have h3:=hx 3 _ rfl
 clear hx
 simp only [a12,c12,zz4,zzm,zzg] at ht ⊢
 have bad : ∀ {e : Int},tkE l v fr p = e → e ≠ 0 → tkL l v fr p = []:=fun h he=>by unfold tkL; rw [if_neg (by rw [h]; exact he)]
 cases e1 : zAW [] l with
 | false =>
  rw [e1] at hm
  have e : tkE l v fr p = 8:=by unfold tkE; rw [e1]; rfl
  rw [bad e (by decide),e]
  simp (maxSteps:=2000000) (disch:=first | omega | assumption | (simp only [DS,Nat.reduceAdd, *]; done) | (simp only [DZ]; omega)) only [RUN,RU,zA2,zA1,zA0,zA5,frzL,reduceIte,Nat.reduceEqDiff,h0,h1,hm]
  exact ⟨NIL,.inl ⟨rfl,rfl⟩,rfl⟩
 | true =>
  rw [e1] at hm
  cases e2 : v.may with
  | false =>
   rw [e2] at h1'
   have e : tkE l v fr p = 8:=by unfold tkE; rw [e1,e2]; rfl
   rw [bad e (by decide),e]
   simp (maxSteps:=2000000) (disch:=first | omega | assumption | (simp only [DS,Nat.reduceAdd, *]; done) | (simp only [DZ]; omega)) only [RUN,RU,zA2,zA1,zA0,zA5,frzL,slot,reduceIte,Nat.reduceEqDiff,h0,h1,hm,h1']
   exact ⟨NIL,.inl ⟨rfl,rfl⟩,rfl⟩
  | true =>
   rw [e2] at h1'
   have eA : tkE l v fr p = if 3 < p.length then 4 else if fr ≠ l.length then 6 else if (p.any (fun o => !o.hd.lb.leq v) || !zAW [] (l ++ p)) = true then 8 else 0:=by unfold tkE; rw [e1,e2]; rfl
   by_cases q1 : 3 < p.length
   ·have q1' : decide ((3 : Int) < p.length) = true:=decide_eq_true (by omega)
    have e : tkE l v fr p = 4:=by rw [eA,if_pos q1]
    rw [bad e (by decide),e]
    simp (maxSteps:=2000000) (disch:=first | omega | assumption | (simp only [DS,Nat.reduceAdd, *]; done) | (simp only [DZ]; omega)) only [RUN,RU,zA2,zA1,zA0,zA5,frzL,slot,reduceIte,Nat.reduceEqDiff,h0,h1,h3,hm,h1',lp,q1']
    exact ⟨NIL,.inl ⟨rfl,rfl⟩,rfl⟩
   ·have q1' : decide ((3 : Int) < p.length) = false:=decide_eq_false (by omega)
    by_cases q2 : fr = l.length
    ·have q2':=decide_eq_true q2
     have eB : tkE l v fr p = if (p.any (fun o => !o.hd.lb.leq v) || !zAW [] (l ++ p)) = true then 8 else 0:=by rw [eA,if_neg q1,if_neg (fun h=>h q2)]
     simp (maxSteps:=2000000) (disch:=first | omega | assumption | (simp only [DS,Nat.reduceAdd, *]; done) | (simp only [DZ]; omega)) only [RUN,RU,zA2,zA1,slot,reduceIte,Nat.reduceEqDiff,h0,h1,h2,h3,hS.fz.rows,hm,h1',lp,ll,q1',q2']
     have wX : Wf (mem0.add (.row false (lbR v))):=Wf.mem0.add _
     refine zHQ (bytes:=112) wX SlM.nil zDH.cel hS (by omega) (by simp; omega) (by simp; omega) fun o1 M1 m1 w1 le1 sz1 kp1 nw1 wm1 rl1 on1 oc1=>?_
     have g1 : M1.get 0 = some (.row false (lbR v)):=by rw [kp1 0 (by show 0 < 1; omega) (by simp [rowOf])]; simp (maxSteps:=2000000) (disch:=first | omega | assumption | (simp only [DS,Nat.reduceAdd, *]; done) | (simp only [DZ]; omega)) only [RUN]
     have nn1 : ∀ id,rowOf o1 = some id → 1 ≤ id:=fun id h=>by
      rcases nw1 id h with h' | h'
      ·cases h'
      ·exact h'
     rw [List.nil_append] at m1
     simp (maxSteps:=2000000) (disch:=first | omega | assumption | (simp only [DS,Nat.reduceAdd, *]; done) | (simp only [DZ]; omega)) only [RUN,RU,zA2,zA1,reduceIte,Nat.reduceEqDiff,h3,hP.fz.rows,rl1]
     refine zHQ (bytes:=112) w1 m1 zDH.cel hP (by omega) (by rw [← List.length_append]; omega) (by rw [← List.length_append]; omega) fun o2 M2 m2 w2 le2 sz2 kp2 nw2 wm2 rl2 on2 oc2=>?_
     have l0:=Mem.get_lt g1
     have g2 : M2.get 0 = some (.row false (lbR v)):=by rw [kp2 0 l0 (fun h=>by have:=nn1 0 h; omega)]; exact g1
     have nn2 : ∀ id,rowOf o2 = some id → 1 ≤ id:=fun id h=>by
      rcases nw2 id h with h' | h'
      ·exact nn1 id h'
      ·omega
     cases q3 : p.any (fun o => !o.hd.lb.leq v) with
     | true =>
      have q3' : decide (((lowL p v).length : Int) = p.length) = false:=by
       rw [q3] at hla
       refine decide_eq_false fun h=>?_
       have:=of_decide_eq_false hla
       omega
      have e : tkE l v fr p = 8:=by rw [eB,q3]; rfl
      rw [bad e (by decide),e]
      simp (maxSteps:=2000000) (disch:=first | omega | assumption | (simp only [DS,Nat.reduceAdd, *]; done) | (simp only [DZ]; omega)) only [RUN,RU,zA2,zA1,zA0,zA5,frzL,slot,reduceIte,Nat.reduceEqDiff,h3,g2,hup,lru,lp,q3']
      exact ⟨NIL,.inl ⟨rfl,rfl⟩,rfl⟩
     | false =>
      have q3' : decide (((lowL p v).length : Int) = p.length) = true:=by
       rw [q3] at hla
       have:=of_decide_eq_true hla
       exact decide_eq_true (by omega)
      simp (maxSteps:=2000000) (disch:=first | omega | assumption | (simp only [DS,Nat.reduceAdd, *]; done) | (simp only [DZ]; omega)) only [RUN,RU,zA2,zA1,slot,reduceIte,Nat.reduceEqDiff,h3,g2,hup,lru,lp,q3']
      refine SlR.hand (n:=d + 6) (rest:=[]) (R:=fun r=>r = BL (zAW [] (l ++ p))) tf20 rfl (SlR.of m2) w2 zDH (fun _=>rfl) (fun o' ho'=>⟨_,rfl,fun M=>zDV (fuel:=fuel) (d:=d) ho' (by omega) (by omega) M⟩) fun r M3 hr w3 s3 n3 k3=>?_
      subst hr
      cases q4 : zAW [] (l ++ p) with
      | false =>
       have e : tkE l v fr p = 8:=by rw [eB,q3,q4]; rfl
       rw [bad e (by decide),e]
       simp (maxSteps:=2000000) (disch:=first | omega | assumption | (simp only [DS,Nat.reduceAdd, *]; done) | (simp only [DZ]; omega)) only [RUN,RU,zA2,zA1,zA0,zA5,frzL,reduceIte,Nat.reduceEqDiff]
       exact ⟨NIL,.inl ⟨rfl,rfl⟩,rfl⟩
      | true =>
       have e : tkE l v fr p = 0:=by rw [eB,q3,q4]; rfl
       have eL : tkL l v fr p = l ++ p:=by unfold tkL; rw [if_pos e]
       rw [eL,e]
       simp (maxSteps:=2000000) (disch:=first | omega | assumption | (simp only [DS,Nat.reduceAdd, *]; done) | (simp only [DZ]; omega)) only [RUN,RU,zA2,zA1,reduceIte,Nat.reduceEqDiff]
       refine SlR.hand (n:=d + 6) (rest:=[]) (R:=fun r=>Sl 17 isOp r (l ++ p)) tf5 rfl n3 w3 zDH (fun _=>rfl) (fun o' ho'=>zED (fuel:=fuel) (d:=d + 5) ho' (by omega) hd (by omega)) fun r M4 hr w4 s4 n4 k4=>?_
       have orr:=hr.one
       simp (maxSteps:=2000000) (disch:=first | omega | assumption | (simp only [DS,Nat.reduceAdd, *]; done) | (simp only [DZ]; omega)) only [RUN,RU,zA2,zA1,zA0,zA5,frzL,reduceIte,Nat.reduceEqDiff,hr.fz.frz]
       exact ⟨r,hr,rfl⟩
    ·have q2':=decide_eq_false q2
     have e : tkE l v fr p = 6:=by rw [eA,if_neg q1,if_pos q2]
     rw [bad e (by decide),e]
     simp (maxSteps:=2000000) (disch:=first | omega | assumption | (simp only [DS,Nat.reduceAdd, *]; done) | (simp only [DZ]; omega)) only [RUN,RU,zA2,zA1,zA0,zA5,frzL,slot,reduceIte,Nat.reduceEqDiff,h0,h1,h2,h3,hm,h1',lp,ll,q1',q2']
     exact ⟨NIL,.inl ⟨rfl,rfl⟩,rfl⟩
end Go.Proofs.YtkfdflajadkfkaaGreat
namespace Go.Proofs.YtkfdflajadkfkaaGreat
open Go Go.Ax
variable {fuel : Nat} {M : Mem} {Q : AV → Mem → Prop} {d : Nat} {x : Eid} {l : List Op} {o : Op} {ra ops a : AV} {B id m : Nat} {v : Lb}
def SlF {α : Type} (M : Mem) (st : Nat) (T : List AV → α → Prop) (a : AV) (l : List α) : Prop :=
 (a = NIL ∧ l = []) ∨ ∃ (id : Nat) (rows : List (List AV)) (cap : Option Nat),a = .sl id 0 rows.length cap st ∧ id < M.size ∧ M.rd id = some rows.flatten ∧ All2 T rows l ∧ ∀ r ∈ rows,r.length = st
section
variable {α : Type} {st : Nat} {T : List AV → α → Prop} {a : AV} {l : List α}
theorem SlF.of (h : SlM M st T a l) : SlF M st T a l:=by
 rcases h with h | ⟨id,rows,cap,rfl,_,hg,hA,hr⟩
 ·exact .inl h
 ·exact .inr ⟨id,rows,cap,rfl,Mem.get_lt hg,zBJ hg,hA,hr⟩
theorem SlF.one (h : SlF M st T a l) : oneA a = true:=by
 rcases h with ⟨rfl,_⟩ | ⟨_,_,_,rfl,_⟩ <;> rfl
theorem SlF.keep {N : Mem} (h : SlF M st T a l) (hs : M.size ≤ N.size) (k : ∀ id,rowOf a = some id → N.get id = M.get id) : SlF N st T a l:=by
 rcases h with h | ⟨id,rows,cap,rfl,hi,hg,hA,hr⟩
 ·exact .inl h
 ·exact .inr ⟨id,rows,cap,rfl,by omega,by rw [zCB,k id rfl,← zCB]; exact hg,hA,hr⟩
theorem SlF.lt (h : SlF M st T a l) : ∀ id,rowOf a = some id → id < M.size:=by
 rintro id hid
 rcases h with ⟨rfl,rfl⟩ | ⟨id',rows,cap,rfl,hi,hg,hA,hr⟩
 ·cases hid
 ·cases hid; exact hi
theorem SlF.rows (h : SlF M st T a l) {n : Nat} (hn : M.size ≤ n) : ((rowsOf a).all fun i=>Nat.blt i n) = true:=by
 rcases h with ⟨rfl,rfl⟩ | ⟨id',rows,cap,rfl,hi,hg,hA,hr⟩
 ·rfl
 ·simp only [rowsOf,List.all_cons,List.all_nil,Bool.and_true]
  exact zJQ (by omega)
theorem SlF.open (h : SlF M st T a l) : ∃ rows : List (List AV),(∀ N,(∀ j,rowOf a = some j → N.get j = M.get j) → cellsOf N a = some rows.flatten) ∧ lenA a = some l.length ∧ All2 T rows l ∧ ∀ r ∈ rows,r.length = st:=by
 rcases h with ⟨rfl,rfl⟩ | ⟨id,rows,cap,rfl,hi,hg,hA,hr⟩
 ·exact ⟨[],fun N _=>rfl,rfl,.nil,by simp⟩
 ·have hfl:=zAI hr
  refine ⟨rows,fun N hN=>?_,by simp only [lenA]; rw [hA.length_eq],hA,hr⟩
  have hrd : N.rd id = some rows.flatten:=by rw [zCB,hN id rfl,← zCB]; exact hg
  simp only [cellsOf,hrd,Nat.ble_eq_true_of_le (show 0 + rows.length * st ≤ rows.flatten.length by omega)]
  rw [zBC _ _ hfl.symm]
end
theorem zTM {a : AV} {l : List Int} (hS : SlF M 1 zAS a l) (hl : l.length ≤ 1000000) (wf : Wf M)
  (k : ∀ a' M',Wf M' → M.size ≤ M'.size → (∀ j,j < M.size → M'.get j = M.get j) → SlM M' 1 zAS a' l → (∀ id,rowOf a' = some id → M.size ≤ id) → M'.wm = M.wm → Q a' M') : W3 (zAC Tryz.prog (fsT tbl) fuel (d + 1) (.fn 48) [a] M) Q:=by
 have hu:=Tryz.underlying32
 have hrl:=hS.rows (n:=M.size + 1) (by omega)
 have hrl0:=hS.rows (n:=M.size) (by omega)
 rcases (_root_.id hS) with ⟨rfl,rfl⟩ | ⟨id,rows,cap,rfl,lid,hg,hA,hr⟩
 ·have k1:=k NIL M wf (Nat.le_refl _) (fun _ _=>rfl) .nil (fun id h=>by cases h) rfl
  refine zAY tf48 rfl (by simp [a48]) fun b ht hx=>?_
  have h0:=hx 0 _ rfl
  clear hx
  simp only [a48,c48,zzm] at ht ⊢
  simp (maxSteps:=2000000) (disch:=first | omega | assumption | (simp only [DS,Nat.reduceAdd, *]; done) | (simp only [DZ]; omega)) only [RUN,RU,zA2,zA1,zA0,zA5,reduceIte,Nat.reduceEqDiff,pNil hu,h0,k1]
 ·obtain ⟨rows',hcl,hla,hA',hr'⟩:=hS.open
  refine zAY tf48 rfl (by simp [a48]) fun b ht hx=>?_
  have h0:=hx 0 _ rfl
  clear hx
  simp only [a48,c48,zzm] at ht ⊢
  simp (maxSteps:=2000000) (disch:=first | omega | assumption | (simp only [DS,Nat.reduceAdd, *]; done) | (simp only [DZ]; omega)) only [RUN,RU,zA2,zA1,zAJ,zAD,reduceIte,Nat.reduceEqDiff,h0]
  refine zPI (X:=M.add (.row false [])) (l:=([] : List Int)) (wf.add _) (.inr ⟨M.size,[],some 0,rfl,.inr rfl,zAG wf _ _ (Nat.le_refl _) (by omega),.nil,by simp⟩) zE1.cel (hcl _ fun j hj=>by cases hj; exact zAF wf _ _ lid) hla hA' hr' (by omega) (by simp; omega) (by simp; omega) fun a' M' m w le sz kp nw wm rl on oc=>?_
  rw [zA8] at le kp nw
  simp (maxSteps:=2000000) (disch:=first | omega | assumption | (simp only [DS,Nat.reduceAdd, *]; done) | (simp only [DZ]; omega)) only [RUN,RU,zA2,zA1,zA0,zA5,reduceIte,Nat.reduceEqDiff]
  refine k a' M' w (by omega) (fun j hj=>?_) (by simpa using m) (fun id' hid=>?_) wm
  ·rw [kp j (by omega) (fun h=>by cases h; omega),zAF wf _ _ hj]
  ·rcases nw id' hid with h | h
   ·cases h; omega
   ·omega
theorem zOR {o : Op} {ra : AV} (hS : SlF M 1 zAS ra o.rs) (hl : o.rs.length ≤ 1000000) (wf : Wf M) (hw : M.wm ≤ M.size) (k : ∀ a' N,Wf N → M.size ≤ N.size → (∀ j,j < M.size → N.get j = M.get j) → N.wm = M.wm → SlM N 1 zAS a' o.rs → (∀ id,rowOf a' = some id → M.size ≤ id) → Q (.agg (opR o a')) N) :
  W3 (zAC Tryz.prog (fsT tbl) fuel (d + 2) (.fn 30) [.agg (opR o ra)] M) Q:=by
 have ora:=hS.one
 have hrl : ∀ n,M.size ≤ n → ((rowsOf ra).all fun i=>Nat.blt i n) = true:=fun n hn=>hS.rows hn
 refine zAY tf30 rfl (by simp [a30]) fun b' ht hx=>?_
 have h0:=hx 0 _ rfl
 clear hx
 simp only [a30,c30,zz4] at ht ⊢
 simp (maxSteps:=2000000) (disch:=first | omega | assumption | (simp only [DS,Nat.reduceAdd, *]; done) | (simp only [DZ]; omega)) only [RUN,RU,zA2,zA1,reduceIte,Nat.reduceEqDiff,h0]
 refine zTM (hS.keep (by simp only [zA8]; omega) fun j hj=>?_) hl (by simp (maxSteps:=2000000) (disch:=first | omega | assumption | (simp only [DS,Nat.reduceAdd, *]; done) | (simp only [DZ]; omega)) only [RUN,wf]) fun a' M' wf' le' kp' sm' new' wm'=>?_
 ·have:=hS.lt j hj
  rw [zAF (wf.add _) _ _ (by rw [zA8]; omega),zAF wf _ _ this]
 simp only [zA8] at le' kp' new'
 have g0 : M'.get M.size = some (.row false (opR o ra)):=by rw [kp' _ (by omega)]; simp (maxSteps:=2000000) (disch:=first | omega | assumption | (simp only [DS,Nat.reduceAdd, *]; done) | (simp only [DZ]; omega)) only [RUN]
 have g1 : M'.get (M.size + 1) = some (.row false (opR ⟨0,Hd.z,0,⟨Eid.z,0⟩,Eid.z,Lb.z,[]⟩ NIL)):=by rw [kp' _ (by omega)]; simp (maxSteps:=2000000) (disch:=first | omega | assumption | (simp only [DS,Nat.reduceAdd, *]; done) | (simp only [DZ]; omega)) only [RUN]
 have oa:=sm'.one
 have ca:=sm'.cells
 have rl:=zBE sm'.rl (Nat.le_refl M'.size)
 have z0 : M.size < M'.size:=by omega
 have z1 : M.size + 1 < M'.size:=by omega
 simp (maxSteps:=2000000) (disch:=first | omega | assumption | (simp only [DS,Nat.reduceAdd, *]; done) | (simp only [DZ]; omega)) only [RUN,RU,zA2,zA1,zA0,zA5,slot,lay,reduceIte,Nat.reduceEqDiff,Nat.reduceAdd,g0,g1,ca]
 refine k a' _ ((wf'.upd _ _).upd _ _) (by simp only [zAE]; omega) (fun j hj=>by rw [zAA (wf'.upd _ _) _ _ _ (by omega),zAA wf' _ _ _ (by omega),kp' j (by omega),zAF (wf.add _) _ _ (by rw [zA8]; omega),zAF wf _ _ hj]) wm' (sm'.keep fun j hj=>?_) (fun id h=>by have:=new' id h; omega)
 have:=new' j hj
 simp (maxSteps:=2000000) (disch:=first | omega | assumption | (simp only [DS,Nat.reduceAdd, *]; done) | (simp only [DZ]; omega)) only [RUN]
set_option maxHeartbeats 8000000 in
theorem zU4 (hS : Sl 17 isOp a l) (hl : l.length ≤ 40000) (hF : SlF M 1 zAS ra o.rs) (ho : o.ok) (hc : 0 ≤ o.sp.f.c ∧ o.sp.f.c ≤ 2000000000000) (hrl : o.rs.length ≤ 100000) (hf : l.length + o.rs.length + 300 < fuel) (wf : Wf M) (hw : M.wm ≤ M.size)
  (k : ∀ a' N,Wf N → M.size ≤ N.size → (∀ j,j < M.size → N.get j = M.get j) → SlM N 1 zAS a' (zDX l o v) → (∀ id,rowOf a' = some id → M.size ≤ id) → N.wm = M.wm → Q (.agg (opR o a')) N) :
  W3 (zAC Tryz.prog (fsT tbl) fuel (d + 13) (.fn 19) [a,.agg (opR o ra),lbA v] M) Q:=by
 have oa:=hS.one
 have ora:=hF.one
 have hrw : ∀ n,M.size ≤ n → ((rowsOf ra).all fun i=>Nat.blt i n) = true:=fun n hn=>hF.rows hn
 have z:=opR ⟨0,Hd.z,0,⟨Eid.z,0⟩,Eid.z,Lb.z,[]⟩ NIL
 have kA:=((((Kept.refl wf).add (.row false [a])).add (.row false (opR o ra))).add (.row false (lbR v))).add (.row false (opR ⟨0,Hd.z,0,⟨Eid.z,0⟩,Eid.z,Lb.z,[]⟩ NIL))
 have wA:=kA.wf
 have sA : ((((M.add (.row false [a])).add (.row false (opR o ra))).add (.row false (lbR v))).add (.row false (opR ⟨0,Hd.z,0,⟨Eid.z,0⟩,Eid.z,Lb.z,[]⟩ NIL))).size = M.size + 4:=rfl
 have y0 : ((((M.add (.row false [a])).add (.row false (opR o ra))).add (.row false (lbR v))).add (.row false (opR ⟨0,Hd.z,0,⟨Eid.z,0⟩,Eid.z,Lb.z,[]⟩ NIL))).get M.size = some (.row false [a]):=by simp (maxSteps:=2000000) (disch:=first | omega | assumption | (simp only [DS,Nat.reduceAdd, *]; done) | (simp only [DZ]; omega)) only [RUN]
 have y1 : ((((M.add (.row false [a])).add (.row false (opR o ra))).add (.row false (lbR v))).add (.row false (opR ⟨0,Hd.z,0,⟨Eid.z,0⟩,Eid.z,Lb.z,[]⟩ NIL))).get (M.size + 1) = some (.row false (opR o ra)):=by simp (maxSteps:=2000000) (disch:=first | omega | assumption | (simp only [DS,Nat.reduceAdd, *]; done) | (simp only [DZ]; omega)) only [RUN]
 have y2 : ((((M.add (.row false [a])).add (.row false (opR o ra))).add (.row false (lbR v))).add (.row false (opR ⟨0,Hd.z,0,⟨Eid.z,0⟩,Eid.z,Lb.z,[]⟩ NIL))).get (M.size + 1 + 1) = some (.row false (lbR v)):=by simp (maxSteps:=2000000) (disch:=first | omega | assumption | (simp only [DS,Nat.reduceAdd, *]; done) | (simp only [DZ]; omega)) only [RUN]
 have y3 : ((((M.add (.row false [a])).add (.row false (opR o ra))).add (.row false (lbR v))).add (.row false (opR ⟨0,Hd.z,0,⟨Eid.z,0⟩,Eid.z,Lb.z,[]⟩ NIL))).get (M.size + 1 + 1 + 1) = some (.row false (opR ⟨0,Hd.z,0,⟨Eid.z,0⟩,Eid.z,Lb.z,[]⟩ NIL)):=by simp (maxSteps:=2000000) (disch:=first | omega | assumption | (simp only [DS,Nat.reduceAdd, *]; done) | (simp only [DZ]; omega)) only [RUN]
 refine zAY tf19 rfl (by simp [a19]) fun b' ht hx=>?_
 have h0:=hx 0 _ rfl
 have h1:=hx 1 _ rfl
 have h2:=hx 2 _ rfl
 clear hx
 simp only [a19,c19,zz4,zzm] at ht ⊢
 simp (maxSteps:=2000000) (disch:=first | omega | assumption | (simp only [DS,Nat.reduceAdd, *]; done) | (simp only [DZ]; omega)) only [RUN,RU,zA2,zA1,slot,reduceIte,Nat.reduceEqDiff,h0,h1,h2,hS.fz.cells]
 refine zOR (d:=d + 10) (hF.keep (by simp only [zA8]; omega) fun j hj=>?_) (by omega) (by simp (maxSteps:=2000000) (disch:=first | omega | assumption | (simp only [DS,Nat.reduceAdd, *]; done) | (simp only [DZ]; omega)) only [RUN,wf]) (by simp only [zA8]; show M.wm ≤ _; omega) fun a' N wN0 leN kN wmN sm nw=>?_
 ·exact kA.get j (hF.lt j hj)
 replace nw : ∀ id,rowOf a' = some id → M.size + 4 ≤ id:=nw
 generalize (((M.add (.row false [a])).add (.row false (opR o ra))).add (.row false (lbR v))).add (.row false (opR ⟨0,Hd.z,0,⟨Eid.z,0⟩,Eid.z,Lb.z,[]⟩ NIL)) = X at *
 have x0:=(kN _ (Mem.get_lt y0)).trans y0
 have x1:=(kN _ (Mem.get_lt y1)).trans y1
 have x2:=(kN _ (Mem.get_lt y2)).trans y2
 have x3:=(kN _ (Mem.get_lt y3)).trans y3
 have l1:=Mem.get_lt x1
 have wN:=wN0
 have oa':=sm.one
 have ca':=sm.cells
 have hln:=sm.len
 simp (maxSteps:=2000000) (disch:=first | omega | assumption | (simp only [DS,Nat.reduceAdd, *]; done) | (simp only [DZ]; omega)) only [RUN,RU,zA2,zA1,lay,reduceIte,Nat.reduceEqDiff,Nat.reduceAdd,x1,hln]
 have r1 : ∀ j,rowOf a' = some j → M.size + 4 ≤ j:=nw
 have eN : ∀ j,j ≠ M.size + 1 → (N.upd (M.size + 1) (.row false (opR o a'))).get j = N.get j:=fun j hj=>zAA wN _ _ _ (fun e=>hj e.symm)
 have wY:=wN.upd (M.size + 1) (.row false (opR o a'))
 have sY : M.size + 4 ≤ (N.upd (M.size + 1) (.row false (opR o a'))).size:=by rw [zAE]; omega
 have z0:=(eN M.size (by omega)).trans x0
 have z1 : (N.upd (M.size + 1) (.row false (opR o a'))).get (M.size + 1) = some (.row false (opR o a')):=zAP wN _ _ l1
 have z2:=(eN (M.size + 1 + 1) (by omega)).trans x2
 have z3:=(eN (M.size + 1 + 1 + 1) (by omega)).trans x3
 have zm : SlM (N.upd (M.size + 1) (.row false (opR o a'))) 1 zAS a' o.rs:=sm.keep fun j hj=>eN j (by have:=r1 j hj; omega)
 have zw : (N.upd (M.size + 1) (.row false (opR o a'))).wm = M.wm:=wmN.trans kA.wm
 have zk : ∀ j,j < M.size → (N.upd (M.size + 1) (.row false (opR o a'))).get j = M.get j:=fun j hj=>(eN j (by omega)).trans ((kN j (by omega)).trans (kA.get j hj))
 generalize N.upd (M.size + 1) (.row false (opR o a')) = Y at *
 have c0 : curL l o v 0 = o.rs:=by unfold curL; simp
 refine zB1 (I:=fun nq tq Nq => ∃ (iq : Nat),nq = o.rs.length - iq ∧ iq ≤ o.rs.length ∧ nth zA4 tq 4 = .ptr (M.size + 1) 0 ∧ nth zA4 tq 6 = .ptr (M.size + 1 + 1 + 1) 0 ∧ nth zA4 tq 7 = .fn 37 [] [.ptr (M.size + 1) 0,.ptr M.size 0,.ptr (M.size + 1 + 1) 0] ∧ nth zA4 tq 14 = I64 o.rs.length ∧ nth zA4 tq 15 = I64 iq ∧ Wf Nq ∧ M.size + 4 ≤ Nq.size ∧ (∀ j,j < M.size → Nq.get j = M.get j) ∧ Nq.get M.size = some (.row false [a]) ∧ Nq.get (M.size + 1) = some (.row false (opR o a')) ∧ Nq.get (M.size + 1 + 1) = some (.row false (lbR v)) ∧ Nq.get (M.size + 1 + 1 + 1) = some (.row false (opR ⟨0,Hd.z,0,⟨Eid.z,0⟩,Eid.z,Lb.z,[]⟩ NIL)) ∧ SlM Nq 1 zAS a' (curL l o v iq) ∧ Nq.wm = M.wm) (n:=o.rs.length) (by omega) ?_ ?_
 ·refine ⟨0,rfl,Nat.zero_le _, ?_, ?_, ?_, ?_, ?_,wY,sY,zk,z0,z1,z2,z3,(by rw [c0]; exact zm),zw⟩ <;> simp (maxSteps:=2000000) (disch:=first | omega | assumption | (simp only [DS,Nat.reduceAdd, *]; done) | (simp only [DZ]; omega)) only [RUN,reduceIte,Nat.reduceEqDiff]
  all_goals first | rfl | assumption | done
 ·rintro nq tq Nq hltq ⟨iq,rfl,hiq,gq4,gq6,gq7,gq14,gq15,w,sz,kp,p0,p1,p2,p3,sm2,wm⟩
  simp only [ht] at hltq ⊢
  have oa2:=sm2.one
  have ca2:=sm2.cells
  have lp1:=Mem.get_lt p1
  have lp3:=Mem.get_lt p3
  by_cases hcc : iq < o.rs.length
  ·have q1 : decide ((iq : Int) < o.rs.length) = true:=decide_eq_true (by omega)
   have w1 : IntKind.i64.wrap ((iq : Int) + 1) = ((iq + 1 : Nat) : Int):=by rw [wrap_i64] <;> omega
   simp (maxSteps:=2000000) (disch:=first | omega | assumption | (simp only [DS,Nat.reduceAdd, *]; done) | (simp only [DZ]; omega)) only [RUN,RU,zA2,zA1,reduceIte,Nat.reduceEqDiff,gq7,gq14,gq15,q1]
   refine zO1 (d:=d) (n:=iq) hS hl (by omega) ho hc w (by rw [zG6 _ _ _ _ (by omega)]; exact hcc) (by omega) sm2 p1 p0 p2 fun u N' w' le' kp' sm' wm'=>?_
   rw [zI0 _ _ _ _ hcc] at sm'
   have nr : ∀ j,j < M.size + 4 → rowOf a' ≠ some j:=fun j hj e=>by have:=r1 j e; omega
   simp (maxSteps:=2000000) (disch:=first | omega | assumption | (simp only [DS,Nat.reduceAdd, *]; done) | (simp only [DZ]; omega)) only [RUN,RU,zA2,zA1,reduceIte,Nat.reduceEqDiff,gq4,gq6,gq7,gq14,gq15,w1]
   exact ⟨hltq,o.rs.length - (iq + 1),by omega,iq + 1,rfl,by omega,rfl,w',by omega,fun j hj=>(kp' j (by omega) (nr j (by omega))).trans (kp j hj),(kp' _ (by omega) (nr _ (by omega))).trans p0,(kp' _ (by omega) (nr _ (by omega))).trans p1,(kp' _ (by omega) (nr _ (by omega))).trans p2,(kp' _ (by omega) (nr _ (by omega))).trans p3,sm',wm'.trans wm⟩
  ·obtain rfl : iq = o.rs.length:=by omega
   have q1 : decide ((o.rs.length : Int) < o.rs.length) = false:=decide_eq_false (by omega)
   have cl : curL l o v o.rs.length = zDX l o v:=by unfold curL; rw [List.drop_length,List.append_nil,List.take_of_length_le (by rw [zDA]; exact Nat.le_refl _)]
   rw [cl] at sm2
   simp (maxSteps:=2000000) (disch:=first | omega | assumption | (simp only [DS,Nat.reduceAdd, *]; done) | (simp only [DZ]; omega)) only [RUN,RU,zA2,zA1,zA0,zA5,slot,lay,reduceIte,Nat.reduceEqDiff,Nat.reduceAdd,gq4,gq6,gq14,gq15,p1,p3]
   refine k a' _ (w.upd _ _) (by rw [zAE]; omega) (fun j hj=>?_) (sm2.keep fun j hj=>?_) (fun j hj=>by have:=r1 j hj; omega) wm
   ·rw [zAA w _ _ _ (by omega)]; exact kp j hj
   ·rw [zAA w _ _ _ (by have:=r1 j hj; omega)]
theorem zK7 {α : Type} {T : List AV → α → Prop} {l : List α} {P : Program} {fs : Nat → Option AFunc} {fuel f n : Nat} {af : AFunc} {w : Value} (H : List AV) (x : AV) {rest : List AV} (h : fs f = some af) (hg : af.gc = 2) (hz : ∀ y ∈ H,Fz y) (hm : SlM M 1 T x l) (wf : Wf M) (hT : FzT T) (hre : ∀ M,icyL (icy 12) M rest = some (rest,M))
  (hc : ∀ a',Sl 1 T a' l → ∀ M,zAC P fs fuel (n + 1) (.fn f) (.agg (H ++ [a']) :: rest) M = some (.sc w,M)) : zAC P fs fuel (n + 1) (.fn f) (.agg (H ++ [x]) :: rest) M = some (.sc w,M):=by
 obtain ⟨a',N',i1,b1,_⟩:=zLB hz hm wf hT (k:=12) (by omega)
 refine zCV (bs:=.agg (H ++ [a']) :: rest) h hg (hc a' b1 mem0) (M3:=mem0) (M2:=N') ?_ ?_
 ·simp only [icyL,zAK (r:=H ++ [a']) (fun y hy=>by
   rcases List.mem_append.1 hy with hy | hy
   ·exact hz y hy
   ·rw [List.mem_singleton] at hy; subst hy; exact b1.fz) (show 1 < 12 by omega),hre]
 ·simp only [icyL,i1,hre]
theorem imax3 (a b c : Bool) : imax (imax (err a) (err b)) (err c) = err (a && b && c):=by cases a <;> cases b <;> cases c <;> rfl
set_option maxHeartbeats 8000000 in
theorem zVU (hS : Sl 17 isOp a l) (hR : SlM M 1 zAS ra o.rs) (ho : o.ok) (hl : l.length ≤ 10000) (hrl : o.rs.length ≤ 100000) (hf : l.length + 200000 < fuel) (wf : Wf M) (hw : M.wm ≤ M.size)
  (k : ∀ a' N,Wf N → M.size ≤ N.size → (∀ j,j < M.size → N.get j = M.get j) → SlM N 1 zAS a' (hdO l o v).rs → (∀ id,rowOf a' = some id → M.size ≤ id) → N.wm = M.wm → Q (.tup [.agg (opR (hdO l o v) a'),I64 (hdE l o v)]) N) :
  W3 (zAC Tryz.prog (fsT tbl) fuel (d + 15) (.fn 7) [a,.agg (opR o ra),lbA v] M) Q:=by
 have oa:=hS.one
 have ora:=hR.one
 have hrw : ∀ n,M.size ≤ n → ((rowsOf ra).all fun i=>Nat.blt i n) = true:=fun n hn=>zBE hR.rl hn
 have hck:=fun M=>zCO (fuel:=fuel) (d:=d) hS hl (by omega) M
 have hlc:=fun M=>@zCD fuel (d + 13) v M
 have nlt : ∀ id,rowOf ra = some id → id < M.size:=hR.lt
 have wX : Wf (((M.add (.row false (opR o ra))).add (.row false (lbR v))).add (.row false [U8 0,U8 0,U32 0,U8 0,I64 0,U8 0,U32 0,U8 0,I64 0,I64 0,U8 0,U32 0,U8 0,I64 0,U8 0,U32 0,NIL])):=((wf.add _).add _).add _
 have kX : ∀ j,j < M.size → (((M.add (.row false (opR o ra))).add (.row false (lbR v))).add (.row false [U8 0,U8 0,U32 0,U8 0,I64 0,U8 0,U32 0,U8 0,I64 0,I64 0,U8 0,U32 0,U8 0,I64 0,U8 0,U32 0,NIL])).get j = M.get j:=fun j hj=>by
  rw [zAF ((wf.add _).add _) _ _ (by simp only [zA8]; omega),zAF (wf.add _) _ _ (by rw [zA8]; omega),zAF wf _ _ hj]
 have x2 : (((M.add (.row false (opR o ra))).add (.row false (lbR v))).add (.row false [U8 0,U8 0,U32 0,U8 0,I64 0,U8 0,U32 0,U8 0,I64 0,I64 0,U8 0,U32 0,U8 0,I64 0,U8 0,U32 0,NIL])).get (M.size + 1 + 1) = some (.row false [U8 0,U8 0,U32 0,U8 0,I64 0,U8 0,U32 0,U8 0,I64 0,I64 0,U8 0,U32 0,U8 0,I64 0,U8 0,U32 0,NIL]):=by simp (maxSteps:=2000000) (disch:=first | omega | assumption | (simp only [DS,Nat.reduceAdd, *]; done) | (simp only [DZ]; omega)) only [RUN]
 have hoc : zAC Tryz.prog (fsT tbl) fuel (d + 14) (.fn 17) [.agg [U8 o.kd,U8 o.hd.lb.lv,U32 o.hd.lb.cats,U8 o.hd.num,I64 o.sr,U8 o.sp.f.hd.lb.lv,U32 o.sp.f.hd.lb.cats,U8 o.sp.f.hd.num,I64 o.sp.f.c,I64 o.sp.n,U8 o.af.hd.lb.lv,U32 o.af.hd.lb.cats,U8 o.af.hd.num,I64 o.af.c,U8 o.to.lv,U32 o.to.cats,ra]] (((M.add (.row false (opR o ra))).add (.row false (lbR v))).add (.row false [U8 0,U8 0,U32 0,U8 0,I64 0,U8 0,U32 0,U8 0,I64 0,I64 0,U8 0,U32 0,U8 0,I64 0,U8 0,U32 0,NIL])).lo = some (I64 (err o.may),(((M.add (.row false (opR o ra))).add (.row false (lbR v))).add (.row false [U8 0,U8 0,U32 0,U8 0,I64 0,U8 0,U32 0,U8 0,I64 0,I64 0,U8 0,U32 0,U8 0,I64 0,U8 0,U32 0,NIL])).lo) :=
  zK7 (n:=d + 13) (opH o) ra (rest:=[]) tf17 rfl (opK.hz o) (hR.keep fun j hj=>by rw [zLH]; exact kX j (hR.lt j hj)) (by rw [zI9]; exact wX) zE1 (fun _=>rfl) (fun a' ha' M=>zCK (fuel:=fuel) (d:=d + 7) ha' ho (by omega) M)
 have e3 : imax (imax (err (zAW [] l)) (err o.may)) (err v.may) = hdE l o v:=imax3 _ _ _
 refine zAY tf7 rfl (by simp [a7]) fun b' ht hx=>?_
 have h0:=hx 0 _ rfl
 have h1:=hx 1 _ rfl
 have h2:=hx 2 _ rfl
 clear hx
 simp only [a7,c7,zz4,zzm] at ht ⊢
 by_cases h : hdE l o v = 0
 ·have q:=decide_eq_true h
  obtain ⟨e1,e2,e4⟩:=zU3.1 h
  have hb:=Spn.may_le (zCP e2)
  have eO : hdO l o v = zCS l v o:=by unfold hdO; rw [if_pos h]
  simp (maxSteps:=2000000) (disch:=first | omega | assumption | (simp only [DS,Nat.reduceAdd, *]; done) | (simp only [DZ]; omega)) only [RUN,RU,zA2,zA1,slot,reduceIte,Nat.reduceEqDiff,Nat.reduceBEq,Nat.reduceAdd,h0,h1,h2,hck,hoc,hlc,zOS,BMM,e3,q]
  refine zU4 (d:=d + 1) hS (by omega) (SlF.of (hR.keep fun j hj=>kX j (hR.lt j hj))) ho ⟨by omega,by omega⟩ hrl (by omega) wX (by show M.wm ≤ _; simp only [zA8]; omega) fun a' N wN leN kN sm nw wm=>?_
  have leN : M.size + 1 + 1 + 1 ≤ N.size:=leN
  have kN : ∀ j,j < M.size + 1 + 1 + 1 → N.get j = _:=kN
  have y2:=(kN (M.size + 1 + 1) (by omega)).trans x2
  have nw : ∀ id,rowOf a' = some id → M.size + 1 + 1 + 1 ≤ id:=nw
  have oa':=sm.one
  have ca':=sm.cells
  have l2 : M.size + 1 + 1 < N.size:=by omega
  simp (maxSteps:=2000000) (disch:=first | omega | assumption | (simp only [DS,Nat.reduceAdd, *]; done) | (simp only [DZ]; omega)) only [RUN,RU,zA2,zA1,zA0,zA5,slot,lay,reduceIte,Nat.reduceEqDiff,Nat.reduceAdd,y2,h]
  rw [eO,h] at k
  refine k a' _ (wN.upd _ _) (by rw [zAE]; omega) (fun j hj=>?_) (sm.keep fun j hj=>?_) (fun id hid=>by have:=nw id hid; omega) wm
  ·rw [zAA wN _ _ _ (by omega),kN j (by omega)]; exact kX j hj
  ·rw [zAA wN _ _ _ (by have:=nw j hj; omega)]
 ·have q:=decide_eq_false h
  have eO : hdO l o v = opZ:=by unfold hdO; rw [if_neg h]
  simp (maxSteps:=2000000) (disch:=first | omega | assumption | (simp only [DS,Nat.reduceAdd, *]; done) | (simp only [DZ]; omega)) only [RUN,RU,zA2,zA1,zA0,zA5,slot,lay,zAJ,reduceIte,Nat.reduceEqDiff,Nat.reduceBEq,Nat.reduceAdd,h0,h1,h2,hck,hoc,hlc,zOS,BMM,e3,q]
  rw [eO] at k
  refine k NIL _ (wX.upd _ _) (by simp only [zAE,zA8]; omega) (fun j hj=>?_) SlM.nil (fun id hid=>by cases hid) rfl
  rw [zAA wX _ _ _ (by omega)]
  exact kX j hj
end Go.Proofs.YtkfdflajadkfkaaGreat
namespace Go.Proofs.YtkfdflajadkfkaaGreat
open Go Go.Ax
variable {fuel : Nat} {M : Mem} {Q : AV → Mem → Prop} {d : Nat} {x : Eid} {l : List Op} {o : Op} {ra ops a : AV} {B id m : Nat} {v : Lb}
set_option maxHeartbeats 16000000 in
theorem zVW {fr : Int} (hS : Sl 17 isOp a l) (hl : l.length ≤ 10000) (hf : l.length + 500 < fuel) (hd : ∀ o ∈ l,o.rs.length ≤ 1000000000) (wf : Wf M) (hw : M.wm ≤ M.size)
  (k : ∀ r N,Wf N → M.size ≤ N.size → (∀ j,j < M.size → N.get j = M.get j) → opK.ND N M.size r (zDZ l v fr) → N.wm = M.wm → Q (.tup [r,I64 (zGK l v fr),I64 (zDY l v fr)]) N) :
  W3 (zAC Tryz.prog (fsT tbl) fuel (d + 16) (.fn 9) [a,lbA v,I64 fr] M) Q:=by
 have ll:=hS.len
 obtain ⟨ro,⟨r1,rfl,hr1⟩,hon⟩:=zRI (fuel:=fuel) (d:=d) (v:=v) hS hl (by omega) hd
 have oa:=hS.one
 have hlow:=zFB l v
 have k0 : ∀ e : Int,zDZ l v fr = [] → zGK l v fr = 0 → zDY l v fr = e → Q (.tup [NIL,I64 0,I64 e]) (M.add (.row false (lbR v))):=fun e h1 h2 h3=>by
  have:=k NIL (M.add (.row false (lbR v))) (wf.add _) (by rw [zA8]; omega) (fun j hj=>zAF wf _ _ hj) (by rw [h1]; exact NK.ND.nil _ _) rfl
  rw [h2,h3] at this
  exact this
 refine zAY tf9 rfl (by simp [a9]) fun b' ht hx=>?_
 have h0:=hx 0 _ rfl
 have h1:=hx 1 _ rfl
 have h2:=hx 2 _ rfl
 clear hx
 simp only [a9,c9,zz4,zzm] at ht ⊢
 by_cases q0 : zGJ l v = 0
 ·rw [q0] at hon hr1
  simp only [if_true] at hr1
  have hrl:=hr1.len
  by_cases q1 : fr < 0
  ·have q1':=decide_eq_true q1
   have e : zDY l v fr = 2:=by unfold zDY; rw [if_pos q0,if_pos (.inl q1)]
   simp (maxSteps:=2000000) (disch:=first | omega | assumption | (simp only [DS,Nat.reduceAdd, *]; done) | (simp only [DZ]; omega)) only [RUN,RU,zA2,zA1,zA0,zA5,slot,reduceIte,Nat.reduceEqDiff,h0,h1,h2,hon,hrl,q1']
   exact k0 2 (by unfold zDZ; rw [if_neg (by rw [e]; decide)]) (by unfold zGK; rw [if_neg (by rw [e]; decide)]) e
  ·have q1':=decide_eq_false q1
   by_cases q2 : ((lowL l v).length : Int) < fr
   ·have q2':=decide_eq_true q2
    have e : zDY l v fr = 2:=by unfold zDY; rw [if_pos q0,if_pos (.inr q2)]
    simp (maxSteps:=2000000) (disch:=first | omega | assumption | (simp only [DS,Nat.reduceAdd, *]; done) | (simp only [DZ]; omega)) only [RUN,RU,zA2,zA1,zA0,zA5,slot,reduceIte,Nat.reduceEqDiff,h0,h1,h2,hon,hrl,q1',q2']
    exact k0 2 (by unfold zDZ; rw [if_neg (by rw [e]; decide)]) (by unfold zGK; rw [if_neg (by rw [e]; decide)]) e
   ·have q2':=decide_eq_false q2
    obtain ⟨fn,hfn⟩ : ∃ n : Nat,fr = n:=⟨fr.toNat,by omega⟩
    subst hfn
    have e : zDY l v fn = 0:=by unfold zDY; rw [if_pos q0,if_neg (by omega)]
    have eT : zGK l v fn = (lowL l v).length:=by unfold zGK; rw [if_pos e]
    have eL : zDZ l v fn = (((lowL l v).drop fn).take 3).map (zCS l v):=by unfold zDZ; rw [if_pos e,Int.toNat_natCast]
    rw [e,eT,eL] at k
    clear k0
    have w1 : IntKind.i64.wrap ((fn : Int) + 3) = (fn : Int) + 3:=wrap_i64 (by omega) (by omega)
    have mn : (if ((lowL l v).length : Int) < (fn : Int) + 3 then ((lowL l v).length : Int) else (fn : Int) + 3) = ((min (fn + 3) (lowL l v).length : Nat) : Int):=by split <;> omega
    obtain ⟨r2,hs2,hr2⟩:=sl_3 hr1 (i:=fn) (j:=min (fn + 3) (lowL l v).length) (by omega) (by omega)
    have hrl2:=hr2.len
    simp (maxSteps:=2000000) (disch:=first | omega | assumption | (simp only [DS,Nat.reduceAdd, *]; done) | (simp only [DZ]; omega)) only [RUN,RU,zA2,zA1,slot,reduceIte,Nat.reduceEqDiff,h0,h1,h2,hr1.fz.rows,hon,hrl,q1',q2',w1,mn,hs2,hrl2]
    have e3 : ((lowL l v).drop fn).take 3 = ((lowL l v).drop fn).take (min (fn + 3) (lowL l v).length - fn):=List.take_eq_take_iff.2 (by rw [List.length_drop]; omega)
    rw [e3] at k
    generalize hpg : ((lowL l v).drop fn).take (min (fn + 3) (lowL l v).length - fn) = pg at *
    have hpl : pg.length ≤ 3:=by rw [← hpg,List.length_take]; omega
    have hpm : ∀ o ∈ pg,o ∈ l:=fun o ho=>by rw [← hpg] at ho; exact (List.mem_filter.1 (List.mem_of_mem_drop (List.mem_of_mem_take ho))).1
    have hmay:=zER (zUM q0)
    refine zB1 (I:=fun nq tq Nq => ∃ (iq : Nat) (out : AV),nq = pg.length - iq ∧ iq ≤ pg.length ∧ nth zA4 tq 0 = a ∧ nth zA4 tq 4 = .ptr M.size 0 ∧ nth zA4 tq 6 = out ∧ nth zA4 tq 7 = I64 (lowL l v).length ∧ nth zA4 tq 39 = r2 ∧ nth zA4 tq 40 = I64 pg.length ∧ nth zA4 tq 41 = I64 iq ∧ Wf Nq ∧ M.size + 1 ≤ Nq.size ∧ (∀ j,j < M.size → Nq.get j = M.get j) ∧ Nq.get M.size = some (.row false (lbR v)) ∧ Nq.wm = M.wm ∧ opK.ND Nq (M.size + 1) out ((pg.take iq).map (zCS l v))) (n:=pg.length) (by omega) ?_ ?_
    ·refine ⟨0,NIL,rfl,Nat.zero_le _, ?_, ?_, ?_, ?_, ?_, ?_, ?_,wf.add _,Nat.le_refl _,fun j hj=>zAF wf _ _ hj,by simp (maxSteps:=2000000) (disch:=first | omega | assumption | (simp only [DS,Nat.reduceAdd, *]; done) | (simp only [DZ]; omega)) only [RUN],rfl,NK.ND.nil _ _⟩ <;> simp (maxSteps:=2000000) (disch:=first | omega | assumption | (simp only [DS,Nat.reduceAdd, *]; done) | (simp only [DZ]; omega)) only [RUN,reduceIte,Nat.reduceEqDiff,h0]
     all_goals first | rfl | assumption | done
    ·rintro nq tq Nq hltq ⟨iq,out,rfl,hiq,gq0,gq4,gq6,gq7,gq39,gq40,gq41,w,sz,kp,g,wm,hN⟩
     simp only [ht] at hltq ⊢
     have hNN:=hN.nn
     have oo:=hNN.one
     have oc:=hNN.cells
     by_cases hc : iq < pg.length
     ·have q3 : decide ((iq : Int) < pg.length) = true:=decide_eq_true (by omega)
      have w1 : IntKind.i64.wrap ((iq : Int) + 1) = ((iq + 1 : Nat) : Int):=by rw [wrap_i64] <;> omega
      obtain ⟨r,hiad,hr,hrl⟩:=hr2.iad iq hc
      have hsn : (pg.take (iq + 1)).map (zCS l v) = (pg.take iq).map (zCS l v) ++ [zCS l v pg[iq]]:=by rw [take_snoc pg iq hc,List.map_append]; rfl
      have hil:=hpm pg[iq] (List.getElem_mem hc)
      have hlo:=hd _ hil
      have hm:=hmay _ hil
      generalize pg[iq] = e at *
      obtain ⟨ra,rfl,hra,hok⟩:=hr
      have ora:=hra.one
      have hb:=Spn.may_le (zCP hm)
      have hml:=zK8 hm
      have wX : Wf ((Nq.add (.row false (opR ⟨0,Hd.z,0,⟨Eid.z,0⟩,Eid.z,Lb.z,[]⟩ NIL))).upd Nq.size (.row false (opR e ra))):=(w.add _).upd _ _
      have kX : ∀ j,j < Nq.size → ((Nq.add (.row false (opR ⟨0,Hd.z,0,⟨Eid.z,0⟩,Eid.z,Lb.z,[]⟩ NIL))).upd Nq.size (.row false (opR e ra))).get j = Nq.get j:=fun j hj=>by
       rw [zAA (w.add _) _ _ _ (by omega),zAF w _ _ hj]
      simp (maxSteps:=2000000) (disch:=first | omega | assumption | (simp only [DS,Nat.reduceAdd, *]; done) | (simp only [DZ]; omega)) only [RUN,RU,zA2,zA1,slot,lay,reduceIte,Nat.reduceEqDiff,Nat.reduceAdd,gq0,gq4,gq6,gq39,gq40,gq41,q3,hiad,g]
      refine zWM (d:=d + 2) hS (by omega) hra hok ⟨by omega,by omega⟩ (by omega) (by omega) wX (by show Nq.wm ≤ _; simp only [zAE,zA8]; omega) fun a' N2 w2 le2 kp2 sm2 nw2 wm2=>?_
      have wm2 : N2.wm = Nq.wm:=wm2
      simp only [zAE,zA8] at le2 kp2 nw2
      have k2 : ∀ j,j < Nq.size → N2.get j = Nq.get j:=fun j hj=>by
       rw [kp2 j (by omega)]; exact kX j hj
      have oa2:=sm2.one
      have ca2:=sm2.cells
      have rl2:=zBE sm2.rl (Nat.le_refl N2.size)
      have rr2:=hNN.rows (show Nq.size ≤ N2.size + 1 by omega)
      simp (maxSteps:=2000000) (disch:=first | omega | assumption | (simp only [DS,Nat.reduceAdd, *]; done) | (simp only [DZ]; omega)) only [RUN,RU,zA2,zA1,lay,zAJ,zAD,reduceIte,Nat.reduceEqDiff,Nat.reduceBEq,Nat.reduceAdd,rr2]
      refine NK.ND.app (K:=opK) (M:=Nq) (B:=M.size + 1) (l:=(pg.take iq).map (zCS l v)) (x:=zCS l v e) (ra:=a') w2 hN (fun j a b=>k2 j b) (by omega) ⟨rfl,oa2,ca2⟩ ⟨sm2,fun j hj=>by have:=nw2 j hj; omega,zI6 hok⟩ (fun j hj=>by have:=nw2 j hj; omega) (by simp; omega) (by simp; omega) (by omega) fun o' M' hN' w' le' kp' nw' wm'=>?_
      simp (maxSteps:=2000000) (disch:=first | omega | assumption | (simp only [DS,Nat.reduceAdd, *]; done) | (simp only [DZ]; omega)) only [RUN,RU,zA2,zA1,reduceIte,Nat.reduceEqDiff,gq0,gq4,gq6,gq7,gq39,gq40,gq41,w1]
      refine ⟨hltq,pg.length - (iq + 1),by omega,iq + 1,o',rfl,by omega,rfl,rfl,w',by omega,fun j hj=>?_, ?_, ?_,by rw [hsn]; exact hN'⟩
      ·rw [kp' j (by omega) (fun h=>by have:=hNN.lt j h; omega),k2 j (by omega)]; exact kp j hj
      ·rw [kp' M.size (by omega) (fun h=>by have:=hNN.lt _ h; omega),k2 M.size (by omega)]; exact g
      ·rw [wm',wm2]; exact wm
     ·obtain rfl : iq = pg.length:=by omega
      have q3 : decide ((pg.length : Int) < pg.length) = false:=decide_eq_false (by omega)
      rw [List.take_length] at hN
      simp (maxSteps:=2000000) (disch:=first | omega | assumption | (simp only [DS,Nat.reduceAdd, *]; done) | (simp only [DZ]; omega)) only [RUN,RU,zA2,zA1,zA0,zA5,reduceIte,Nat.reduceEqDiff,gq6,gq7,gq40,gq41]
      refine k out Nq w (by omega) kp ?_ wm
      obtain ⟨lr,h1',h2',h3',h4',h5',h6'⟩:=hN
      exact ⟨lr,h1',h2',fun x hx=>⟨(h3' x hx).1,fun j hj=>by have:=(h3' x hx).2.1 j hj; omega,(h3' x hx).2.2⟩,fun j hj=>by have:=h4' j hj; omega,h5',h6'⟩
 ·have q1' : decide (zGJ l v = 0) = false:=decide_eq_false q0
  have e : zDY l v fr = zGJ l v:=by unfold zDY; rw [if_neg q0]
  simp (maxSteps:=2000000) (disch:=first | omega | assumption | (simp only [DS,Nat.reduceAdd, *]; done) | (simp only [DZ]; omega)) only [RUN,RU,zA2,zA1,zA0,zA5,slot,reduceIte,Nat.reduceEqDiff,h0,h1,hon,q1']
  exact k0 _ (by unfold zDZ; rw [if_neg (by rw [e]; exact q0)]) (by unfold zGK; rw [if_neg (by rw [e]; exact q0)]) e
end Go.Proofs.YtkfdflajadkfkaaGreat
namespace Go.Ax
open Go
namespace NK
variable {α β : Type} {K : NK α β} {M N : Mem} {B : Nat}
/-! ### What may be read is frozen as it is -/
theorem Rd1.frzA {T : List AV → β → Prop} {v : AV} {l : List β} (h : Rd1 M T v l) (hT : Cel T) {k : Nat} (hk : 1 < k) : ∃ r,Go.Ax.frz M 0 k v = some r ∧ Sl 1 T r l:=by
 rcases h with ⟨rfl,rfl⟩ | ⟨id,rows,cap,rfl,hg,h,hl⟩
 ·exact ⟨_,zHB _ (by omega),.inl ⟨rfl,rfl⟩⟩
 ·refine ⟨_,zLA hg (by rw [zAI hl]; omega) (by omega) (fun x hx=>(hT.flat h x hx).2 M _ (by omega)),.inr ⟨rows,cap, ?_,h,hl⟩⟩
  rw [zBC _ _ (by rw [zAI hl])]
theorem zJH {k : Nat} (hk : 1 < k) : ∀ {rows : List (List AV)} {lr : List (α × AV)},All2 K.isN rows lr → (∀ x ∈ lr,Rd1 M K.T x.2 (K.f x.1) ∧ K.ok x.1) →
  ∃ rows',frzL (Go.Ax.frz M 0 k) rows.flatten = some rows'.flatten ∧ All2 K.is rows' (lr.map (·.1)) ∧ (∀ r ∈ rows',r.length = K.st)
 | _,_,.nil,_=>⟨[],rfl,.nil,by simp⟩
 | _,_,.cons (y:=x) (m:=lr) a t,h=>by
  have hx:=h x (by simp)
  obtain ⟨ra,i1,b1⟩:=Rd1.frzA hx.1 K.ft.cel hk
  obtain ⟨rows',i2,hA,hl⟩:=zJH hk t fun y hy=>h y (by simp [hy])
  obtain ⟨rfl,_⟩:=a
  refine ⟨(K.H x.1 ++ [ra]) :: rows', ?_,.cons ⟨ra,rfl,b1,hx.2⟩ hA, ?_⟩
  ·rw [List.flatten_cons,List.flatten_cons]
   refine zEP (zEP (zK3 (by omega) M (K.hz x.1)) ?_) i2
   simp only [frzL,i1]
  ·intro r hr
   rcases List.mem_cons.1 hr with rfl | hr
   ·rw [List.length_append,List.length_singleton]; exact K.hl _
   ·exact hl r hr
theorem NR.frz {o : AV} {l : List α} (h : K.NR M B o l) {k : Nat} (hk : 1 < k) : ∃ o',Go.Ax.frz M 0 (k + 1) o = some o' ∧ Sl K.st K.is o' l:=by
 rcases h with ⟨rfl,rfl⟩ | ⟨id,rows,cap,lr,rfl,rfl,hg,hA,hr,h3,hB⟩
 ·exact ⟨NIL,rfl,.inl ⟨rfl,rfl⟩⟩
 ·obtain ⟨rows',i1,hA',hl'⟩:=zJH (K:=K) (M:=M) (k:=k) hk hA fun x hx=>⟨(h3 x hx).1,(h3 x hx).2.1⟩
  have hfl:=zAI hr
  have hfl':=zAI hl'
  have hn : rows'.length = rows.length:=by rw [hA'.length_eq,List.length_map,hA.length_eq]
  have hble : Nat.ble (0 + rows.length * K.st) rows.flatten.length = true:=zFU (by omega)
  have hsl : slot rows'.flatten 0 (rows.length * K.st) = rows'.flatten:=zBC _ _ (by rw [hfl',hn])
  refine ⟨.pv rows'.flatten rows.length cap K.st, ?_,.inr ⟨rows',cap,by rw [hn],hA',hl'⟩⟩
  simp only [Go.Ax.frz,hg,hble,i1,hsl,Nat.ble_eq_true_of_le (Nat.zero_le id)]
theorem NR.one {o : AV} {l : List α} (h : K.NR M B o l) : oneA o = true:=by
 rcases h with ⟨rfl,_⟩ | ⟨_,_,_,_,rfl,_⟩ <;> rfl
end NK
variable {α : Type} {M N : Mem} {st : Nat} {T : List AV → α → Prop} {v o : AV} {l : List α}
theorem SlM.handW (hm : SlM M st T o l) (wf : Wf M) (hT : FzT T) : ∀ m,0 < m → ∃ a' M',Go.Ax.icy (m + 1) M o = some (a',M') ∧ Sl st T a' l ∧ Wf M' ∧ M'.size = M.size ∧ M'.wm = M.wm ∧ ∀ j,rowOf o ≠ some j → M'.get j = M.get j:=by
 intro m hm0
 rcases hm with ⟨rfl,rfl⟩ | ⟨id,rows,cap,rfl,_,hg,hA,hr⟩
 ·exact ⟨NIL,M,rfl,.inl ⟨rfl,rfl⟩,wf,rfl,rfl,fun _ _=>rfl⟩
 ·have hfl:=zAI hr
  have hcs : ∀ N,icyL (Go.Ax.icy m) N rows.flatten = some (rows.flatten,N):=zC5 (by omega) fun x hx N=>hT.celI.flat hA x hx N m (by omega)
  have hble : Nat.ble (0 + rows.length * st) rows.flatten.length = true:=zFU (by omega)
  have hsl : slot rows.flatten 0 (rows.length * st) = rows.flatten:=zBC _ _ hfl.symm
  exact ⟨_,M.upd id (.fro rows.flatten),by simp only [Go.Ax.icy,zBJ hg,hble,hcs,hg,zBD wf (Mem.get_lt hg),hsl],.inr ⟨rows,cap,rfl,hA,hr⟩,wf.upd _ _,rfl,rfl,fun j hj=>zAA wf _ _ _ (fun e=>hj (by rw [e]; rfl))⟩
theorem zSB {P : Program} {fs : Nat → Option AFunc} {fuel f n : Nat} {af : AFunc} {R : AV → Prop} {Q : AV → Mem → Prop} (h : fs f = some af) (hg : af.gc = 1) (hm : SlM M st T o l) (wf : Wf M) (hT : FzT T) (hc : ∀ o',Sl st T o' l → ∃ r,R r ∧ ∀ M,zAC P fs fuel (n + 1) (.fn f) [o'] M = some (r,M))
  (k : ∀ r M',R r → Wf M' → M'.size = M.size → M'.wm = M.wm → (∀ j,rowOf o ≠ some j → M'.get j = M.get j) → Q r M') : W3 (zAC P fs fuel (n + 1) (.fn f) [o] M) Q:=by
 obtain ⟨o',M',i1,s1,w1,z1,r1,g1⟩:=hm.handW wf hT 11 (by omega)
 obtain ⟨r,hR,hcall⟩:=hc o' s1
 refine ⟨r,M',zEK (bs:=[o']) h hg (hcall mem0) (M3:=mem0) ?_ ?_,k r M' hR w1 z1 r1 g1⟩
 ·simp only [icyL,s1.icy mem0 12 (by omega)]
 ·simp only [icyL,i1]
end Go.Ax
namespace Go.Proofs.YtkfdflajadkfkaaGreat
open Go Go.Ax
variable {fuel : Nat} {M : Mem} {Q : AV → Mem → Prop} {d : Nat}
def isAv (r : List AV) (x : AV) : Prop:=r = [x] ∧ Fz x
theorem fz_Av : FzT isAv:=fun r x h y hy=>by
 rw [h.1,List.mem_singleton] at hy
 rw [hy]
 exact h.2
abbrev zOp : Value:=.agg #[.int .u8 0,.int .u8 0,.int .u32 0,.int .u8 0,.int .i64 0,.int .u8 0,.int .u32 0,.int .u8 0,.int .i64 0,.int .i64 0,.int .u8 0,.int .u32 0,.int .u8 0,.int .i64 0,.int .u8 0,.int .u32 0,.slice none 0 0]
theorem zUK {n : Nat} (wf : Wf M) (hn : 0 < n) (hb : n ≤ 1000000) (k : Q (.sl M.size 0 0 none 17) (M.add (.row false (zAD zOp n)))) :
  W3 (zAC Tryz.prog (fsT tbl) fuel (d + 1) (.fn 47) [NIL,I64 n] M) Q:=by
 have hz:=zQ5 (X:=M) (st:=17) (bytes:=112) (z:=zOp) wf rfl rfl hn (by omega) (by omega) (by omega)
 have e0 : decide ((n : Int) < 0) = false:=decide_eq_false (by omega)
 have e1 : decide ((0 : Int) < n) = true:=decide_eq_true (by omega)
 have w0 : IntKind.i64.wrap 0 = 0:=by decide
 have w1 : IntKind.i64.wrap ((n : Int) - 0) = n:=by rw [wrap_i64] <;> omega
 refine zAY tf47 rfl (by simp [a47]) fun b' ht hx=>?_
 have h0:=hx 0 _ rfl
 have h1:=hx 1 _ rfl
 clear hx
 simp only [a47,c47,zz4,zzm] at ht ⊢
 have hs:=zVA (M:=M.add (.row false (zAD zOp n))) (st:=17) (n:=n) (zAG wf (.row false (zAD zOp n)) M.size (Nat.le_refl _) (Nat.lt_succ_self _))
 simp (maxSteps:=2000000) (disch:=first | omega | assumption | (simp only [DS,Nat.reduceAdd, *]; done) | (simp only [DZ]; omega)) only [RUN,RU,zA2,zA1,zA0,zA5,reduceIte,Nat.reduceEqDiff,Int.reduceSub,h0,h1,e0,e1,w0,w1,zYC,zYE,zNG,zS5,hz,hs]
 exact k
theorem zUL (k : Q NIL M) : W3 (zAC Tryz.prog (fsT tbl) fuel (d + 1) (.fn 47) [NIL,I64 (0 : Nat)] M) Q:=by
 have e0 : decide (((0 : Nat) : Int) < 0) = false:=rfl
 have e1 : decide ((0 : Int) < 0) = false:=rfl
 have w0 : IntKind.i64.wrap 0 = 0:=by decide
 have w1 : IntKind.i64.wrap (((0 : Nat) : Int) - 0) = 0:=by decide
 refine zAY tf47 rfl (by simp [a47]) fun b' ht hx=>?_
 have h0:=hx 0 _ rfl
 have h1:=hx 1 _ rfl
 clear hx
 simp only [a47,c47,zz4,zzm] at ht ⊢
 simp (maxSteps:=2000000) (disch:=first | omega | assumption | (simp only [DS,Nat.reduceAdd, *]; done) | (simp only [DZ]; omega)) only [RUN,RU,zA2,zA1,zA0,zA5,reduceIte,Nat.reduceEqDiff,Int.reduceSub,h0,h1,e0,w0,w1,zYE,zNG]
 exact k
set_option maxHeartbeats 8000000 in
/-- One list of two. -/
theorem zKB {av a0 a1 : AV} {l0 l1 : List Op} (hA : Sl 1 isAv av [a0,a1]) (h0' : Sl 17 isOp a0 l0) (h1' : Sl 17 isOp a1 l1) (hb0 : l0.length ≤ 10000) (hb1 : l1.length ≤ 10000) (hf : 100 < fuel) : ∃ r,Sl 17 isOp r (l0 ++ l1) ∧ ∀ M,zAC Tryz.prog (fsT tbl) fuel (d + 2) (.fn 29) [av] M = some (r,M):=by
 have x0:=h0'.len
 have x1:=h1'.len
 have o0:=h0'.one
 have o1:=h1'.one
 have xA : ∀ M,lenO M av = some (I64 (2 : Nat),M):=hA.len
 obtain ⟨_,i0,⟨rfl,_⟩,_⟩:=hA.iad 0 (Nat.succ_pos _)
 obtain ⟨_,i1,⟨rfl,_⟩,_⟩:=hA.iad 1 (Nat.lt_succ_self _)
 simp only [List.getElem_cons_zero,List.getElem_cons_succ] at i0 i1
 have oA:=hA.one
 have c2 : ((2 : Nat) : Int) = 2:=rfl
 have t0 : zCT (I64 0) = some 0:=rfl
 have t1 : zCT (I64 1) = some 1:=rfl
 have q02 : decide ((0 : Int) < 2) = true:=rfl
 have q12 : decide ((1 : Int) < 2) = true:=rfl
 have q22 : decide ((2 : Int) < 2) = false:=rfl
 have v1 : IntKind.i64.wrap 1 = 1:=by decide
 have v2 : IntKind.i64.wrap 2 = 2:=by decide
 have w0 : IntKind.i64.wrap (0 + (l0.length : Int)) = (l0.length : Nat):=by rw [wrap_i64] <;> omega
 have w1 : IntKind.i64.wrap ((l0.length : Int) + (l1.length : Int)) = ((l0.length + l1.length : Nat) : Int):=by rw [wrap_i64] <;> omega
 have n0 : decide (((l0.length : Nat) : Int) < 0) = false:=decide_eq_false (by omega)
 have n1 : decide (((l0.length + l1.length : Nat) : Int) < 0) = false:=decide_eq_false (by omega)
 refine zDI tf29 rfl (fun M=>by simp only [icyL,fun M=>hA.icy M 12 (by omega)]) ?_
 refine zAH tf29 rfl (by simp only [icyL,fun M=>hA.icy M 12 (by omega)]) (by simp [a29]) fun b' ht hx=>?_
 have h0:=hx 0 _ rfl
 clear hx
 simp only [a29,c29,zz4,zzm] at ht ⊢
 simp (maxSteps:=2000000) (disch:=first | omega | assumption | (simp only [DS,Nat.reduceAdd, *]; done) | (simp only [DZ]; omega)) only [RUN,RU,zA2,zA1,reduceIte,Nat.reduceEqDiff,h0,xA,c2]
 refine w_un (by omega) ?_
 simp (maxSteps:=2000000) (disch:=first | omega | assumption | (simp only [DS,Nat.reduceAdd, *]; done) | (simp only [DZ]; omega)) only [RUN,RU,zA2,zA1,reduceIte,Nat.reduceEqDiff,Int.reduceLT,Int.reduceAdd,t0,i0,x0,w0,n0,v1,zCX]
 refine w_un (by omega) ?_
 simp (maxSteps:=2000000) (disch:=first | omega | assumption | (simp only [DS,Nat.reduceAdd, *]; done) | (simp only [DZ]; omega)) only [RUN,RU,zA2,zA1,reduceIte,Nat.reduceEqDiff,Int.reduceLT,Int.reduceAdd,t1,i1,x1,w1,n1,v2,zCX]
 refine w_un (by omega) ?_
 simp (maxSteps:=2000000) (disch:=first | omega | assumption | (simp only [DS,Nat.reduceAdd, *]; done) | (simp only [DZ]; omega)) only [RUN,RU,zA2,zA1,reduceIte,Nat.reduceEqDiff,zGC]
 by_cases hz : l0.length + l1.length = 0
 ·have e0 : l0 = []:=List.eq_nil_of_length_eq_zero (by omega)
  have e1 : l1 = []:=List.eq_nil_of_length_eq_zero (by omega)
  rw [hz]
  refine zUL (d:=d) ?_
  simp (maxSteps:=2000000) (disch:=first | omega | assumption | (simp only [DS,Nat.reduceAdd, *]; done) | (simp only [DZ]; omega)) only [RUN,RU,zA2,zA1,reduceIte,Nat.reduceEqDiff,h0,xA,c2]
  refine w_un (by omega) ?_
  simp (maxSteps:=2000000) (disch:=first | omega | assumption | (simp only [DS,Nat.reduceAdd, *]; done) | (simp only [DZ]; omega)) only [RUN,RU,zA2,zA1,reduceIte,Nat.reduceEqDiff,Int.reduceLT,t0,i0,h0'.fz.rows]
  refine zHQ (bytes:=112) Wf.mem0 SlM.nil zDH.cel h0' (by omega) (by simp; omega) (by simp; omega) fun o1 M1 m1 w1 le1 sz1 kp1 nw1 wm1 rl1 on1 oc1=>?_
  rw [List.nil_append] at m1
  simp (maxSteps:=2000000) (disch:=first | omega | assumption | (simp only [DS,Nat.reduceAdd, *]; done) | (simp only [DZ]; omega)) only [RUN,RU,zA2,zA1,reduceIte,Nat.reduceEqDiff,Int.reduceAdd,v1,zCX]
  refine w_un (by omega) ?_
  simp (maxSteps:=2000000) (disch:=first | omega | assumption | (simp only [DS,Nat.reduceAdd, *]; done) | (simp only [DZ]; omega)) only [RUN,RU,zA2,zA1,reduceIte,Nat.reduceEqDiff,Int.reduceLT,t1,i1,rl1,h1'.fz.rows]
  refine zHQ (bytes:=112) w1 m1 zDH.cel h1' (by omega) (by omega) (by omega) fun o2 M2 m2 w2 le2 sz2 kp2 nw2 wm2 rl2 on2 oc2=>?_
  simp (maxSteps:=2000000) (disch:=first | omega | assumption | (simp only [DS,Nat.reduceAdd, *]; done) | (simp only [DZ]; omega)) only [RUN,RU,zA2,zA1,reduceIte,Nat.reduceEqDiff,Int.reduceAdd,v2,zCX]
  refine w_un (by omega) ?_
  obtain ⟨ro,hzz,hs⟩:=m2.frz zDH.cel (k:=12) (by omega)
  simp (maxSteps:=2000000) (disch:=first | omega | assumption | (simp only [DS,Nat.reduceAdd, *]; done) | (simp only [DZ]; omega)) only [RUN,RU,zA2,zA1,zA0,zA5,frzL,reduceIte,Nat.reduceEqDiff,hzz,zGC]
  exact ⟨_,hs,rfl⟩
 ·refine zUK (d:=d) (n:=l0.length + l1.length) Wf.mem0 (by omega) (by omega) ?_
  have sq0:=SlQ.fresh (X:=mem0) (st:=17) (T:=isOp) (n:=l0.length + l1.length) (z:=zOp) Wf.mem0 rfl
  have wX:=Wf.mem0.add (.row false (zAD zOp (l0.length + l1.length)))
  generalize (mem0.add (.row false (zAD zOp (l0.length + l1.length)))) = X at *
  have lX : Nat.blt 0 X.size = true:=(zAQ 0 X.size).2 (sq0.lt 0 rfl)
  simp (maxSteps:=2000000) (disch:=first | omega | assumption | (simp only [DS,Nat.reduceAdd, *]; done) | (simp only [DZ]; omega)) only [RUN,RU,zA2,zA1,reduceIte,Nat.reduceEqDiff,h0,xA,c2]
  refine w_un (by omega) ?_
  simp (maxSteps:=2000000) (disch:=first | omega | assumption | (simp only [DS,Nat.reduceAdd, *]; done) | (simp only [DZ]; omega)) only [RUN,RU,zA2,zA1,reduceIte,Nat.reduceEqDiff,Int.reduceLT,t0,i0,lX,h0'.fz.rows]
  obtain ⟨r0,y0,z0,A0,R0⟩:=h0'.cells2 X
  refine SlQ.app (bytes:=112) wX sq0 y0 z0 A0 R0 zDH.cel (by omega) (by simp; omega) (by simp; omega) fun o' Y sq1 wY sY kY rY wmY diY=>?_
  have on1:=sq1.one
  have oc1:=sq1.cells
  have rl1:=sq1.rl (Nat.le_refl _)
  simp (maxSteps:=2000000) (disch:=first | omega | assumption | (simp only [DS,Nat.reduceAdd, *]; done) | (simp only [DZ]; omega)) only [RUN,RU,zA2,zA1,reduceIte,Nat.reduceEqDiff,Int.reduceAdd,v1,zCX]
  refine w_un (by omega) ?_
  simp (maxSteps:=2000000) (disch:=first | omega | assumption | (simp only [DS,Nat.reduceAdd, *]; done) | (simp only [DZ]; omega)) only [RUN,RU,zA2,zA1,reduceIte,Nat.reduceEqDiff,Int.reduceLT,t1,i1,rl1,h1'.fz.rows]
  obtain ⟨r1,y1,z1,A1,R1⟩:=h1'.cells2 Y
  refine SlQ.app (bytes:=112) wY sq1 y1 z1 A1 R1 zDH.cel (by omega) (by simp; omega) (by simp; omega) fun o2' Z sq2 wZ sZ kZ rZ wmZ diZ=>?_
  have on2:=sq2.one
  have oc2:=sq2.cells
  have rl2:=sq2.rl (Nat.le_refl _)
  simp (maxSteps:=2000000) (disch:=first | omega | assumption | (simp only [DS,Nat.reduceAdd, *]; done) | (simp only [DZ]; omega)) only [RUN,RU,zA2,zA1,reduceIte,Nat.reduceEqDiff,Int.reduceAdd,v2,zCX]
  refine w_un (by omega) ?_
  have e0 : l0.length + l1.length - l0.length - l1.length = 0:=by omega
  rw [e0] at sq2
  obtain ⟨ro,hzz,hs⟩:=sq2.slm.frz zDH.cel (k:=12) (by omega)
  simp (maxSteps:=2000000) (disch:=first | omega | assumption | (simp only [DS,Nat.reduceAdd, *]; done) | (simp only [DZ]; omega)) only [RUN,RU,zA2,zA1,zA0,zA5,frzL,reduceIte,Nat.reduceEqDiff,hzz,zGC]
  exact ⟨_,by simpa using hs,rfl⟩
end Go.Proofs.YtkfdflajadkfkaaGreat
