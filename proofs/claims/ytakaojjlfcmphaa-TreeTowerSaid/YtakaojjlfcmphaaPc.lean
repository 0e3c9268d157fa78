/-
  Texts joined: TrM TtP ToA ToD ToB TvA TvB TtQ SwV TrV.
-/
import Derived.Test.YtakaojjlfcmphaaEf
import Derived.KernelRfl
import Derived.Test.YtakaojjlfcmphaaPb
set_option linter.unusedSimpArgs false
set_option linter.unusedVariables false
set_option maxRecDepth 100000
namespace Go.Proofs.Ytakaojjlfcmphaa
open Go Go.Ax
variable {fuel : Nat} {M : Mem} {Q : AV → Mem → Prop} {d : Nat}
theorem zMW {X : Mem} {o : AV} {r : List AV} {x : Rn} (wf : Wf X) (h : SlN X 10 isRn o []) (hx : isRn r x) (hr : r.length = 10)
  (k : ∀ o' M',SlM M' 10 isRn o' [x] → Wf M' → X.size ≤ M'.size → (∀ j,j < X.size → rowOf o ≠ some j → M'.get j = X.get j) → (∀ id,rowOf o' = some id → rowOf o = some id ∨ X.size ≤ id) → M'.wm = X.wm → Q o' M') :
  W3 (zAF Try.prog (fsT tbl) fuel (d + 1) (.fn 34) [o,I64 0,.sl X.size 0 1 (some 1) 10] (X.add (.row false r))) Q:=by
 have sm:=h.slm
 have oo:=sm.one
 have ol:=sm.len
 have z10 : decide ((1 : Int) = 0) = false:=rfl
 have ge : ∀ N,lenO N (.sl X.size 0 1 (some 1) 10) = some (I64 1,N):=fun _=>rfl
 have hs : ∀ N,(∀ j,rowOf o = some j → N.get j = X.get j) → ∃ v,slcO N 10 o (some (I64 0)) none none = some (v,N) ∧ oneA v = true:=fun N hN=>by
  rcases h with ⟨_,rfl | ⟨id,rfl,hg⟩⟩ | ⟨hn,_⟩
  ·exact ⟨_,rfl,rfl⟩
  ·exact ⟨_,rfl,rfl⟩
  ·exact absurd rfl hn
 obtain ⟨v,hsv,ov⟩:=hs (X.add (.row false r)) (fun j hj=>zAP wf _ _ (sm.lt j hj))
 refine zCS tf34 rfl (by simp [a34]) fun b' ht hx=>?_
 have h0:=hx 0 _ rfl
 have h1:=hx 1 _ rfl
 have h2:=hx 2 _ rfl
 clear hx
 simp only [a34,c34,zz0,zzm] at ht ⊢
 have ol0 : ∀ N,lenO N o = some (I64 0,N):=ol
 have rlo:=zBB sm.rl (show X.size ≤ X.size + 1 by omega)
 simp (maxSteps:=2000000) (disch:=first | omega | assumption | (simp only [DS,Nat.reduceAdd, *]; done) | (simp only [DZ]; omega)) only [RUN,RU,zA4,zA2,zA1,zA5,frzL,slot,lay,icyL,zA6,zA0,kR,reduceIte,Nat.reduceEqDiff,Nat.reduceBEq,Nat.reduceLT,Nat.reduceAdd,Nat.reduceLeDiff,Nat.reduceSub,Nat.reduceMul,Int.reduceLT,Int.reduceLE,Int.reduceEq,Int.reduceAdd,Int.reduceSub,Int.reduceMul,h0,h1,h2,oo,ol0,hsv,ov,ge,z10,z00,rlo]
 refine app1 wf sm zCJ (x:=x) hx hr (by omega) (by simp) (by simp) fun o' M' sm' w' le' kp nw wm' rl on oc=>?_
 simp (maxSteps:=2000000) (disch:=first | omega | assumption | (simp only [DS,Nat.reduceAdd, *]; done) | (simp only [DZ]; omega)) only [RUN,RU,zA4,zA2,zA1,zA5,frzL,slot,lay,icyL,zA6,zA0,kR,reduceIte,Nat.reduceEqDiff,Nat.reduceBEq,Nat.reduceLT,Nat.reduceAdd,Nat.reduceLeDiff,Nat.reduceSub,Nat.reduceMul,Int.reduceLT,Int.reduceLE,Int.reduceEq,Int.reduceAdd,Int.reduceSub,Int.reduceMul,on,oc,rl]
 exact k o' M' sm' w' le' kp nw wm'
theorem zN1 {l : List Rn} {r : Rn} {n : Nat} (D : List Rn) (h : D = (l.drop n).takeWhile fun q=>r.sp.f.less q.sp.f) {i : Nat} (hi : i < D.length) (hn : n + i < l.length) : r.sp.f.less l[n + i].sp.f = true ∧ D[i] = l[n + i]:=by
 have h1 : D[i] ∈ (l.drop n).takeWhile fun q=>r.sp.f.less q.sp.f:=by rw [← h]; exact List.getElem_mem hi
 have h2:=List.all_eq_true.1 (List.all_takeWhile (l:=l.drop n) (p:=fun q=>r.sp.f.less q.sp.f)) _ h1
 have h3 : D[i] = l[n + i]:=by
  have hp : D <+: l.drop n:=by rw [h]; exact List.takeWhile_prefix _
  rw [hp.getElem hi,List.getElem_drop]
 rw [← h3]
 exact ⟨h2,rfl⟩
theorem zKY {l : List Rn} {x : Eid} {n : Nat} (h : zET l x n < l.length) : x.less l[zET l x n].sp.f = false:=by
 have hd : ((l.drop n).dropWhile fun q=>x.less q.sp.f) = l.drop (zET l x n):=by
  have e:=List.takeWhile_append_dropWhile (p:=fun q : Rn=>x.less q.sp.f) (l:=l.drop n)
  have e2:=congrArg (List.drop ((l.drop n).takeWhile fun q=>x.less q.sp.f).length) e
  rw [List.drop_left,List.drop_drop] at e2
  exact e2
 have:=List.head?_dropWhile_not (fun q : Rn=>x.less q.sp.f) (l.drop n)
 rw [hd,List.drop_eq_getElem_cons h] at this
 exact this
theorem zRE {l : List Rn} {x : Eid} {n : Nat} (hn : n ≤ l.length) : zET l x n ≤ l.length:=by
 unfold zET
 have:=(List.takeWhile_sublist (l:=l.drop n) (fun q : Rn=>x.less q.sp.f)).length_le
 rw [List.length_drop] at this
 omega
theorem zJA (l : List Rn) (x : Eid) : (zB7 l x).1.length ≤ l.length + 2:=by
 unfold zB7
 split
 ·simp
 ·split
  ·simp
  ·split
   ·simp; omega
   ·simp
theorem zKC (l : List Rn) : (zBM l).length ≤ l.length:=by
 refine zE3 (P:=fun l=>(zBM l).length ≤ l.length) (Nat.le_refl _) (fun l r ih=>?_) l
 rw [zKD]
 have:=zMG (zBM l) r
 simp only [List.length_append,List.length_singleton]
 omega
theorem zMX (l : List Rn) (r : Rn) : (insL l r).length ≤ l.length + 3:=by
 unfold insL
 refine Nat.le_trans (zKC _) ?_
 have:=zJA l r.af
 simp only [List.length_append,List.length_take,List.length_drop,List.length_singleton]
 omega
noncomputable def insR (l : List Rn) (r : Rn) : List Rn:=if putE l r = 0 then insL l r else []
open Classical in
set_option maxHeartbeats 16000000 in
theorem zI8 {a ra : AV} {l : List Rn} {x : Rn} (hS : Sl 10 isRn a l) (hR : Sl 1 zBU ra x.rs) (hx : x.ok) (hl : l.length ≤ 900) (hf : 64 * l.length + 3011000 < fuel) : ∃ r,Sl 10 isRn r (insR l x) ∧ ∀ M,zAF Try.prog (fsT tbl) fuel (d + 11) (.fn 10) [a,.agg (rnR x ra)] M = some (.tup [r,I64 (putE l x)],M):=by
 have oa:=hS.one
 have ora:=hR.one
 have hck:=fun M=>@zH2 fuel d a l hS (by omega) (by omega) M
 have hcx:=fun M=>@zC8 fuel (d + 4) x ra hR (by omega) M
 refine zK0 tf10 rfl (fun M=>by simp only [icyL,fun M=>hS.icy M 12 (by omega),zC7 hR.fz]) ?_
 refine zAX tf10 rfl (by simp only [icyL,fun M=>hS.icy M 12 (by omega),zC7 hR.fz]) (by simp [a10]) fun b' ht hx=>?_
 have h0:=hx 0 _ rfl
 have h1:=hx 1 _ rfl
 clear hx
 simp only [a10,c10,zz0,zz2,zzm] at ht ⊢
 have hiE : putE l x = if zD9 l = true ∧ x.may = true then (if x.af ≠ Eid.z ∧ zB9 l x.af = none then 6 else if ∃ i : Nat,(i : Int) < x.sp.n ∧ zB9 l (x.sp.at i) ≠ none then 2 else if 8192 < zB5 l + x.sp.n then 4 else 0) else 8:=by
  unfold putE
  simp only [zFP]
 by_cases h8 : zD9 l = true ∧ x.may = true
 ·rw [if_pos h8] at hiE
  obtain ⟨htb,hxm⟩:=h8
  have hok:=zFP.1 htb
  rw [htb] at hck
  rw [hxm] at hcx
  have hwh:=fun y M=>@zL4 fuel (d + 4) a l y hS (by omega) (by omega) M
  have hwa:=fun M=>hwh x.af M
  have hb:=Spn.may_le (Rn.may_sp hxm)
  obtain ⟨m,hmn⟩ : ∃ m : Nat,x.sp.n = m:=⟨x.sp.n.toNat,by omega⟩
  have ia : ∀ i : Nat,i < m → ∀ M,zAF Try.prog (fsT tbl) fuel (d + 10) (.fn 31) [spA x.sp,I64 i] M = some (.tup [idA (x.sp.at i),I64 0],M):=fun i hi M=>by
   have:=@zK3 fuel (d + 5) x.sp i M
   rw [if_pos (Rn.may_sp hxm),if_neg (by omega)] at this
   exact this
  have qn1 : decide ((-1 : Int) < 0) = true:=rfl
  have qg1 : decide ((0 : Int) ≤ -1) = false:=rfl
  by_cases h6 : x.af ≠ Eid.z ∧ zB9 l x.af = none
  ·have e6 : putE l x = 6:=by rw [hiE,if_pos h6]
   have er : insR l x = []:=by unfold insR; rw [e6]; rfl
   rw [e6,er]
   have q : decide (x.af = Eid.z) = false:=decide_eq_false h6.1
   rw [h6.2] at hwa
   simp (maxSteps:=2000000) (disch:=first | omega | assumption | (simp only [DS,Nat.reduceAdd, *]; done) | (simp only [DZ]; omega)) only [RUN,RU,zA4,zA2,zA1,zA5,frzL,slot,lay,icyL,zA6,zA0,kR,reduceIte,Nat.reduceEqDiff,Nat.reduceBEq,Nat.reduceLT,Nat.reduceAdd,Nat.reduceLeDiff,Nat.reduceSub,Nat.reduceMul,Int.reduceLT,Int.reduceLE,Int.reduceEq,Int.reduceAdd,Int.reduceSub,Int.reduceMul,h0,h1,hS.fz.rows,hS.fz.one,hS.fz.cells,hS.fz.icy,hS.fz.frz,hR.fz.rows,hR.fz.one,hR.fz.cells,hR.fz.icy,hR.fz.frz,hck,hcx,IMX,zBP,z00,zDH,zDJ,zDI,BMM,zAT,hwa,wN,wK,qn1,↓pIdE,zAK,↓pIdN,zAH,↓pHdE,zAI,↓pHdN,zAJ,↓pLbE,zAL,↓pLbN,zAM,↓pSpE,zAN,↓pSpN,zAO,ETA,q]
   exact ⟨NIL,.inl ⟨rfl,rfl⟩,rfl⟩
  ·rw [if_neg h6] at hiE
   have hx6 : x.af = Eid.z ∨ zB9 l x.af ≠ none:=by
    by_cases h : x.af = Eid.z
    ·exact .inl h
    ·exact .inr fun k=>h6 ⟨h,k⟩
   have step : ∃ b : Bool,(decide ((wN (zB9 l x.af)) < 0) = b) ∧ (b = true → decide (x.af = Eid.z) = true):=by
    refine ⟨_,rfl,fun hb=>?_⟩
    rcases hx6 with h | h
    ·exact decide_eq_true h
    ·cases hw : zB9 l x.af with
     | none=>exact absurd hw h
     | some p =>
      have hb:=of_decide_eq_true hb
      rw [hw] at hb
      simp only [wN] at hb
      omega
   obtain ⟨b6,hb6,hb6'⟩:=step
   have main : ∀ (b6 : Bool),decide ((wN (zB9 l x.af)) < 0) = b6 → (b6 = true → decide (x.af = Eid.z) = true) → True:=fun _ _ _=>trivial
   clear main
   cases b6 with
   | true =>
    have q:=hb6' rfl
    simp (maxSteps:=2000000) (disch:=first | omega | assumption | (simp only [DS,Nat.reduceAdd, *]; done) | (simp only [DZ]; omega)) only [RUN,RU,zA4,zA2,zA1,zA5,frzL,slot,lay,icyL,zA6,zA0,kR,reduceIte,Nat.reduceEqDiff,Nat.reduceBEq,Nat.reduceLT,Nat.reduceAdd,Nat.reduceLeDiff,Nat.reduceSub,Nat.reduceMul,Int.reduceLT,Int.reduceLE,Int.reduceEq,Int.reduceAdd,Int.reduceSub,Int.reduceMul,h0,h1,hS.fz.rows,hS.fz.one,hS.fz.cells,hS.fz.icy,hS.fz.frz,hR.fz.rows,hR.fz.one,hR.fz.cells,hR.fz.icy,hR.fz.frz,hck,hcx,IMX,zBP,z00,zDH,zDJ,zDI,BMM,zAT,hwa,hb6,↓pIdE,zAK,↓pIdN,zAH,↓pHdE,zAI,↓pHdN,zAJ,↓pLbE,zAL,↓pLbN,zAM,↓pSpE,zAN,↓pSpN,zAO,ETA,q]
    refine zCH (I:=fun n t N => ∃ (i : Nat),n = m - i ∧ i ≤ m ∧ nth zAC t 0 = a ∧ nth zAC t 3 = .ptr 0 0 ∧ nth zAC t 40 = I64 m ∧ nth zAC t 41 = I64 i ∧ Wf N ∧ N.get 0 = some (.row false (rnR x ra)) ∧ (∀ j,j < i → zB9 l (x.sp.at (j : Nat)) = none) ∧ N.size ≤ i + 1) (n:=m) (by omega) ?_ ?_
    ·refine ⟨0,rfl,Nat.zero_le _, ?_, ?_, ?_, ?_,Wf.mem0.add _,by simp (maxSteps:=2000000) (disch:=first | omega | assumption | (simp only [DS,Nat.reduceAdd, *]; done) | (simp only [DZ]; omega)) only [RUN,RU,zA4,zA2,zA1,zA5,frzL,slot,lay,icyL,zA6,zA0,kR,reduceIte,Nat.reduceEqDiff,Nat.reduceBEq,Nat.reduceLT,Nat.reduceAdd,Nat.reduceLeDiff,Nat.reduceSub,Nat.reduceMul,Int.reduceLT,Int.reduceLE,Int.reduceEq,Int.reduceAdd,Int.reduceSub,Int.reduceMul],(fun _ h=>absurd h (by omega)),Nat.le_refl _⟩ <;> simp (maxSteps:=2000000) (disch:=first | omega | assumption | (simp only [DS,Nat.reduceAdd, *]; done) | (simp only [DZ]; omega)) only [RUN,RU,zA4,zA2,zA1,zA5,frzL,slot,lay,icyL,zA6,zA0,kR,reduceIte,Nat.reduceEqDiff,Nat.reduceBEq,Nat.reduceLT,Nat.reduceAdd,Nat.reduceLeDiff,Nat.reduceSub,Nat.reduceMul,Int.reduceLT,Int.reduceLE,Int.reduceEq,Int.reduceAdd,Int.reduceSub,Int.reduceMul,h0,h1,hmn]
     all_goals first | rfl | assumption | done
    ·rintro n t N hlt ⟨i,rfl,hi,g0,g3,g40,g41,w,g,hj,sz⟩
     simp only [ht] at hlt ⊢
     have lg:=Mem.get_lt g
     by_cases hc : i < m
     ·have q1 : decide ((i : Int) < m) = true:=decide_eq_true (by omega)
      have w1 : IntKind.i64.wrap ((i : Int) + 1) = ((i + 1 : Nat) : Int):=by rw [wrap_i64] <;> omega
      have iai:=ia i hc
      have hwi:=hwh (x.sp.at (i : Nat))
      cases hwl : zB9 l (x.sp.at (i : Nat)) with
      | some p =>
       have e2 : putE l x = 2:=by rw [hiE,if_pos ⟨i,by omega,by rw [hwl]; simp⟩]
       have er : insR l x = []:=by unfold insR; rw [e2]; rfl
       rw [hwl] at hwi
       have qp : decide ((0 : Int) ≤ ((p.1 : Nat) : Int)) = true:=decide_eq_true (by omega)
       rw [e2,er]
       simp (maxSteps:=2000000) (disch:=first | omega | assumption | (simp only [DS,Nat.reduceAdd, *]; done) | (simp only [DZ]; omega)) only [RUN,RU,zA4,zA2,zA1,zA5,frzL,slot,lay,icyL,zA6,zA0,kR,reduceIte,Nat.reduceEqDiff,Nat.reduceBEq,Nat.reduceLT,Nat.reduceAdd,Nat.reduceLeDiff,Nat.reduceSub,Nat.reduceMul,Int.reduceLT,Int.reduceLE,Int.reduceEq,Int.reduceAdd,Int.reduceSub,Int.reduceMul,g0,g3,g40,g41,hS.fz.rows,hS.fz.one,hS.fz.cells,hS.fz.icy,hS.fz.frz,hR.fz.rows,hR.fz.one,hR.fz.cells,hR.fz.icy,hR.fz.frz,q1,iai,g,w,hwi,wN,wK,qp]
       exact ⟨NIL,.inl ⟨rfl,rfl⟩,rfl⟩
      | none =>
       rw [hwl] at hwi
       simp (maxSteps:=2000000) (disch:=first | omega | assumption | (simp only [DS,Nat.reduceAdd, *]; done) | (simp only [DZ]; omega)) only [RUN,RU,zA4,zA2,zA1,zA5,frzL,slot,lay,icyL,zA6,zA0,kR,reduceIte,Nat.reduceEqDiff,Nat.reduceBEq,Nat.reduceLT,Nat.reduceAdd,Nat.reduceLeDiff,Nat.reduceSub,Nat.reduceMul,Int.reduceLT,Int.reduceLE,Int.reduceEq,Int.reduceAdd,Int.reduceSub,Int.reduceMul,g0,g3,g40,g41,hS.fz.rows,hS.fz.one,hS.fz.cells,hS.fz.icy,hS.fz.frz,hR.fz.rows,hR.fz.one,hR.fz.cells,hR.fz.icy,hR.fz.frz,q1,iai,g,w,hwi,wN,wK,qg1,w1]
       refine ⟨hlt,m - (i + 1),by omega,i + 1,rfl,by omega,rfl,fun j hj'=>?_,by omega⟩
       rcases Nat.lt_succ_iff_lt_or_eq.1 hj' with h | rfl
       ·exact hj j h
       ·exact hwl
     ·obtain rfl : i = m:=by omega
      have q1 : decide ((i : Int) < i) = false:=decide_eq_false (by omega)
      have hno : ¬∃ j : Nat,(j : Int) < x.sp.n ∧ zB9 l (x.sp.at j) ≠ none:=fun ⟨j,h1,h2⟩=>h2 (hj j (by omega))
      rw [if_neg hno] at hiE
      have hct:=fun M=>@zH4 fuel (d + 9) a l hS hok.1 (by omega) (by omega) M
      have hcl:=zEA hok.1
      have w2 : IntKind.i64.wrap (zB5 l + x.sp.n) = zB5 l + x.sp.n:=by rw [wrap_i64] <;> omega
      by_cases h4 : 8192 < zB5 l + x.sp.n
      ·have e4 : putE l x = 4:=by rw [hiE,if_pos h4]
       have er : insR l x = []:=by unfold insR; rw [e4]; rfl
       have q4 : decide (8192 < zB5 l + x.sp.n) = true:=decide_eq_true h4
       rw [e4,er]
       simp (maxSteps:=2000000) (disch:=first | omega | assumption | (simp only [DS,Nat.reduceAdd, *]; done) | (simp only [DZ]; omega)) only [RUN,RU,zA4,zA2,zA1,zA5,frzL,slot,lay,icyL,zA6,zA0,kR,reduceIte,Nat.reduceEqDiff,Nat.reduceBEq,Nat.reduceLT,Nat.reduceAdd,Nat.reduceLeDiff,Nat.reduceSub,Nat.reduceMul,Int.reduceLT,Int.reduceLE,Int.reduceEq,Int.reduceAdd,Int.reduceSub,Int.reduceMul,g0,g3,g40,g41,hS.fz.rows,hS.fz.one,hS.fz.cells,hS.fz.icy,hS.fz.frz,hR.fz.rows,hR.fz.one,hR.fz.cells,hR.fz.icy,hR.fz.frz,q1,g,w,hct,w2,q4,zAT]
       exact ⟨NIL,.inl ⟨rfl,rfl⟩,rfl⟩
      ·have e0 : putE l x = 0:=by rw [hiE,if_neg h4]
       have er : insR l x = insL l x:=by unfold insR; rw [if_pos e0]
       have q4 : decide (8192 < zB5 l + x.sp.n) = false:=decide_eq_false h4
       obtain ⟨r',hr',hpart⟩:=zKQ (fuel:=fuel) (d:=d + 2) hS hok.1 hx6 (by omega) (by omega)
       obtain ⟨p1,p2,p3,p4⟩:=zLW hok.1 hx6
       have hpl:=zJA l x.af
       have hsk:=zRE (x:=x.sp.f) p1
       have hss:=fun h=>@zKY (zB7 l x.af).1 x.sp.f (zB7 l x.af).2 h
       have hmt:=fun D hD i=>@zN1 (zB7 l x.af).1 x (zB7 l x.af).2 D hD i
       have eL : insL l x = zBM ((zB7 l x.af).1.take (zET (zB7 l x.af).1 x.sp.f (zB7 l x.af).2) ++ [x] ++ (zB7 l x.af).1.drop (zET (zB7 l x.af).1 x.sp.f (zB7 l x.af).2)):=rfl
       unfold zET at hsk hss eL
       rw [e0,er,eL]
       generalize hD : ((zB7 l x.af).1.drop (zB7 l x.af).2).takeWhile (fun q=>x.sp.f.less q.sp.f) = D at *
       have hmt:=fun i=>hmt D rfl (i:=i)
       generalize (zB7 l x.af).1 = l' at *
       generalize (zB7 l x.af).2 = n0 at *
       have or':=hr'.one
       have lr':=hr'.len
       simp (maxSteps:=2000000) (disch:=first | omega | assumption | (simp only [DS,Nat.reduceAdd, *]; done) | (simp only [DZ]; omega)) only [RUN,RU,zA4,zA2,zA1,zA5,frzL,slot,lay,icyL,zA6,zA0,kR,reduceIte,Nat.reduceEqDiff,Nat.reduceBEq,Nat.reduceLT,Nat.reduceAdd,Nat.reduceLeDiff,Nat.reduceSub,Nat.reduceMul,Int.reduceLT,Int.reduceLE,Int.reduceEq,Int.reduceAdd,Int.reduceSub,Int.reduceMul,g0,g3,g40,g41,hS.fz.rows,hS.fz.one,hS.fz.cells,hS.fz.icy,hS.fz.frz,hR.fz.rows,hR.fz.one,hR.fz.cells,hR.fz.icy,hR.fz.frz,q1,g,w,hct,w2,q4,zAT,hpart,hr'.fz.rows,hr'.fz.one,hr'.fz.cells,hr'.fz.icy,hr'.fz.frz]
       refine zCH (I:=fun n2 t2 N2 => ∃ (i2 : Nat),n2 = l'.length - n0 - i2 ∧ i2 ≤ l'.length - n0 ∧ nth zAC t2 0 = r' ∧ nth zAC t2 3 = .ptr 0 0 ∧ nth zAC t2 14 = I64 ((n0 + i2 : Nat) : Int) ∧ Wf N2 ∧ N2.size ≤ 70 ∧ N2.get 0 = some (.row false (rnR x ra)) ∧ i2 ≤ D.length) (n:=l'.length - n0) (by omega) ?_ ?_
       ·refine ⟨0,rfl,Nat.zero_le _, ?_, ?_, ?_,w,by omega,g,Nat.zero_le _⟩ <;> simp (maxSteps:=2000000) (disch:=first | omega | assumption | (simp only [DS,Nat.reduceAdd, *]; done) | (simp only [DZ]; omega)) only [RUN,RU,zA4,zA2,zA1,zA5,frzL,slot,lay,icyL,zA6,zA0,kR,reduceIte,Nat.reduceEqDiff,Nat.reduceBEq,Nat.reduceLT,Nat.reduceAdd,Nat.reduceLeDiff,Nat.reduceSub,Nat.reduceMul,Int.reduceLT,Int.reduceLE,Int.reduceEq,Int.reduceAdd,Int.reduceSub,Int.reduceMul,g0,g3,Nat.add_zero]
        all_goals first | rfl | assumption | done
       ·rintro n2 t2 N2 hlt2 ⟨i2,rfl,hi2,g20,g23,g214,wf2,sz2,gg,hi2⟩
        simp only [hlt] at hlt2 ⊢
        have lgg:=Mem.get_lt gg
        by_cases hc2 : n0 + i2 < l'.length
        ·have q2 : decide (((n0 + i2 : Nat) : Int) < l'.length) = true:=decide_eq_true (by omega)
         have w3 : IntKind.i64.wrap (((n0 + i2 : Nat) : Int) + 1) = ((n0 + (i2 + 1) : Nat) : Int):=by rw [wrap_i64] <;> omega
         obtain ⟨r2,hiad2,hre,hrl2⟩:=hr'.iad (n0 + i2) hc2
         by_cases hd2 : i2 < D.length
         ·have hlt3:=(hmt i2 hd2 hc2).1
          generalize l'[n0 + i2] = e2 at *
          obtain ⟨rb,rfl,hrb,_⟩:=hre
          have orb:=hrb.one
          have hls:=fun M=>@zEO fuel (d + 8) x.sp.f e2.sp.f M
          rw [hlt3] at hls
          simp (maxSteps:=2000000) (disch:=first | omega | assumption | (simp only [DS,Nat.reduceAdd, *]; done) | (simp only [DZ]; omega)) only [RUN,RU,zA4,zA2,zA1,zA5,frzL,slot,lay,icyL,zA6,zA0,kR,reduceIte,Nat.reduceEqDiff,Nat.reduceBEq,Nat.reduceLT,Nat.reduceAdd,Nat.reduceLeDiff,Nat.reduceSub,Nat.reduceMul,Int.reduceLT,Int.reduceLE,Int.reduceEq,Int.reduceAdd,Int.reduceSub,Int.reduceMul,g20,g23,g214,hr'.fz.rows,hr'.fz.one,hr'.fz.cells,hr'.fz.icy,hr'.fz.frz,hR.fz.rows,hR.fz.one,hR.fz.cells,hR.fz.icy,hR.fz.frz,q2,lr',hiad2,hrb.fz.rows,hrb.fz.one,hrb.fz.cells,hrb.fz.icy,hrb.fz.frz,gg,wf2,hls,w3,zAT]
          exact ⟨hlt2,l'.length - n0 - (i2 + 1),by omega,i2 + 1,rfl,by omega,rfl,by omega⟩
         ·obtain rfl : i2 = D.length:=by omega
          have hlt3:=hss hc2
          generalize l'[n0 + D.length] = e2 at *
          obtain ⟨rb,rfl,hrb,_⟩:=hre
          have orb:=hrb.one
          have hls:=fun M=>@zEO fuel (d + 8) x.sp.f e2.sp.f M
          rw [hlt3] at hls
          simp (maxSteps:=2000000) (disch:=first | omega | assumption | (simp only [DS,Nat.reduceAdd, *]; done) | (simp only [DZ]; omega)) only [RUN,RU,zA4,zA2,zA1,zA5,frzL,slot,lay,icyL,zA6,zA0,kR,reduceIte,Nat.reduceEqDiff,Nat.reduceBEq,Nat.reduceLT,Nat.reduceAdd,Nat.reduceLeDiff,Nat.reduceSub,Nat.reduceMul,Int.reduceLT,Int.reduceLE,Int.reduceEq,Int.reduceAdd,Int.reduceSub,Int.reduceMul,g20,g23,g214,hr'.fz.rows,hr'.fz.one,hr'.fz.cells,hr'.fz.icy,hr'.fz.frz,hR.fz.rows,hR.fz.one,hR.fz.cells,hR.fz.icy,hR.fz.frz,q2,lr',hiad2,hrb.fz.rows,hrb.fz.one,hrb.fz.cells,hrb.fz.icy,hrb.fz.frz,gg,wf2,hls,zAT]
          refine zH3 zCJ.cel tf21 Try.underlying22 hr' (by omega) (by omega) (by simp (maxSteps:=2000000) (disch:=first | omega | assumption | (simp only [DS,Nat.reduceAdd, *]; done) | (simp only [DZ]; omega)) only [RUN,RU,zA4,zA2,zA1,zA5,frzL,slot,lay,icyL,zA6,zA0,kR,reduceIte,Nat.reduceEqDiff,Nat.reduceBEq,Nat.reduceLT,Nat.reduceAdd,Nat.reduceLeDiff,Nat.reduceSub,Nat.reduceMul,Int.reduceLT,Int.reduceLE,Int.reduceEq,Int.reduceAdd,Int.reduceSub,Int.reduceMul,wf2]) fun o3 M3 wf3 le3 kp3 sn3 nr3 wm3 di3 sz3=>?_
          have hd3 : M3.dirty = false:=di3
          have z0 : M3.get 0 = some (.row false (rnR x ra)):=(kp3 0 lgg).trans gg
          have lz0:=Mem.get_lt z0
          have sm3:=sn3.slm
          have on3:=sm3.one
          have oc3:=sm3.cells
          have rl3:=zBB sm3.rl (Nat.le_refl M3.size)
          have rl3':=zBB sm3.rl (Nat.le_succ M3.size)
          simp (maxSteps:=2000000) (disch:=first | omega | assumption | (simp only [DS,Nat.reduceAdd, *]; done) | (simp only [DZ]; omega)) only [RUN,RU,zA4,zA2,zA1,zA5,frzL,slot,lay,icyL,zA6,zA0,kR,reduceIte,Nat.reduceEqDiff,Nat.reduceBEq,Nat.reduceLT,Nat.reduceAdd,Nat.reduceLeDiff,Nat.reduceSub,Nat.reduceMul,Int.reduceLT,Int.reduceLE,Int.reduceEq,Int.reduceAdd,Int.reduceSub,Int.reduceMul,g20,g23,g214,hd3,wf3,z0,on3,oc3,rl3,rl3',hR.fz.rows,hR.fz.one,hR.fz.cells,hR.fz.icy,hR.fz.frz,zUU,zAT]
          have sz3' : M3.size ≤ N2.size + 2:=sz3
          have hb0 : Nat.ble N2.size 0 = false:=by
           cases hb : Nat.ble N2.size 0 with
           | false=>rfl
           | true=>have:=Nat.le_of_ble_eq_true hb; omega
          refine ⟨by simp [zBV,FP.apart,FP.reads,FP.writes,hb0],by simp [zBV,FP.apart,FP.reads,FP.writes], ?_⟩
          have eX : ((N2.bk M3).add (.row false (rnR x ra))).lo = (⟨M3.t,M3.size,M3.size + 1,false⟩ : Mem).add (.row false (rnR x ra)):=rfl
          show W3 (insO _ (((N2.bk M3).add (.row false (rnR x ra))).lo) 34 10 80 o3 (I64 ((n0 + D.length : Nat) : Int)) (.sl M3.size 0 1 (some 1) 10)) _
          rw [eX]
          have wX : Wf (⟨M3.t,M3.size,M3.size + 1,false⟩ : Mem):=wf3
          have sX : (⟨M3.t,M3.size,M3.size + 1,false⟩ : Mem).size = M3.size:=rfl
          have snX : SlN (⟨M3.t,M3.size,M3.size + 1,false⟩ : Mem) 10 isRn o3 l':=sn3
          generalize (⟨M3.t,M3.size,M3.size + 1,false⟩ : Mem) = X3 at *
          have key : W3 (insO (zAF Try.prog (fsT tbl) fuel (d + 10)) (X3.add (.row false (rnR x ra))) 34 10 80 o3 (I64 ((n0 + D.length : Nat) : Int)) (.sl M3.size 0 1 (some 1) 10)) (fun o4 M4=>SlM M4 10 isRn o4 (l'.take (n0 + D.length) ++ [x] ++ l'.drop (n0 + D.length)) ∧ Wf M4):=by
           rw [← sX]
           by_cases hz : l' = []
           ·subst hz
            have e0 : n0 + D.length = 0:=by simp only [List.length_nil] at hsk; omega
            rw [e0]
            have hc0 : ((0 : Nat) : Int) = 0:=rfl
            rw [hc0]
            have h0' : W3 (zAF Try.prog (fsT tbl) fuel (d + 10) (.fn 34) [o3,I64 0,.sl X3.size 0 1 (some 1) 10] (X3.add (.row false (rnR x ra)))) (fun o4 M4=>SlM M4 10 isRn o4 [x] ∧ Wf M4):=zMW (d:=d + 9) wX snX ⟨ra,rfl,hR,hx⟩ rfl (fun o' M' a b _ _ _ _=>⟨a,b⟩)
            have e1 : insO (zAF Try.prog (fsT tbl) fuel (d + 10)) (X3.add (.row false (rnR x ra))) 34 10 80 o3 (I64 0) (.sl X3.size 0 1 (some 1) 10) = zAF Try.prog (fsT tbl) fuel (d + 10) (.fn 34) [o3,I64 0,.sl X3.size 0 1 (some 1) 10] (X3.add (.row false (rnR x ra))):=by
             rcases snX with ⟨_,rfl | ⟨id,rfl,_⟩⟩ | ⟨hn,_⟩
             ·exact zJ2 ..
             ·exact zJ0 ..
             ·exact absurd rfl hn
            rw [e1]
            exact h0'
           ·exact snX.ins (bytes:=80) (g:=34) wX hz zCJ.cel ⟨ra,rfl,hR,hx⟩ rfl (by omega) (by omega) (by omega) (by omega) (by omega) fun o' M' a b _ _ _=>⟨a,b⟩
          obtain ⟨o4,M4,he4,sm4,wf4⟩:=key
          rw [he4]
          clear he4 eX hmt hss snX sn3 sm3 kp3 hno hwh hwa hck hcx hcl ia hj hpart hct
          have on4:=sm4.one
          have oc4:=sm4.cells
          have rl4:=zBB sm4.rl (Nat.le_refl M4.size)
          simp (maxSteps:=2000000) (disch:=first | omega | assumption | (simp only [DS,Nat.reduceAdd, *]; done) | (simp only [DZ]; omega)) only [RUN,RU,zA4,zA2,zA1,zA5,frzL,slot,lay,icyL,zA6,zA0,kR,reduceIte,Nat.reduceEqDiff,Nat.reduceBEq,Nat.reduceLT,Nat.reduceAdd,Nat.reduceLeDiff,Nat.reduceSub,Nat.reduceMul,Int.reduceLT,Int.reduceLE,Int.reduceEq,Int.reduceAdd,Int.reduceSub,Int.reduceMul,g20,g23,g214,wf4,on4,oc4,rl4,zAT]
          refine zJP (n:=d + 9) (R:=fun r=>Sl 10 isRn r (zBM (l'.take (n0 + D.length) ++ [x] ++ l'.drop (n0 + D.length)))) tf19 rfl (sm4.keep fun _ _=>rfl) (show Wf _ from wf4) zCJ (fun a' ha'=>?_) fun r X' hr wX' sX' kX'=>?_
          ·refine zEP (d:=d + 1) ha' (by simp only [List.length_append,List.length_take,List.length_drop,List.length_singleton]; omega) (fun q hq=>?_) (by simp only [List.length_append,List.length_take,List.length_drop,List.length_singleton]; omega)
           have hq64 : q.rs.length ≤ 64:=by
            rcases List.mem_append.1 hq with hq | hq
            ·rcases List.mem_append.1 hq with hq | hq
             ·exact zDC p2 q (List.mem_of_mem_take hq)
             ·rw [List.mem_singleton] at hq; subst hq
              exact (Rn.may_iff.1 hxm).2.2.2.1
            ·exact zDC p2 q (List.mem_of_mem_drop hq)
           omega
          ·have orr:=hr.one
           simp (maxSteps:=2000000) (disch:=first | omega | assumption | (simp only [DS,Nat.reduceAdd, *]; done) | (simp only [DZ]; omega)) only [RUN,RU,zA4,zA2,zA1,zA5,frzL,slot,lay,icyL,zA6,zA0,kR,reduceIte,Nat.reduceEqDiff,Nat.reduceBEq,Nat.reduceLT,Nat.reduceAdd,Nat.reduceLeDiff,Nat.reduceSub,Nat.reduceMul,Int.reduceLT,Int.reduceLE,Int.reduceEq,Int.reduceAdd,Int.reduceSub,Int.reduceMul,g20,g23,g214,wX',hr.fz.rows,hr.fz.one,hr.fz.cells,hr.fz.icy,hr.fz.frz,zAT]
           exact ⟨r,hr,rfl⟩
        ·obtain rfl : i2 = D.length:=by omega
         have q2 : decide (((n0 + D.length : Nat) : Int) < l'.length) = false:=decide_eq_false (by omega)
         simp (maxSteps:=2000000) (disch:=first | omega | assumption | (simp only [DS,Nat.reduceAdd, *]; done) | (simp only [DZ]; omega)) only [RUN,RU,zA4,zA2,zA1,zA5,frzL,slot,lay,icyL,zA6,zA0,kR,reduceIte,Nat.reduceEqDiff,Nat.reduceBEq,Nat.reduceLT,Nat.reduceAdd,Nat.reduceLeDiff,Nat.reduceSub,Nat.reduceMul,Int.reduceLT,Int.reduceLE,Int.reduceEq,Int.reduceAdd,Int.reduceSub,Int.reduceMul,g20,g23,g214,hr'.fz.rows,hr'.fz.one,hr'.fz.cells,hr'.fz.icy,hr'.fz.frz,hR.fz.rows,hR.fz.one,hR.fz.cells,hR.fz.icy,hR.fz.frz,q2,lr',gg,wf2,zAT]
         refine zH3 zCJ.cel tf21 Try.underlying22 hr' (by omega) (by omega) (by simp (maxSteps:=2000000) (disch:=first | omega | assumption | (simp only [DS,Nat.reduceAdd, *]; done) | (simp only [DZ]; omega)) only [RUN,RU,zA4,zA2,zA1,zA5,frzL,slot,lay,icyL,zA6,zA0,kR,reduceIte,Nat.reduceEqDiff,Nat.reduceBEq,Nat.reduceLT,Nat.reduceAdd,Nat.reduceLeDiff,Nat.reduceSub,Nat.reduceMul,Int.reduceLT,Int.reduceLE,Int.reduceEq,Int.reduceAdd,Int.reduceSub,Int.reduceMul,wf2]) fun o3 M3 wf3 le3 kp3 sn3 nr3 wm3 di3 sz3=>?_
         have hd3 : M3.dirty = false:=di3
         have z0 : M3.get 0 = some (.row false (rnR x ra)):=(kp3 0 lgg).trans gg
         have lz0:=Mem.get_lt z0
         have sm3:=sn3.slm
         have on3:=sm3.one
         have oc3:=sm3.cells
         have rl3:=zBB sm3.rl (Nat.le_refl M3.size)
         have rl3':=zBB sm3.rl (Nat.le_succ M3.size)
         simp (maxSteps:=2000000) (disch:=first | omega | assumption | (simp only [DS,Nat.reduceAdd, *]; done) | (simp only [DZ]; omega)) only [RUN,RU,zA4,zA2,zA1,zA5,frzL,slot,lay,icyL,zA6,zA0,kR,reduceIte,Nat.reduceEqDiff,Nat.reduceBEq,Nat.reduceLT,Nat.reduceAdd,Nat.reduceLeDiff,Nat.reduceSub,Nat.reduceMul,Int.reduceLT,Int.reduceLE,Int.reduceEq,Int.reduceAdd,Int.reduceSub,Int.reduceMul,g20,g23,g214,hd3,wf3,z0,on3,oc3,rl3,rl3',hR.fz.rows,hR.fz.one,hR.fz.cells,hR.fz.icy,hR.fz.frz,zUU,zAT]
         have sz3' : M3.size ≤ N2.size + 2:=sz3
         have hb0 : Nat.ble N2.size 0 = false:=by
          cases hb : Nat.ble N2.size 0 with
          | false=>rfl
          | true=>have:=Nat.le_of_ble_eq_true hb; omega
         refine ⟨by simp [zBV,FP.apart,FP.reads,FP.writes,hb0],by simp [zBV,FP.apart,FP.reads,FP.writes], ?_⟩
         have eX : ((N2.bk M3).add (.row false (rnR x ra))).lo = (⟨M3.t,M3.size,M3.size + 1,false⟩ : Mem).add (.row false (rnR x ra)):=rfl
         show W3 (insO _ (((N2.bk M3).add (.row false (rnR x ra))).lo) 34 10 80 o3 (I64 ((n0 + D.length : Nat) : Int)) (.sl M3.size 0 1 (some 1) 10)) _
         rw [eX]
         have wX : Wf (⟨M3.t,M3.size,M3.size + 1,false⟩ : Mem):=wf3
         have sX : (⟨M3.t,M3.size,M3.size + 1,false⟩ : Mem).size = M3.size:=rfl
         have snX : SlN (⟨M3.t,M3.size,M3.size + 1,false⟩ : Mem) 10 isRn o3 l':=sn3
         generalize (⟨M3.t,M3.size,M3.size + 1,false⟩ : Mem) = X3 at *
         have key : W3 (insO (zAF Try.prog (fsT tbl) fuel (d + 10)) (X3.add (.row false (rnR x ra))) 34 10 80 o3 (I64 ((n0 + D.length : Nat) : Int)) (.sl M3.size 0 1 (some 1) 10)) (fun o4 M4=>SlM M4 10 isRn o4 (l'.take (n0 + D.length) ++ [x] ++ l'.drop (n0 + D.length)) ∧ Wf M4):=by
          rw [← sX]
          by_cases hz : l' = []
          ·subst hz
           have e0 : n0 + D.length = 0:=by simp only [List.length_nil] at hsk; omega
           rw [e0]
           have hc0 : ((0 : Nat) : Int) = 0:=rfl
           rw [hc0]
           have h0' : W3 (zAF Try.prog (fsT tbl) fuel (d + 10) (.fn 34) [o3,I64 0,.sl X3.size 0 1 (some 1) 10] (X3.add (.row false (rnR x ra)))) (fun o4 M4=>SlM M4 10 isRn o4 [x] ∧ Wf M4):=zMW (d:=d + 9) wX snX ⟨ra,rfl,hR,hx⟩ rfl (fun o' M' a b _ _ _ _=>⟨a,b⟩)
           have e1 : insO (zAF Try.prog (fsT tbl) fuel (d + 10)) (X3.add (.row false (rnR x ra))) 34 10 80 o3 (I64 0) (.sl X3.size 0 1 (some 1) 10) = zAF Try.prog (fsT tbl) fuel (d + 10) (.fn 34) [o3,I64 0,.sl X3.size 0 1 (some 1) 10] (X3.add (.row false (rnR x ra))):=by
            rcases snX with ⟨_,rfl | ⟨id,rfl,_⟩⟩ | ⟨hn,_⟩
            ·exact zJ2 ..
            ·exact zJ0 ..
            ·exact absurd rfl hn
           rw [e1]
           exact h0'
          ·exact snX.ins (bytes:=80) (g:=34) wX hz zCJ.cel ⟨ra,rfl,hR,hx⟩ rfl (by omega) (by omega) (by omega) (by omega) (by omega) fun o' M' a b _ _ _=>⟨a,b⟩
         obtain ⟨o4,M4,he4,sm4,wf4⟩:=key
         rw [he4]
         clear he4 eX hmt hss snX sn3 sm3 kp3 hno hwh hwa hck hcx hcl ia hj hpart hct
         have on4:=sm4.one
         have oc4:=sm4.cells
         have rl4:=zBB sm4.rl (Nat.le_refl M4.size)
         simp (maxSteps:=2000000) (disch:=first | omega | assumption | (simp only [DS,Nat.reduceAdd, *]; done) | (simp only [DZ]; omega)) only [RUN,RU,zA4,zA2,zA1,zA5,frzL,slot,lay,icyL,zA6,zA0,kR,reduceIte,Nat.reduceEqDiff,Nat.reduceBEq,Nat.reduceLT,Nat.reduceAdd,Nat.reduceLeDiff,Nat.reduceSub,Nat.reduceMul,Int.reduceLT,Int.reduceLE,Int.reduceEq,Int.reduceAdd,Int.reduceSub,Int.reduceMul,g20,g23,g214,wf4,on4,oc4,rl4,zAT]
         refine zJP (n:=d + 9) (R:=fun r=>Sl 10 isRn r (zBM (l'.take (n0 + D.length) ++ [x] ++ l'.drop (n0 + D.length)))) tf19 rfl (sm4.keep fun _ _=>rfl) (show Wf _ from wf4) zCJ (fun a' ha'=>?_) fun r X' hr wX' sX' kX'=>?_
         ·refine zEP (d:=d + 1) ha' (by simp only [List.length_append,List.length_take,List.length_drop,List.length_singleton]; omega) (fun q hq=>?_) (by simp only [List.length_append,List.length_take,List.length_drop,List.length_singleton]; omega)
          have hq64 : q.rs.length ≤ 64:=by
           rcases List.mem_append.1 hq with hq | hq
           ·rcases List.mem_append.1 hq with hq | hq
            ·exact zDC p2 q (List.mem_of_mem_take hq)
            ·rw [List.mem_singleton] at hq; subst hq
             exact (Rn.may_iff.1 hxm).2.2.2.1
           ·exact zDC p2 q (List.mem_of_mem_drop hq)
          omega
         ·have orr:=hr.one
          simp (maxSteps:=2000000) (disch:=first | omega | assumption | (simp only [DS,Nat.reduceAdd, *]; done) | (simp only [DZ]; omega)) only [RUN,RU,zA4,zA2,zA1,zA5,frzL,slot,lay,icyL,zA6,zA0,kR,reduceIte,Nat.reduceEqDiff,Nat.reduceBEq,Nat.reduceLT,Nat.reduceAdd,Nat.reduceLeDiff,Nat.reduceSub,Nat.reduceMul,Int.reduceLT,Int.reduceLE,Int.reduceEq,Int.reduceAdd,Int.reduceSub,Int.reduceMul,g20,g23,g214,wX',hr.fz.rows,hr.fz.one,hr.fz.cells,hr.fz.icy,hr.fz.frz,zAT]
          exact ⟨r,hr,rfl⟩
   | false =>
    simp (maxSteps:=2000000) (disch:=first | omega | assumption | (simp only [DS,Nat.reduceAdd, *]; done) | (simp only [DZ]; omega)) only [RUN,RU,zA4,zA2,zA1,zA5,frzL,slot,lay,icyL,zA6,zA0,kR,reduceIte,Nat.reduceEqDiff,Nat.reduceBEq,Nat.reduceLT,Nat.reduceAdd,Nat.reduceLeDiff,Nat.reduceSub,Nat.reduceMul,Int.reduceLT,Int.reduceLE,Int.reduceEq,Int.reduceAdd,Int.reduceSub,Int.reduceMul,h0,h1,hS.fz.rows,hS.fz.one,hS.fz.cells,hS.fz.icy,hS.fz.frz,hR.fz.rows,hR.fz.one,hR.fz.cells,hR.fz.icy,hR.fz.frz,hck,hcx,IMX,zBP,z00,zDH,zDJ,zDI,BMM,zAT,hwa,hb6]
    refine zCH (I:=fun n t N => ∃ (i : Nat),n = m - i ∧ i ≤ m ∧ nth zAC t 0 = a ∧ nth zAC t 3 = .ptr 0 0 ∧ nth zAC t 40 = I64 m ∧ nth zAC t 41 = I64 i ∧ Wf N ∧ N.get 0 = some (.row false (rnR x ra)) ∧ (∀ j,j < i → zB9 l (x.sp.at (j : Nat)) = none) ∧ N.size ≤ i + 1) (n:=m) (by omega) ?_ ?_
    ·refine ⟨0,rfl,Nat.zero_le _, ?_, ?_, ?_, ?_,Wf.mem0.add _,by simp (maxSteps:=2000000) (disch:=first | omega | assumption | (simp only [DS,Nat.reduceAdd, *]; done) | (simp only [DZ]; omega)) only [RUN,RU,zA4,zA2,zA1,zA5,frzL,slot,lay,icyL,zA6,zA0,kR,reduceIte,Nat.reduceEqDiff,Nat.reduceBEq,Nat.reduceLT,Nat.reduceAdd,Nat.reduceLeDiff,Nat.reduceSub,Nat.reduceMul,Int.reduceLT,Int.reduceLE,Int.reduceEq,Int.reduceAdd,Int.reduceSub,Int.reduceMul],(fun _ h=>absurd h (by omega)),Nat.le_refl _⟩ <;> simp (maxSteps:=2000000) (disch:=first | omega | assumption | (simp only [DS,Nat.reduceAdd, *]; done) | (simp only [DZ]; omega)) only [RUN,RU,zA4,zA2,zA1,zA5,frzL,slot,lay,icyL,zA6,zA0,kR,reduceIte,Nat.reduceEqDiff,Nat.reduceBEq,Nat.reduceLT,Nat.reduceAdd,Nat.reduceLeDiff,Nat.reduceSub,Nat.reduceMul,Int.reduceLT,Int.reduceLE,Int.reduceEq,Int.reduceAdd,Int.reduceSub,Int.reduceMul,h0,h1,hmn]
     all_goals first | rfl | assumption | done
    ·rintro n t N hlt ⟨i,rfl,hi,g0,g3,g40,g41,w,g,hj,sz⟩
     simp only [ht] at hlt ⊢
     have lg:=Mem.get_lt g
     by_cases hc : i < m
     ·have q1 : decide ((i : Int) < m) = true:=decide_eq_true (by omega)
      have w1 : IntKind.i64.wrap ((i : Int) + 1) = ((i + 1 : Nat) : Int):=by rw [wrap_i64] <;> omega
      have iai:=ia i hc
      have hwi:=hwh (x.sp.at (i : Nat))
      cases hwl : zB9 l (x.sp.at (i : Nat)) with
      | some p =>
       have e2 : putE l x = 2:=by rw [hiE,if_pos ⟨i,by omega,by rw [hwl]; simp⟩]
       have er : insR l x = []:=by unfold insR; rw [e2]; rfl
       rw [hwl] at hwi
       have qp : decide ((0 : Int) ≤ ((p.1 : Nat) : Int)) = true:=decide_eq_true (by omega)
       rw [e2,er]
       simp (maxSteps:=2000000) (disch:=first | omega | assumption | (simp only [DS,Nat.reduceAdd, *]; done) | (simp only [DZ]; omega)) only [RUN,RU,zA4,zA2,zA1,zA5,frzL,slot,lay,icyL,zA6,zA0,kR,reduceIte,Nat.reduceEqDiff,Nat.reduceBEq,Nat.reduceLT,Nat.reduceAdd,Nat.reduceLeDiff,Nat.reduceSub,Nat.reduceMul,Int.reduceLT,Int.reduceLE,Int.reduceEq,Int.reduceAdd,Int.reduceSub,Int.reduceMul,g0,g3,g40,g41,hS.fz.rows,hS.fz.one,hS.fz.cells,hS.fz.icy,hS.fz.frz,hR.fz.rows,hR.fz.one,hR.fz.cells,hR.fz.icy,hR.fz.frz,q1,iai,g,w,hwi,wN,wK,qp]
       exact ⟨NIL,.inl ⟨rfl,rfl⟩,rfl⟩
      | none =>
       rw [hwl] at hwi
       simp (maxSteps:=2000000) (disch:=first | omega | assumption | (simp only [DS,Nat.reduceAdd, *]; done) | (simp only [DZ]; omega)) only [RUN,RU,zA4,zA2,zA1,zA5,frzL,slot,lay,icyL,zA6,zA0,kR,reduceIte,Nat.reduceEqDiff,Nat.reduceBEq,Nat.reduceLT,Nat.reduceAdd,Nat.reduceLeDiff,Nat.reduceSub,Nat.reduceMul,Int.reduceLT,Int.reduceLE,Int.reduceEq,Int.reduceAdd,Int.reduceSub,Int.reduceMul,g0,g3,g40,g41,hS.fz.rows,hS.fz.one,hS.fz.cells,hS.fz.icy,hS.fz.frz,hR.fz.rows,hR.fz.one,hR.fz.cells,hR.fz.icy,hR.fz.frz,q1,iai,g,w,hwi,wN,wK,qg1,w1]
       refine ⟨hlt,m - (i + 1),by omega,i + 1,rfl,by omega,rfl,fun j hj'=>?_,by omega⟩
       rcases Nat.lt_succ_iff_lt_or_eq.1 hj' with h | rfl
       ·exact hj j h
       ·exact hwl
     ·obtain rfl : i = m:=by omega
      have q1 : decide ((i : Int) < i) = false:=decide_eq_false (by omega)
      have hno : ¬∃ j : Nat,(j : Int) < x.sp.n ∧ zB9 l (x.sp.at j) ≠ none:=fun ⟨j,h1,h2⟩=>h2 (hj j (by omega))
      rw [if_neg hno] at hiE
      have hct:=fun M=>@zH4 fuel (d + 9) a l hS hok.1 (by omega) (by omega) M
      have hcl:=zEA hok.1
      have w2 : IntKind.i64.wrap (zB5 l + x.sp.n) = zB5 l + x.sp.n:=by rw [wrap_i64] <;> omega
      by_cases h4 : 8192 < zB5 l + x.sp.n
      ·have e4 : putE l x = 4:=by rw [hiE,if_pos h4]
       have er : insR l x = []:=by unfold insR; rw [e4]; rfl
       have q4 : decide (8192 < zB5 l + x.sp.n) = true:=decide_eq_true h4
       rw [e4,er]
       simp (maxSteps:=2000000) (disch:=first | omega | assumption | (simp only [DS,Nat.reduceAdd, *]; done) | (simp only [DZ]; omega)) only [RUN,RU,zA4,zA2,zA1,zA5,frzL,slot,lay,icyL,zA6,zA0,kR,reduceIte,Nat.reduceEqDiff,Nat.reduceBEq,Nat.reduceLT,Nat.reduceAdd,Nat.reduceLeDiff,Nat.reduceSub,Nat.reduceMul,Int.reduceLT,Int.reduceLE,Int.reduceEq,Int.reduceAdd,Int.reduceSub,Int.reduceMul,g0,g3,g40,g41,hS.fz.rows,hS.fz.one,hS.fz.cells,hS.fz.icy,hS.fz.frz,hR.fz.rows,hR.fz.one,hR.fz.cells,hR.fz.icy,hR.fz.frz,q1,g,w,hct,w2,q4,zAT]
       exact ⟨NIL,.inl ⟨rfl,rfl⟩,rfl⟩
      ·have e0 : putE l x = 0:=by rw [hiE,if_neg h4]
       have er : insR l x = insL l x:=by unfold insR; rw [if_pos e0]
       have q4 : decide (8192 < zB5 l + x.sp.n) = false:=decide_eq_false h4
       obtain ⟨r',hr',hpart⟩:=zKQ (fuel:=fuel) (d:=d + 2) hS hok.1 hx6 (by omega) (by omega)
       obtain ⟨p1,p2,p3,p4⟩:=zLW hok.1 hx6
       have hpl:=zJA l x.af
       have hsk:=zRE (x:=x.sp.f) p1
       have hss:=fun h=>@zKY (zB7 l x.af).1 x.sp.f (zB7 l x.af).2 h
       have hmt:=fun D hD i=>@zN1 (zB7 l x.af).1 x (zB7 l x.af).2 D hD i
       have eL : insL l x = zBM ((zB7 l x.af).1.take (zET (zB7 l x.af).1 x.sp.f (zB7 l x.af).2) ++ [x] ++ (zB7 l x.af).1.drop (zET (zB7 l x.af).1 x.sp.f (zB7 l x.af).2)):=rfl
       unfold zET at hsk hss eL
       rw [e0,er,eL]
       generalize hD : ((zB7 l x.af).1.drop (zB7 l x.af).2).takeWhile (fun q=>x.sp.f.less q.sp.f) = D at *
       have hmt:=fun i=>hmt D rfl (i:=i)
       generalize (zB7 l x.af).1 = l' at *
       generalize (zB7 l x.af).2 = n0 at *
       have or':=hr'.one
       have lr':=hr'.len
       simp (maxSteps:=2000000) (disch:=first | omega | assumption | (simp only [DS,Nat.reduceAdd, *]; done) | (simp only [DZ]; omega)) only [RUN,RU,zA4,zA2,zA1,zA5,frzL,slot,lay,icyL,zA6,zA0,kR,reduceIte,Nat.reduceEqDiff,Nat.reduceBEq,Nat.reduceLT,Nat.reduceAdd,Nat.reduceLeDiff,Nat.reduceSub,Nat.reduceMul,Int.reduceLT,Int.reduceLE,Int.reduceEq,Int.reduceAdd,Int.reduceSub,Int.reduceMul,g0,g3,g40,g41,hS.fz.rows,hS.fz.one,hS.fz.cells,hS.fz.icy,hS.fz.frz,hR.fz.rows,hR.fz.one,hR.fz.cells,hR.fz.icy,hR.fz.frz,q1,g,w,hct,w2,q4,zAT,hpart,hr'.fz.rows,hr'.fz.one,hr'.fz.cells,hr'.fz.icy,hr'.fz.frz]
       refine zCH (I:=fun n2 t2 N2 => ∃ (i2 : Nat),n2 = l'.length - n0 - i2 ∧ i2 ≤ l'.length - n0 ∧ nth zAC t2 0 = r' ∧ nth zAC t2 3 = .ptr 0 0 ∧ nth zAC t2 14 = I64 ((n0 + i2 : Nat) : Int) ∧ Wf N2 ∧ N2.size ≤ 70 ∧ N2.get 0 = some (.row false (rnR x ra)) ∧ i2 ≤ D.length) (n:=l'.length - n0) (by omega) ?_ ?_
       ·refine ⟨0,rfl,Nat.zero_le _, ?_, ?_, ?_,w,by omega,g,Nat.zero_le _⟩ <;> simp (maxSteps:=2000000) (disch:=first | omega | assumption | (simp only [DS,Nat.reduceAdd, *]; done) | (simp only [DZ]; omega)) only [RUN,RU,zA4,zA2,zA1,zA5,frzL,slot,lay,icyL,zA6,zA0,kR,reduceIte,Nat.reduceEqDiff,Nat.reduceBEq,Nat.reduceLT,Nat.reduceAdd,Nat.reduceLeDiff,Nat.reduceSub,Nat.reduceMul,Int.reduceLT,Int.reduceLE,Int.reduceEq,Int.reduceAdd,Int.reduceSub,Int.reduceMul,g0,g3,Nat.add_zero]
        all_goals first | rfl | assumption | done
       ·rintro n2 t2 N2 hlt2 ⟨i2,rfl,hi2,g20,g23,g214,wf2,sz2,gg,hi2⟩
        simp only [hlt] at hlt2 ⊢
        have lgg:=Mem.get_lt gg
        by_cases hc2 : n0 + i2 < l'.length
        ·have q2 : decide (((n0 + i2 : Nat) : Int) < l'.length) = true:=decide_eq_true (by omega)
         have w3 : IntKind.i64.wrap (((n0 + i2 : Nat) : Int) + 1) = ((n0 + (i2 + 1) : Nat) : Int):=by rw [wrap_i64] <;> omega
         obtain ⟨r2,hiad2,hre,hrl2⟩:=hr'.iad (n0 + i2) hc2
         by_cases hd2 : i2 < D.length
         ·have hlt3:=(hmt i2 hd2 hc2).1
          generalize l'[n0 + i2] = e2 at *
          obtain ⟨rb,rfl,hrb,_⟩:=hre
          have orb:=hrb.one
          have hls:=fun M=>@zEO fuel (d + 8) x.sp.f e2.sp.f M
          rw [hlt3] at hls
          simp (maxSteps:=2000000) (disch:=first | omega | assumption | (simp only [DS,Nat.reduceAdd, *]; done) | (simp only [DZ]; omega)) only [RUN,RU,zA4,zA2,zA1,zA5,frzL,slot,lay,icyL,zA6,zA0,kR,reduceIte,Nat.reduceEqDiff,Nat.reduceBEq,Nat.reduceLT,Nat.reduceAdd,Nat.reduceLeDiff,Nat.reduceSub,Nat.reduceMul,Int.reduceLT,Int.reduceLE,Int.reduceEq,Int.reduceAdd,Int.reduceSub,Int.reduceMul,g20,g23,g214,hr'.fz.rows,hr'.fz.one,hr'.fz.cells,hr'.fz.icy,hr'.fz.frz,hR.fz.rows,hR.fz.one,hR.fz.cells,hR.fz.icy,hR.fz.frz,q2,lr',hiad2,hrb.fz.rows,hrb.fz.one,hrb.fz.cells,hrb.fz.icy,hrb.fz.frz,gg,wf2,hls,w3,zAT]
          exact ⟨hlt2,l'.length - n0 - (i2 + 1),by omega,i2 + 1,rfl,by omega,rfl,by omega⟩
         ·obtain rfl : i2 = D.length:=by omega
          have hlt3:=hss hc2
          generalize l'[n0 + D.length] = e2 at *
          obtain ⟨rb,rfl,hrb,_⟩:=hre
          have orb:=hrb.one
          have hls:=fun M=>@zEO fuel (d + 8) x.sp.f e2.sp.f M
          rw [hlt3] at hls
          simp (maxSteps:=2000000) (disch:=first | omega | assumption | (simp only [DS,Nat.reduceAdd, *]; done) | (simp only [DZ]; omega)) only [RUN,RU,zA4,zA2,zA1,zA5,frzL,slot,lay,icyL,zA6,zA0,kR,reduceIte,Nat.reduceEqDiff,Nat.reduceBEq,Nat.reduceLT,Nat.reduceAdd,Nat.reduceLeDiff,Nat.reduceSub,Nat.reduceMul,Int.reduceLT,Int.reduceLE,Int.reduceEq,Int.reduceAdd,Int.reduceSub,Int.reduceMul,g20,g23,g214,hr'.fz.rows,hr'.fz.one,hr'.fz.cells,hr'.fz.icy,hr'.fz.frz,hR.fz.rows,hR.fz.one,hR.fz.cells,hR.fz.icy,hR.fz.frz,q2,lr',hiad2,hrb.fz.rows,hrb.fz.one,hrb.fz.cells,hrb.fz.icy,hrb.fz.frz,gg,wf2,hls,zAT]
          refine zH3 zCJ.cel tf21 Try.underlying22 hr' (by omega) (by omega) (by simp (maxSteps:=2000000) (disch:=first | omega | assumption | (simp only [DS,Nat.reduceAdd, *]; done) | (simp only [DZ]; omega)) only [RUN,RU,zA4,zA2,zA1,zA5,frzL,slot,lay,icyL,zA6,zA0,kR,reduceIte,Nat.reduceEqDiff,Nat.reduceBEq,Nat.reduceLT,Nat.reduceAdd,Nat.reduceLeDiff,Nat.reduceSub,Nat.reduceMul,Int.reduceLT,Int.reduceLE,Int.reduceEq,Int.reduceAdd,Int.reduceSub,Int.reduceMul,wf2]) fun o3 M3 wf3 le3 kp3 sn3 nr3 wm3 di3 sz3=>?_
          have hd3 : M3.dirty = false:=di3
          have z0 : M3.get 0 = some (.row false (rnR x ra)):=(kp3 0 lgg).trans gg
          have lz0:=Mem.get_lt z0
          have sm3:=sn3.slm
          have on3:=sm3.one
          have oc3:=sm3.cells
          have rl3:=zBB sm3.rl (Nat.le_refl M3.size)
          have rl3':=zBB sm3.rl (Nat.le_succ M3.size)
          simp (maxSteps:=2000000) (disch:=first | omega | assumption | (simp only [DS,Nat.reduceAdd, *]; done) | (simp only [DZ]; omega)) only [RUN,RU,zA4,zA2,zA1,zA5,frzL,slot,lay,icyL,zA6,zA0,kR,reduceIte,Nat.reduceEqDiff,Nat.reduceBEq,Nat.reduceLT,Nat.reduceAdd,Nat.reduceLeDiff,Nat.reduceSub,Nat.reduceMul,Int.reduceLT,Int.reduceLE,Int.reduceEq,Int.reduceAdd,Int.reduceSub,Int.reduceMul,g20,g23,g214,hd3,wf3,z0,on3,oc3,rl3,rl3',hR.fz.rows,hR.fz.one,hR.fz.cells,hR.fz.icy,hR.fz.frz,zUU,zAT]
          have sz3' : M3.size ≤ N2.size + 2:=sz3
          have hb0 : Nat.ble N2.size 0 = false:=by
           cases hb : Nat.ble N2.size 0 with
           | false=>rfl
           | true=>have:=Nat.le_of_ble_eq_true hb; omega
          refine ⟨by simp [zBV,FP.apart,FP.reads,FP.writes,hb0],by simp [zBV,FP.apart,FP.reads,FP.writes], ?_⟩
          have eX : ((N2.bk M3).add (.row false (rnR x ra))).lo = (⟨M3.t,M3.size,M3.size + 1,false⟩ : Mem).add (.row false (rnR x ra)):=rfl
          show W3 (insO _ (((N2.bk M3).add (.row false (rnR x ra))).lo) 34 10 80 o3 (I64 ((n0 + D.length : Nat) : Int)) (.sl M3.size 0 1 (some 1) 10)) _
          rw [eX]
          have wX : Wf (⟨M3.t,M3.size,M3.size + 1,false⟩ : Mem):=wf3
          have sX : (⟨M3.t,M3.size,M3.size + 1,false⟩ : Mem).size = M3.size:=rfl
          have snX : SlN (⟨M3.t,M3.size,M3.size + 1,false⟩ : Mem) 10 isRn o3 l':=sn3
          generalize (⟨M3.t,M3.size,M3.size + 1,false⟩ : Mem) = X3 at *
          have key : W3 (insO (zAF Try.prog (fsT tbl) fuel (d + 10)) (X3.add (.row false (rnR x ra))) 34 10 80 o3 (I64 ((n0 + D.length : Nat) : Int)) (.sl M3.size 0 1 (some 1) 10)) (fun o4 M4=>SlM M4 10 isRn o4 (l'.take (n0 + D.length) ++ [x] ++ l'.drop (n0 + D.length)) ∧ Wf M4):=by
           rw [← sX]
           by_cases hz : l' = []
           ·subst hz
            have e0 : n0 + D.length = 0:=by simp only [List.length_nil] at hsk; omega
            rw [e0]
            have hc0 : ((0 : Nat) : Int) = 0:=rfl
            rw [hc0]
            have h0' : W3 (zAF Try.prog (fsT tbl) fuel (d + 10) (.fn 34) [o3,I64 0,.sl X3.size 0 1 (some 1) 10] (X3.add (.row false (rnR x ra)))) (fun o4 M4=>SlM M4 10 isRn o4 [x] ∧ Wf M4):=zMW (d:=d + 9) wX snX ⟨ra,rfl,hR,hx⟩ rfl (fun o' M' a b _ _ _ _=>⟨a,b⟩)
            have e1 : insO (zAF Try.prog (fsT tbl) fuel (d + 10)) (X3.add (.row false (rnR x ra))) 34 10 80 o3 (I64 0) (.sl X3.size 0 1 (some 1) 10) = zAF Try.prog (fsT tbl) fuel (d + 10) (.fn 34) [o3,I64 0,.sl X3.size 0 1 (some 1) 10] (X3.add (.row false (rnR x ra))):=by
             rcases snX with ⟨_,rfl | ⟨id,rfl,_⟩⟩ | ⟨hn,_⟩
             ·exact zJ2 ..
             ·exact zJ0 ..
             ·exact absurd rfl hn
            rw [e1]
            exact h0'
           ·exact snX.ins (bytes:=80) (g:=34) wX hz zCJ.cel ⟨ra,rfl,hR,hx⟩ rfl (by omega) (by omega) (by omega) (by omega) (by omega) fun o' M' a b _ _ _=>⟨a,b⟩
          obtain ⟨o4,M4,he4,sm4,wf4⟩:=key
          rw [he4]
          clear he4 eX hmt hss snX sn3 sm3 kp3 hno hwh hwa hck hcx hcl ia hj hpart hct
          have on4:=sm4.one
          have oc4:=sm4.cells
          have rl4:=zBB sm4.rl (Nat.le_refl M4.size)
          simp (maxSteps:=2000000) (disch:=first | omega | assumption | (simp only [DS,Nat.reduceAdd, *]; done) | (simp only [DZ]; omega)) only [RUN,RU,zA4,zA2,zA1,zA5,frzL,slot,lay,icyL,zA6,zA0,kR,reduceIte,Nat.reduceEqDiff,Nat.reduceBEq,Nat.reduceLT,Nat.reduceAdd,Nat.reduceLeDiff,Nat.reduceSub,Nat.reduceMul,Int.reduceLT,Int.reduceLE,Int.reduceEq,Int.reduceAdd,Int.reduceSub,Int.reduceMul,g20,g23,g214,wf4,on4,oc4,rl4,zAT]
          refine zJP (n:=d + 9) (R:=fun r=>Sl 10 isRn r (zBM (l'.take (n0 + D.length) ++ [x] ++ l'.drop (n0 + D.length)))) tf19 rfl (sm4.keep fun _ _=>rfl) (show Wf _ from wf4) zCJ (fun a' ha'=>?_) fun r X' hr wX' sX' kX'=>?_
          ·refine zEP (d:=d + 1) ha' (by simp only [List.length_append,List.length_take,List.length_drop,List.length_singleton]; omega) (fun q hq=>?_) (by simp only [List.length_append,List.length_take,List.length_drop,List.length_singleton]; omega)
           have hq64 : q.rs.length ≤ 64:=by
            rcases List.mem_append.1 hq with hq | hq
            ·rcases List.mem_append.1 hq with hq | hq
             ·exact zDC p2 q (List.mem_of_mem_take hq)
             ·rw [List.mem_singleton] at hq; subst hq
              exact (Rn.may_iff.1 hxm).2.2.2.1
            ·exact zDC p2 q (List.mem_of_mem_drop hq)
           omega
          ·have orr:=hr.one
           simp (maxSteps:=2000000) (disch:=first | omega | assumption | (simp only [DS,Nat.reduceAdd, *]; done) | (simp only [DZ]; omega)) only [RUN,RU,zA4,zA2,zA1,zA5,frzL,slot,lay,icyL,zA6,zA0,kR,reduceIte,Nat.reduceEqDiff,Nat.reduceBEq,Nat.reduceLT,Nat.reduceAdd,Nat.reduceLeDiff,Nat.reduceSub,Nat.reduceMul,Int.reduceLT,Int.reduceLE,Int.reduceEq,Int.reduceAdd,Int.reduceSub,Int.reduceMul,g20,g23,g214,wX',hr.fz.rows,hr.fz.one,hr.fz.cells,hr.fz.icy,hr.fz.frz,zAT]
           exact ⟨r,hr,rfl⟩
        ·obtain rfl : i2 = D.length:=by omega
         have q2 : decide (((n0 + D.length : Nat) : Int) < l'.length) = false:=decide_eq_false (by omega)
         simp (maxSteps:=2000000) (disch:=first | omega | assumption | (simp only [DS,Nat.reduceAdd, *]; done) | (simp only [DZ]; omega)) only [RUN,RU,zA4,zA2,zA1,zA5,frzL,slot,lay,icyL,zA6,zA0,kR,reduceIte,Nat.reduceEqDiff,Nat.reduceBEq,Nat.reduceLT,Nat.reduceAdd,Nat.reduceLeDiff,Nat.reduceSub,Nat.reduceMul,Int.reduceLT,Int.reduceLE,Int.reduceEq,Int.reduceAdd,Int.reduceSub,Int.reduceMul,g20,g23,g214,hr'.fz.rows,hr'.fz.one,hr'.fz.cells,hr'.fz.icy,hr'.fz.frz,hR.fz.rows,hR.fz.one,hR.fz.cells,hR.fz.icy,hR.fz.frz,q2,lr',gg,wf2,zAT]
         refine zH3 zCJ.cel tf21 Try.underlying22 hr' (by omega) (by omega) (by simp (maxSteps:=2000000) (disch:=first | omega | assumption | (simp only [DS,Nat.reduceAdd, *]; done) | (simp only [DZ]; omega)) only [RUN,RU,zA4,zA2,zA1,zA5,frzL,slot,lay,icyL,zA6,zA0,kR,reduceIte,Nat.reduceEqDiff,Nat.reduceBEq,Nat.reduceLT,Nat.reduceAdd,Nat.reduceLeDiff,Nat.reduceSub,Nat.reduceMul,Int.reduceLT,Int.reduceLE,Int.reduceEq,Int.reduceAdd,Int.reduceSub,Int.reduceMul,wf2]) fun o3 M3 wf3 le3 kp3 sn3 nr3 wm3 di3 sz3=>?_
         have hd3 : M3.dirty = false:=di3
         have z0 : M3.get 0 = some (.row false (rnR x ra)):=(kp3 0 lgg).trans gg
         have lz0:=Mem.get_lt z0
         have sm3:=sn3.slm
         have on3:=sm3.one
         have oc3:=sm3.cells
         have rl3:=zBB sm3.rl (Nat.le_refl M3.size)
         have rl3':=zBB sm3.rl (Nat.le_succ M3.size)
         simp (maxSteps:=2000000) (disch:=first | omega | assumption | (simp only [DS,Nat.reduceAdd, *]; done) | (simp only [DZ]; omega)) only [RUN,RU,zA4,zA2,zA1,zA5,frzL,slot,lay,icyL,zA6,zA0,kR,reduceIte,Nat.reduceEqDiff,Nat.reduceBEq,Nat.reduceLT,Nat.reduceAdd,Nat.reduceLeDiff,Nat.reduceSub,Nat.reduceMul,Int.reduceLT,Int.reduceLE,Int.reduceEq,Int.reduceAdd,Int.reduceSub,Int.reduceMul,g20,g23,g214,hd3,wf3,z0,on3,oc3,rl3,rl3',hR.fz.rows,hR.fz.one,hR.fz.cells,hR.fz.icy,hR.fz.frz,zUU,zAT]
         have sz3' : M3.size ≤ N2.size + 2:=sz3
         have hb0 : Nat.ble N2.size 0 = false:=by
          cases hb : Nat.ble N2.size 0 with
          | false=>rfl
          | true=>have:=Nat.le_of_ble_eq_true hb; omega
         refine ⟨by simp [zBV,FP.apart,FP.reads,FP.writes,hb0],by simp [zBV,FP.apart,FP.reads,FP.writes], ?_⟩
         have eX : ((N2.bk M3).add (.row false (rnR x ra))).lo = (⟨M3.t,M3.size,M3.size + 1,false⟩ : Mem).add (.row false (rnR x ra)):=rfl
         show W3 (insO _ (((N2.bk M3).add (.row false (rnR x ra))).lo) 34 10 80 o3 (I64 ((n0 + D.length : Nat) : Int)) (.sl M3.size 0 1 (some 1) 10)) _
         rw [eX]
         have wX : Wf (⟨M3.t,M3.size,M3.size + 1,false⟩ : Mem):=wf3
         have sX : (⟨M3.t,M3.size,M3.size + 1,false⟩ : Mem).size = M3.size:=rfl
         have snX : SlN (⟨M3.t,M3.size,M3.size + 1,false⟩ : Mem) 10 isRn o3 l':=sn3
         generalize (⟨M3.t,M3.size,M3.size + 1,false⟩ : Mem) = X3 at *
         have key : W3 (insO (zAF Try.prog (fsT tbl) fuel (d + 10)) (X3.add (.row false (rnR x ra))) 34 10 80 o3 (I64 ((n0 + D.length : Nat) : Int)) (.sl M3.size 0 1 (some 1) 10)) (fun o4 M4=>SlM M4 10 isRn o4 (l'.take (n0 + D.length) ++ [x] ++ l'.drop (n0 + D.length)) ∧ Wf M4):=by
          rw [← sX]
          by_cases hz : l' = []
          ·subst hz
           have e0 : n0 + D.length = 0:=by simp only [List.length_nil] at hsk; omega
           rw [e0]
           have hc0 : ((0 : Nat) : Int) = 0:=rfl
           rw [hc0]
           have h0' : W3 (zAF Try.prog (fsT tbl) fuel (d + 10) (.fn 34) [o3,I64 0,.sl X3.size 0 1 (some 1) 10] (X3.add (.row false (rnR x ra)))) (fun o4 M4=>SlM M4 10 isRn o4 [x] ∧ Wf M4):=zMW (d:=d + 9) wX snX ⟨ra,rfl,hR,hx⟩ rfl (fun o' M' a b _ _ _ _=>⟨a,b⟩)
           have e1 : insO (zAF Try.prog (fsT tbl) fuel (d + 10)) (X3.add (.row false (rnR x ra))) 34 10 80 o3 (I64 0) (.sl X3.size 0 1 (some 1) 10) = zAF Try.prog (fsT tbl) fuel (d + 10) (.fn 34) [o3,I64 0,.sl X3.size 0 1 (some 1) 10] (X3.add (.row false (rnR x ra))):=by
            rcases snX with ⟨_,rfl | ⟨id,rfl,_⟩⟩ | ⟨hn,_⟩
            ·exact zJ2 ..
            ·exact zJ0 ..
            ·exact absurd rfl hn
           rw [e1]
           exact h0'
          ·exact snX.ins (bytes:=80) (g:=34) wX hz zCJ.cel ⟨ra,rfl,hR,hx⟩ rfl (by omega) (by omega) (by omega) (by omega) (by omega) fun o' M' a b _ _ _=>⟨a,b⟩
         obtain ⟨o4,M4,he4,sm4,wf4⟩:=key
         rw [he4]
         clear he4 eX hmt hss snX sn3 sm3 kp3 hno hwh hwa hck hcx hcl ia hj hpart hct
         have on4:=sm4.one
         have oc4:=sm4.cells
         have rl4:=zBB sm4.rl (Nat.le_refl M4.size)
         simp (maxSteps:=2000000) (disch:=first | omega | assumption | (simp only [DS,Nat.reduceAdd, *]; done) | (simp only [DZ]; omega)) only [RUN,RU,zA4,zA2,zA1,zA5,frzL,slot,lay,icyL,zA6,zA0,kR,reduceIte,Nat.reduceEqDiff,Nat.reduceBEq,Nat.reduceLT,Nat.reduceAdd,Nat.reduceLeDiff,Nat.reduceSub,Nat.reduceMul,Int.reduceLT,Int.reduceLE,Int.reduceEq,Int.reduceAdd,Int.reduceSub,Int.reduceMul,g20,g23,g214,wf4,on4,oc4,rl4,zAT]
         refine zJP (n:=d + 9) (R:=fun r=>Sl 10 isRn r (zBM (l'.take (n0 + D.length) ++ [x] ++ l'.drop (n0 + D.length)))) tf19 rfl (sm4.keep fun _ _=>rfl) (show Wf _ from wf4) zCJ (fun a' ha'=>?_) fun r X' hr wX' sX' kX'=>?_
         ·refine zEP (d:=d + 1) ha' (by simp only [List.length_append,List.length_take,List.length_drop,List.length_singleton]; omega) (fun q hq=>?_) (by simp only [List.length_append,List.length_take,List.length_drop,List.length_singleton]; omega)
          have hq64 : q.rs.length ≤ 64:=by
           rcases List.mem_append.1 hq with hq | hq
           ·rcases List.mem_append.1 hq with hq | hq
            ·exact zDC p2 q (List.mem_of_mem_take hq)
            ·rw [List.mem_singleton] at hq; subst hq
             exact (Rn.may_iff.1 hxm).2.2.2.1
           ·exact zDC p2 q (List.mem_of_mem_drop hq)
          omega
         ·have orr:=hr.one
          simp (maxSteps:=2000000) (disch:=first | omega | assumption | (simp only [DS,Nat.reduceAdd, *]; done) | (simp only [DZ]; omega)) only [RUN,RU,zA4,zA2,zA1,zA5,frzL,slot,lay,icyL,zA6,zA0,kR,reduceIte,Nat.reduceEqDiff,Nat.reduceBEq,Nat.reduceLT,Nat.reduceAdd,Nat.reduceLeDiff,Nat.reduceSub,Nat.reduceMul,Int.reduceLT,Int.reduceLE,Int.reduceEq,Int.reduceAdd,Int.reduceSub,Int.reduceMul,g20,g23,g214,wX',hr.fz.rows,hr.fz.one,hr.fz.cells,hr.fz.icy,hr.fz.frz,zAT]
          exact ⟨r,hr,rfl⟩
 ·have e8 : putE l x = 8:=by rw [hiE,if_neg h8]
  have er : insR l x = []:=by unfold insR; rw [e8]; rfl
  have hz : imax (err (zD9 l)) (err x.may) = 8:=by
   cases ma : zD9 l <;> cases mb : x.may <;> first | rfl | exact absurd ⟨ma,mb⟩ h8
  rw [e8,er]
  simp (maxSteps:=2000000) (disch:=first | omega | assumption | (simp only [DS,Nat.reduceAdd, *]; done) | (simp only [DZ]; omega)) only [RUN,RU,zA4,zA2,zA1,zA5,frzL,slot,lay,icyL,zA6,zA0,kR,reduceIte,Nat.reduceEqDiff,Nat.reduceBEq,Nat.reduceLT,Nat.reduceAdd,Nat.reduceLeDiff,Nat.reduceSub,Nat.reduceMul,Int.reduceLT,Int.reduceLE,Int.reduceEq,Int.reduceAdd,Int.reduceSub,Int.reduceMul,h0,h1,hS.fz.rows,hS.fz.one,hS.fz.cells,hS.fz.icy,hS.fz.frz,hR.fz.rows,hR.fz.one,hR.fz.cells,hR.fz.icy,hR.fz.frz,hck,hcx,hz,z80,zDH,zDJ,zDI,BMM,zAT]
  exact ⟨NIL,.inl ⟨rfl,rfl⟩,rfl⟩
end Go.Proofs.Ytakaojjlfcmphaa
namespace Go.Proofs.Ytakaojjlfcmphaa
open Go Go.Ax
theorem zJN {l : List Rn} (h : zCC l) (hc : zC5 l = true) (v : Lb) : zCC (upTo v l) ∧ zC5 (upTo v l) = true ∧ elsR (upTo v l) = (elsR l).filter (lowE v):=by
 have hE:=(zEQ h).1
 have hC:=(zDN h.1 zFD).1 hc
 have hM:=zWY hE hC (fun _ _ _=>zKA) v
 have he : elsR (upTo v l) = (elsR l).filter (lowE v):=by rw [zNM h.1,(zE9 _).1]
 have hk : zCC (upTo v l):=by rw [zNM h.1]; exact zL0 hM
 refine ⟨hk,(zDN hk.1 zFD).2 ?_,he⟩
 rw [he]
 exact fun x hx=>hC x (List.mem_filter.1 hx).1
theorem up_up {l : List Rn} (h : zCC l) (hc : zC5 l = true) (u v : Lb) : upTo u (upTo v l) = upTo (zJ7 u v) l:=by
 obtain ⟨h1,h2,h3⟩:=zJN h hc v
 obtain ⟨h4,_,h5⟩:=zJN h1 h2 u
 obtain ⟨h6,_,h7⟩:=zJN h hc (zJ7 u v)
 refine text_eq h4 h6 fun x=>?_
 rw [h5,h7,h3,List.mem_filter,List.mem_filter,List.mem_filter]
 unfold lowE
 rw [zTG,Bool.and_eq_true]
 constructor
 ·rintro ⟨⟨a,b⟩,c⟩; exact ⟨a,c,b⟩
 ·rintro ⟨a,b,c⟩; exact ⟨⟨a,c⟩,b⟩
theorem zNZ {r : Rn} (hr : r.may = true) (hc : r.af.hd.lb.leq r.sp.f.hd.lb = true) : ∀ x ∈ r.elR,x.af.hd.lb.leq x.id.hd.lb = true:=by
 have h:=(zDN (l:=[r]) (fun q hq=>by rw [List.mem_singleton] at hq; rw [hq]; exact hr) zFD).1 (by simp [zC5,hc])
 exact fun x hx=>h x (by simp [elsR,hx])
theorem zG2 {l : List Rn} {r : Rn} (h : putE l r = 0) (hl : zC5 l = true) (hc : r.af.hd.lb.leq r.sp.f.hd.lb = true) : zC5 (insL l r) = true:=by
 obtain ⟨hok,hr,_⟩:=zFH.1 h
 refine (zDN (zI7 h).1 zFD).2 fun x hx=>?_
 rcases (zJ1 h x).1 hx with hx | hx
 ·exact (zDN hok.1 zFD).1 hl x hx
 ·exact zNZ hr hc x hx
theorem zUN {l : List Rn} {r : Rn} {v : Lb} (h : putE l r = 0) (hl : zC5 l = true) (hc : r.af.hd.lb.leq r.sp.f.hd.lb = true) (hv : r.sp.f.hd.lb.leq v = false) : upTo v (insL l r) = upTo v l:=by
 obtain ⟨hok,hr,_⟩:=zFH.1 h
 obtain ⟨h1,_,h3⟩:=zJN hok hl v
 obtain ⟨h4,_,h5⟩:=zJN (zI7 h) (zG2 h hl hc) v
 refine text_eq h4 h1 fun x=>?_
 rw [h5,h3,List.mem_filter,List.mem_filter,zJ1 h]
 constructor
 ·rintro ⟨hx | hx,hlo⟩
  ·exact ⟨hx,hlo⟩
  ·unfold lowE at hlo
   rw [zMO hx,hv] at hlo
   cases hlo
 ·rintro ⟨hx,hlo⟩; exact ⟨.inl hx,hlo⟩
theorem zaP {l : List Rn} {r : Rn} {v : Lb} (h : putE l r = 0) (hl : zC5 l = true) (hc : r.af.hd.lb.leq r.sp.f.hd.lb = true) (hv : r.sp.f.hd.lb.leq v = true) : putE (upTo v l) r = 0 ∧ upTo v (insL l r) = insL (upTo v l) r:=by
 obtain ⟨hok,hr,haf,hap,hn⟩:=zFH.1 h
 obtain ⟨h1,_,h3⟩:=zJN hok hl v
 obtain ⟨h4,_,h5⟩:=zJN (zI7 h) (zG2 h hl hc) v
 have hp : putE (upTo v l) r = 0:=by
  refine zFH.2 ⟨h1,hr, ?_, ?_, ?_⟩
  ·rcases haf with haf | ⟨e,he,hid⟩
   ·exact .inl haf
   ·refine .inr ⟨e, ?_,hid⟩
    rw [h3,List.mem_filter]
    refine ⟨he, ?_⟩
    unfold lowE
    rw [hid]
    exact zKA hc hv
  ·intro x hx e he
   rw [h3,List.mem_filter] at he
   exact hap x hx e he.1
  ·rw [h3]
   have:=List.length_filter_le (lowE v) (elsR l)
   omega
 refine ⟨hp,text_eq h4 (zI7 hp) fun x=>?_⟩
 rw [h5,List.mem_filter,zJ1 h,zJ1 hp,h3,List.mem_filter]
 constructor
 ·rintro ⟨hx | hx,hlo⟩
  ·exact .inl ⟨hx,hlo⟩
  ·exact .inr hx
 ·rintro (⟨hx,hlo⟩ | hx)
  ·exact ⟨.inl hx,hlo⟩
  ·exact ⟨.inr hx,by unfold lowE; rw [zMO hx]; exact hv⟩
theorem zVP (l : List Rn) (v : Lb) : (upTo v l).length ≤ l.length:=by
 unfold upTo
 exact Nat.le_trans (zKC _) (List.length_filter_le _ _)
theorem zUM {l : List Rn} {v : Lb} : upE l v = 0 ↔ zCC l ∧ v.may = true ∧ zC5 l = true:=by
 unfold upE
 constructor
 ·intro h
  split at h
  ·rename_i h1
   split at h
   ·rename_i h2; exact ⟨h1.1,h1.2,h2⟩
   ·cases h
  ·cases h
 ·rintro ⟨h1,h2,h3⟩
  rw [if_pos ⟨h1,h2⟩,if_pos h3]
end Go.Proofs.Ytakaojjlfcmphaa
namespace Go.Proofs.Ytakaojjlfcmphaa
open Go Go.Ax
theorem zBI {f n : Nat} {af : AFunc} {args : List AV} {v : AV} (h : fsT tbl f = some af) (hg : af.gc = 1) (hz : ∀ M,icyL (icy 12) M args = some (args,M)) (e : (zAF Try.prog (fsT tbl) 4000000 (n + 1) (.fn f) args mem0).map (·.1) = some v) (M : Mem) : zAF Try.prog (fsT tbl) 4000000 (n + 1) (.fn f) args M = some (v,M):=by
 cases hc : zAF Try.prog (fsT tbl) 4000000 (n + 1) (.fn f) args mem0 with
 | none=>rw [hc] at e; cases e
 | some p =>
  obtain ⟨v',M'⟩:=p
  rw [hc] at e
  injection e with e
  subst e
  exact zDZ h hg hc (hz mem0) (hz M)
def zUO : List AV:=[U8 1,U32 0,U8 0,I64 1,I64 3,U8 0,U32 0,U8 0,I64 0,.pv [I32 0,I32 0,I32 0] 3 (some 3) 1]
theorem r130 (M : Mem) : zAF Try.prog (fsT tbl) 4000000 59 (.fn 13) [I64 1,I64 3,I64 0] M = some (.agg zUO,M):=zBI (n:=58) tf13 rfl (fun _=>rfl) (by kernel_rfl) M
def zUP : List AV:=[U8 1,U32 0,U8 0,I64 4,I64 1,U8 1,U32 0,U8 0,I64 1,.pv [I32 0] 1 (some 1) 1]
theorem r411 (M : Mem) : zAF Try.prog (fsT tbl) 4000000 59 (.fn 13) [I64 4,I64 1,I64 1] M = some (.agg zUP,M):=zBI (n:=58) tf13 rfl (fun _=>rfl) (by kernel_rfl) M
def zY2 : List AV:=[U8 1,U32 0,U8 0,I64 5,I64 1,U8 1,U32 0,U8 0,I64 1,.pv [I32 0] 1 (some 1) 1]
theorem r511 (M : Mem) : zAF Try.prog (fsT tbl) 4000000 59 (.fn 13) [I64 5,I64 1,I64 1] M = some (.agg zY2,M):=zBI (n:=58) tf13 rfl (fun _=>rfl) (by kernel_rfl) M
def zY3 : List AV:=[U8 1,U32 0,U8 0,I64 6,I64 2,U8 1,U32 0,U8 0,I64 3,.pv [I32 0,I32 0] 2 (some 2) 1]
theorem r623 (M : Mem) : zAF Try.prog (fsT tbl) 4000000 59 (.fn 13) [I64 6,I64 2,I64 3] M = some (.agg zY3,M):=zBI (n:=58) tf13 rfl (fun _=>rfl) (by kernel_rfl) M
def zY0 : List AV:=[U8 1,U32 0,U8 0,I64 1,I64 2,U8 0,U32 0,U8 0,I64 0,.pv [I32 0,I32 0] 2 (some 2) 1]
theorem r120 (M : Mem) : zAF Try.prog (fsT tbl) 4000000 59 (.fn 13) [I64 1,I64 2,I64 0] M = some (.agg zY0,M):=zBI (n:=58) tf13 rfl (fun _=>rfl) (by kernel_rfl) M
def zY1 : List AV:=[U8 1,U32 0,U8 0,I64 3,I64 1,U8 1,U32 0,U8 0,I64 2,.pv [I32 0] 1 (some 1) 1]
theorem r312 (M : Mem) : zAF Try.prog (fsT tbl) 4000000 59 (.fn 13) [I64 3,I64 1,I64 2] M = some (.agg zY1,M):=zBI (n:=58) tf13 rfl (fun _=>rfl) (by kernel_rfl) M
def vTa : AV:=.pv [U8 1,U32 0,U8 0,I64 1,I64 1,U8 0,U32 0,U8 0,I64 0,.pv [I32 0] 1 none 1,U8 1,U32 0,U8 0,I64 4,I64 1,U8 1,U32 0,U8 0,I64 1,.pv [I32 0] 1 none 1,U8 1,U32 0,U8 0,I64 2,I64 2,U8 1,U32 0,U8 0,I64 1,.pv [I32 0,I32 0] 2 none 1] 3 none 10
theorem zZI (M : Mem) : zAF Try.prog (fsT tbl) 4000000 59 (.fn 12) [.pv (zUO ++ zUP) 2 (some 2) 10] M = some (.tup [vTa,BL true],M):=zBI (n:=58) tf12 rfl (fun _=>rfl) (by kernel_rfl) M
theorem are_a (M : Mem) : zAF Try.prog (fsT tbl) 4000000 59 (.fn 14) [vTa,BL true,.pv [I64 1,I64 4,I64 2,I64 3] 4 (some 4) 1] M = some (BL true,M):=zBI (n:=58) tf14 rfl (fun _=>rfl) (by kernel_rfl) M
def vTb : AV:=.pv [U8 1,U32 0,U8 0,I64 1,I64 1,U8 0,U32 0,U8 0,I64 0,.pv [I32 0] 1 none 1,U8 1,U32 0,U8 0,I64 5,I64 1,U8 1,U32 0,U8 0,I64 1,.pv [I32 0] 1 none 1,U8 1,U32 0,U8 0,I64 4,I64 1,U8 1,U32 0,U8 0,I64 1,.pv [I32 0] 1 none 1,U8 1,U32 0,U8 0,I64 2,I64 2,U8 1,U32 0,U8 0,I64 1,.pv [I32 0,I32 0] 2 none 1,U8 1,U32 0,U8 0,I64 6,I64 2,U8 1,U32 0,U8 0,I64 3,.pv [I32 0,I32 0] 2 none 1] 5 none 10
theorem zZJ (M : Mem) : zAF Try.prog (fsT tbl) 4000000 59 (.fn 12) [.pv (zUO ++ zUP ++ zY2 ++ zY3) 4 (some 4) 10] M = some (.tup [vTb,BL true],M):=zBI (n:=58) tf12 rfl (fun _=>rfl) (by kernel_rfl) M
theorem are_b (M : Mem) : zAF Try.prog (fsT tbl) 4000000 59 (.fn 14) [vTb,BL true,.pv [I64 1,I64 5,I64 4,I64 2,I64 3,I64 6,I64 7] 7 (some 7) 1] M = some (BL true,M):=zBI (n:=58) tf14 rfl (fun _=>rfl) (by kernel_rfl) M
def vTc : AV:=.pv [U8 1,U32 0,U8 0,I64 1,I64 3,U8 0,U32 0,U8 0,I64 0,.pv [I32 0,I32 0,I32 0] 3 none 1] 1 none 10
theorem zZK (M : Mem) : zAF Try.prog (fsT tbl) 4000000 59 (.fn 12) [.pv (zY0 ++ zY1) 2 (some 2) 10] M = some (.tup [vTc,BL true],M):=zBI (n:=58) tf12 rfl (fun _=>rfl) (by kernel_rfl) M
theorem are_c (M : Mem) : zAF Try.prog (fsT tbl) 4000000 59 (.fn 14) [vTc,BL true,.pv [I64 1,I64 2,I64 3] 3 (some 3) 1] M = some (BL true,M):=zBI (n:=58) tf14 rfl (fun _=>rfl) (by kernel_rfl) M
end Go.Proofs.Ytakaojjlfcmphaa
namespace Go.Proofs.Ytakaojjlfcmphaa
open Go Go.Ax
theorem zDS {st n : Nat} {cap : Option Nat} {M : Mem} {id : Nat} {cs : List AV} (hn : 0 < st) (hg : M.get id = some (.row false cs)) (hl : cs.length = n * st) (hz : ∀ y ∈ cs,Fz y) {f m : Nat} {af : AFunc} {us vs : List AV} {v : AV} (wf : Wf M) (h : fsT tbl f = some af) (hgc : af.gc = 1)
  (ha : ∀ M,icyL (icy 12) M us = some (us,M)) (hb : ∀ M,icyL (icy 12) M vs = some (vs,M))
  (hc : ∀ M,zAF Try.prog (fsT tbl) 4000000 (m + 1) (.fn f) (us ++ [.pv cs n cap st] ++ vs) M = some (v,M)) {Q : AV → Mem → Prop}
  (k : ∀ M',Wf M' → M'.size = M.size → (∀ j,j ≠ id → M'.get j = M.get j) → Q v M') : W3 (zAF Try.prog (fsT tbl) 4000000 (m + 1) (.fn f) (us ++ [.sl id 0 n cap st] ++ vs) M) Q:=by
 have lid:=Mem.get_lt hg
 have hcs : ∀ N,icyL (icy 11) N cs = some (cs,N):=fun N=>zFZ (by omega) N hz
 have hble : Nat.ble (0 + n * st) cs.length = true:=zBF (by omega)
 have hsl : slot cs 0 (n * st) = cs:=zBS _ _ hl.symm
 have i0 : ∀ k,(∀ N,icyL (icy k) N cs = some (cs,N)) → icy (k + 1) M (.sl id 0 n cap st) = some (.pv cs n cap st,M.upd id (.fro cs)):=fun k hk=>by
  simp only [icy,zBK hg,hble,hk,hg,zBE wf lid,hsl]
 have i1 : icy 12 M (.sl id 0 n cap st) = some (.pv cs n cap st,M.upd id (.fro cs)):=i0 11 hcs
 refine ⟨v,M.upd id (.fro cs),zDZ (bs:=us ++ [.pv cs n cap st] ++ vs) h hgc (hc mem0) (M3:=mem0) ?_ ?_,k _ (wf.upd _ _) rfl fun j hj=>zA7 wf _ _ _ (fun e=>hj e.symm)⟩
 ·have h2 : icyL (icy 12) mem0 ([.pv cs n cap st] ++ vs) = some ([.pv cs n cap st] ++ vs,mem0):=by
   have : icy 12 mem0 (.pv cs n cap st) = some (.pv cs n cap st,mem0):=rfl
   simp only [List.singleton_append,icyL,this,hb]
  rw [List.append_assoc]
  exact zDB (ha mem0) h2
 ·have h2 : icyL (icy 12) M ([.sl id 0 n cap st] ++ vs) = some ([.pv cs n cap st] ++ vs,M.upd id (.fro cs)):=by
   simp only [List.singleton_append,icyL,i1,hb]
  rw [List.append_assoc,List.append_assoc]
  exact zDB (ha M) h2
set_option maxHeartbeats 4000000 in
theorem zOZ (M : Mem) : zAF Try.prog (fsT tbl) 4000000 60 (.fn 4) [] M = some (BL true,M):=by
 apply zC1
 refine zAX tf4 rfl (by simp (maxSteps:=2000000) (disch:=first | omega | assumption | (simp only [DS,Nat.reduceAdd, *]; done) | (simp only [DZ]; omega)) only [RUN,RU,zA4,zA2,zA1,zA5,frzL,slot,lay,icyL,zA6,zA0,kR,reduceIte,Nat.reduceEqDiff,Nat.reduceBEq,Nat.reduceLT,Nat.reduceAdd,Nat.reduceLeDiff,Nat.reduceSub,Nat.reduceMul,Int.reduceLT,Int.reduceLE,Int.reduceEq,Int.reduceAdd,Int.reduceSub,Int.reduceMul]) (by simp [a4]) fun b' ht hx=>?_
 clear hx
 simp only [a4,c4,zz0,zzm,zzg] at ht ⊢
 have a1:=r130
 have a2:=r411
 have a3:=r511
 have a4:=r623
 have a5:=r120
 have a6:=r312
 simp only [zUO] at a1
 simp only [zUP] at a2
 simp only [zY2] at a3
 simp only [zY3] at a4
 simp only [zY0] at a5
 simp only [zY1] at a6
 have oa : oneA vTa = true:=rfl
 have ob : oneA vTb = true:=rfl
 have oc : oneA vTc = true:=rfl
 have ra : rowsOf vTa = []:=rfl
 have rb : rowsOf vTb = []:=rfl
 have rc : rowsOf vTc = []:=rfl
 have ic : ∀ {n : Int},Fz (I64 n):=zD4 _ _
 have fzl : ∀ (l : List AV),l.all (fun x=>match x with | .sc (.int _ _)=>true | .pv cs _ _ _=>cs.all (fun y=>match y with | .sc (.int _ _)=>true | _=>false) | _=>false) = true → ∀ y ∈ l,Fz y:=fun l h y hy=>by
  have h1:=List.all_eq_true.1 h y hy
  match y,h1 with
  | .sc (.int _ _),_=>exact zD4 _ _
  | .pv cs n c s,h1 =>
   refine ⟨rfl,rfl,rfl,fun M k hk=>?_,fun M m k hk=>?_⟩
   ·obtain ⟨k,rfl⟩ : ∃ j,k = j + 1:=⟨k - 1,by omega⟩
    rfl
   ·obtain ⟨k,rfl⟩ : ∃ j,k = j + 1:=⟨k - 1,by omega⟩
    rfl
 simp (maxSteps:=2000000) (disch:=first | omega | assumption | (simp only [DS,Nat.reduceAdd, *]; done) | (simp only [DZ]; omega)) only [RUN,RU,zA4,zA2,zA1,zA5,frzL,slot,lay,icyL,zA6,zA0,kR,reduceIte,Nat.reduceEqDiff,Nat.reduceBEq,Nat.reduceLT,Nat.reduceAdd,Nat.reduceLeDiff,Nat.reduceSub,Nat.reduceMul,Int.reduceLT,Int.reduceLE,Int.reduceEq,Int.reduceAdd,Int.reduceSub,Int.reduceMul,a1,a2,a3,a4,a5,a6]
 refine zDS (st:=10) (n:=2) (cap:=some 2) (id:=0) (us:=[]) (vs:=[]) (by omega) (by simp (maxSteps:=2000000) (disch:=first | omega | assumption | (simp only [DS,Nat.reduceAdd, *]; done) | (simp only [DZ]; omega)) only [RUN,RU,zA4,zA2,zA1,zA5,frzL,slot,lay,icyL,zA6,zA0,kR,reduceIte,Nat.reduceEqDiff,Nat.reduceBEq,Nat.reduceLT,Nat.reduceAdd,Nat.reduceLeDiff,Nat.reduceSub,Nat.reduceMul,Int.reduceLT,Int.reduceLE,Int.reduceEq,Int.reduceAdd,Int.reduceSub,Int.reduceMul]; rfl) rfl (fzl _ rfl) (by simp (maxSteps:=2000000) (disch:=first | omega | assumption | (simp only [DS,Nat.reduceAdd, *]; done) | (simp only [DZ]; omega)) only [RUN,RU,zA4,zA2,zA1,zA5,frzL,slot,lay,icyL,zA6,zA0,kR,reduceIte,Nat.reduceEqDiff,Nat.reduceBEq,Nat.reduceLT,Nat.reduceAdd,Nat.reduceLeDiff,Nat.reduceSub,Nat.reduceMul,Int.reduceLT,Int.reduceLE,Int.reduceEq,Int.reduceAdd,Int.reduceSub,Int.reduceMul]) tf12 rfl (fun _=>rfl) (fun _=>rfl) zZI fun M1 w1 s1 k1=>?_
 have z1 : M1.size = 1:=s1
 simp (maxSteps:=2000000) (disch:=first | omega | assumption | (simp only [DS,Nat.reduceAdd, *]; done) | (simp only [DZ]; omega)) only [RUN,RU,zA4,zA2,zA1,zA5,frzL,slot,lay,icyL,zA6,zA0,kR,reduceIte,Nat.reduceEqDiff,Nat.reduceBEq,Nat.reduceLT,Nat.reduceAdd,Nat.reduceLeDiff,Nat.reduceSub,Nat.reduceMul,Int.reduceLT,Int.reduceLE,Int.reduceEq,Int.reduceAdd,Int.reduceSub,Int.reduceMul,a1,a2,a3,a4,a5,a6,w1,z1]
 refine zDS (st:=10) (n:=4) (cap:=some 4) (id:=1) (us:=[]) (vs:=[]) (by omega) (by simp (maxSteps:=2000000) (disch:=first | omega | assumption | (simp only [DS,Nat.reduceAdd, *]; done) | (simp only [DZ]; omega)) only [RUN,RU,zA4,zA2,zA1,zA5,frzL,slot,lay,icyL,zA6,zA0,kR,reduceIte,Nat.reduceEqDiff,Nat.reduceBEq,Nat.reduceLT,Nat.reduceAdd,Nat.reduceLeDiff,Nat.reduceSub,Nat.reduceMul,Int.reduceLT,Int.reduceLE,Int.reduceEq,Int.reduceAdd,Int.reduceSub,Int.reduceMul,w1,z1]; rfl) rfl (fzl _ rfl) (by simp (maxSteps:=2000000) (disch:=first | omega | assumption | (simp only [DS,Nat.reduceAdd, *]; done) | (simp only [DZ]; omega)) only [RUN,RU,zA4,zA2,zA1,zA5,frzL,slot,lay,icyL,zA6,zA0,kR,reduceIte,Nat.reduceEqDiff,Nat.reduceBEq,Nat.reduceLT,Nat.reduceAdd,Nat.reduceLeDiff,Nat.reduceSub,Nat.reduceMul,Int.reduceLT,Int.reduceLE,Int.reduceEq,Int.reduceAdd,Int.reduceSub,Int.reduceMul,w1]) tf12 rfl (fun _=>rfl) (fun _=>rfl) zZJ fun M2 w2 s2 k2=>?_
 have z2 : M2.size = 2:=by rw [s2,zAD,z1]
 simp (maxSteps:=2000000) (disch:=first | omega | assumption | (simp only [DS,Nat.reduceAdd, *]; done) | (simp only [DZ]; omega)) only [RUN,RU,zA4,zA2,zA1,zA5,frzL,slot,lay,icyL,zA6,zA0,kR,reduceIte,Nat.reduceEqDiff,Nat.reduceBEq,Nat.reduceLT,Nat.reduceAdd,Nat.reduceLeDiff,Nat.reduceSub,Nat.reduceMul,Int.reduceLT,Int.reduceLE,Int.reduceEq,Int.reduceAdd,Int.reduceSub,Int.reduceMul,a1,a2,a3,a4,a5,a6,w2,z2]
 refine zDS (st:=10) (n:=2) (cap:=some 2) (id:=2) (us:=[]) (vs:=[]) (by omega) (by simp (maxSteps:=2000000) (disch:=first | omega | assumption | (simp only [DS,Nat.reduceAdd, *]; done) | (simp only [DZ]; omega)) only [RUN,RU,zA4,zA2,zA1,zA5,frzL,slot,lay,icyL,zA6,zA0,kR,reduceIte,Nat.reduceEqDiff,Nat.reduceBEq,Nat.reduceLT,Nat.reduceAdd,Nat.reduceLeDiff,Nat.reduceSub,Nat.reduceMul,Int.reduceLT,Int.reduceLE,Int.reduceEq,Int.reduceAdd,Int.reduceSub,Int.reduceMul,w2,z2]; rfl) rfl (fzl _ rfl) (by simp (maxSteps:=2000000) (disch:=first | omega | assumption | (simp only [DS,Nat.reduceAdd, *]; done) | (simp only [DZ]; omega)) only [RUN,RU,zA4,zA2,zA1,zA5,frzL,slot,lay,icyL,zA6,zA0,kR,reduceIte,Nat.reduceEqDiff,Nat.reduceBEq,Nat.reduceLT,Nat.reduceAdd,Nat.reduceLeDiff,Nat.reduceSub,Nat.reduceMul,Int.reduceLT,Int.reduceLE,Int.reduceEq,Int.reduceAdd,Int.reduceSub,Int.reduceMul,w2]) tf12 rfl (fun _=>rfl) (fun _=>rfl) zZK fun M3 w3 s3 k3=>?_
 have z3 : M3.size = 3:=by rw [s3,zAD,z2]
 simp (maxSteps:=2000000) (disch:=first | omega | assumption | (simp only [DS,Nat.reduceAdd, *]; done) | (simp only [DZ]; omega)) only [RUN,RU,zA4,zA2,zA1,zA5,frzL,slot,lay,icyL,zA6,zA0,kR,reduceIte,Nat.reduceEqDiff,Nat.reduceBEq,Nat.reduceLT,Nat.reduceAdd,Nat.reduceLeDiff,Nat.reduceSub,Nat.reduceMul,Int.reduceLT,Int.reduceLE,Int.reduceEq,Int.reduceAdd,Int.reduceSub,Int.reduceMul,w3,z3,oa,ob,oc,ra,rb,rc]
 have ia : ∀ M,icy 12 M vTa = some (vTa,M):=fun _=>rfl
 have ib : ∀ M,icy 12 M vTb = some (vTb,M):=fun _=>rfl
 have ic' : ∀ M,icy 12 M vTc = some (vTc,M):=fun _=>rfl
 have it : ∀ M,icy 12 M (BL true) = some (BL true,M):=fun _=>rfl
 have la : ∀ M,lenO M vTa = some (I64 3,M):=fun _=>rfl
 have lc : ∀ M,lenO M vTc = some (I64 1,M):=fun _=>rfl
 have e3 : decide ((3 : Int) = 3) = true:=rfl
 have e1 : decide ((1 : Int) = 1) = true:=rfl
 refine zDS (st:=1) (n:=4) (cap:=some 4) (id:=3) (us:=[vTa,BL true]) (vs:=[]) (by omega) (by simp (maxSteps:=2000000) (disch:=first | omega | assumption | (simp only [DS,Nat.reduceAdd, *]; done) | (simp only [DZ]; omega)) only [RUN,RU,zA4,zA2,zA1,zA5,frzL,slot,lay,icyL,zA6,zA0,kR,reduceIte,Nat.reduceEqDiff,Nat.reduceBEq,Nat.reduceLT,Nat.reduceAdd,Nat.reduceLeDiff,Nat.reduceSub,Nat.reduceMul,Int.reduceLT,Int.reduceLE,Int.reduceEq,Int.reduceAdd,Int.reduceSub,Int.reduceMul,w3,z3]) rfl (fzl _ rfl) (by simp (maxSteps:=2000000) (disch:=first | omega | assumption | (simp only [DS,Nat.reduceAdd, *]; done) | (simp only [DZ]; omega)) only [RUN,RU,zA4,zA2,zA1,zA5,frzL,slot,lay,icyL,zA6,zA0,kR,reduceIte,Nat.reduceEqDiff,Nat.reduceBEq,Nat.reduceLT,Nat.reduceAdd,Nat.reduceLeDiff,Nat.reduceSub,Nat.reduceMul,Int.reduceLT,Int.reduceLE,Int.reduceEq,Int.reduceAdd,Int.reduceSub,Int.reduceMul,w3]) tf14 rfl (fun M=>by simp only [icyL,ia,it]) (fun _=>rfl) are_a fun M4 w4 s4 k4=>?_
 have z4 : M4.size = 4:=by rw [s4,zAD,z3]
 simp (maxSteps:=2000000) (disch:=first | omega | assumption | (simp only [DS,Nat.reduceAdd, *]; done) | (simp only [DZ]; omega)) only [RUN,RU,zA4,zA2,zA1,zA5,frzL,slot,lay,icyL,zA6,zA0,kR,reduceIte,Nat.reduceEqDiff,Nat.reduceBEq,Nat.reduceLT,Nat.reduceAdd,Nat.reduceLeDiff,Nat.reduceSub,Nat.reduceMul,Int.reduceLT,Int.reduceLE,Int.reduceEq,Int.reduceAdd,Int.reduceSub,Int.reduceMul,w4,z4,oa,ob,oc,ra,rb,rc,la,e3]
 refine zDS (st:=1) (n:=7) (cap:=some 7) (id:=4) (us:=[vTb,BL true]) (vs:=[]) (by omega) (by simp (maxSteps:=2000000) (disch:=first | omega | assumption | (simp only [DS,Nat.reduceAdd, *]; done) | (simp only [DZ]; omega)) only [RUN,RU,zA4,zA2,zA1,zA5,frzL,slot,lay,icyL,zA6,zA0,kR,reduceIte,Nat.reduceEqDiff,Nat.reduceBEq,Nat.reduceLT,Nat.reduceAdd,Nat.reduceLeDiff,Nat.reduceSub,Nat.reduceMul,Int.reduceLT,Int.reduceLE,Int.reduceEq,Int.reduceAdd,Int.reduceSub,Int.reduceMul,w4,z4]) rfl (fzl _ rfl) (by simp (maxSteps:=2000000) (disch:=first | omega | assumption | (simp only [DS,Nat.reduceAdd, *]; done) | (simp only [DZ]; omega)) only [RUN,RU,zA4,zA2,zA1,zA5,frzL,slot,lay,icyL,zA6,zA0,kR,reduceIte,Nat.reduceEqDiff,Nat.reduceBEq,Nat.reduceLT,Nat.reduceAdd,Nat.reduceLeDiff,Nat.reduceSub,Nat.reduceMul,Int.reduceLT,Int.reduceLE,Int.reduceEq,Int.reduceAdd,Int.reduceSub,Int.reduceMul,w4]) tf14 rfl (fun M=>by simp only [icyL,ib,it]) (fun _=>rfl) are_b fun M5 w5 s5 k5=>?_
 have z5 : M5.size = 5:=by rw [s5,zAD,z4]
 simp (maxSteps:=2000000) (disch:=first | omega | assumption | (simp only [DS,Nat.reduceAdd, *]; done) | (simp only [DZ]; omega)) only [RUN,RU,zA4,zA2,zA1,zA5,frzL,slot,lay,icyL,zA6,zA0,kR,reduceIte,Nat.reduceEqDiff,Nat.reduceBEq,Nat.reduceLT,Nat.reduceAdd,Nat.reduceLeDiff,Nat.reduceSub,Nat.reduceMul,Int.reduceLT,Int.reduceLE,Int.reduceEq,Int.reduceAdd,Int.reduceSub,Int.reduceMul,w5,z5,oa,ob,oc,ra,rb,rc]
 refine zDS (st:=1) (n:=3) (cap:=some 3) (id:=5) (us:=[vTc,BL true]) (vs:=[]) (by omega) (by simp (maxSteps:=2000000) (disch:=first | omega | assumption | (simp only [DS,Nat.reduceAdd, *]; done) | (simp only [DZ]; omega)) only [RUN,RU,zA4,zA2,zA1,zA5,frzL,slot,lay,icyL,zA6,zA0,kR,reduceIte,Nat.reduceEqDiff,Nat.reduceBEq,Nat.reduceLT,Nat.reduceAdd,Nat.reduceLeDiff,Nat.reduceSub,Nat.reduceMul,Int.reduceLT,Int.reduceLE,Int.reduceEq,Int.reduceAdd,Int.reduceSub,Int.reduceMul,w5,z5]) rfl (fzl _ rfl) (by simp (maxSteps:=2000000) (disch:=first | omega | assumption | (simp only [DS,Nat.reduceAdd, *]; done) | (simp only [DZ]; omega)) only [RUN,RU,zA4,zA2,zA1,zA5,frzL,slot,lay,icyL,zA6,zA0,kR,reduceIte,Nat.reduceEqDiff,Nat.reduceBEq,Nat.reduceLT,Nat.reduceAdd,Nat.reduceLeDiff,Nat.reduceSub,Nat.reduceMul,Int.reduceLT,Int.reduceLE,Int.reduceEq,Int.reduceAdd,Int.reduceSub,Int.reduceMul,w5]) tf14 rfl (fun M=>by simp only [icyL,ic',it]) (fun _=>rfl) are_c fun M6 w6 s6 k6=>?_
 simp (maxSteps:=2000000) (disch:=first | omega | assumption | (simp only [DS,Nat.reduceAdd, *]; done) | (simp only [DZ]; omega)) only [RUN,RU,zA4,zA2,zA1,zA5,frzL,slot,lay,icyL,zA6,zA0,kR,reduceIte,Nat.reduceEqDiff,Nat.reduceBEq,Nat.reduceLT,Nat.reduceAdd,Nat.reduceLeDiff,Nat.reduceSub,Nat.reduceMul,Int.reduceLT,Int.reduceLE,Int.reduceEq,Int.reduceAdd,Int.reduceSub,Int.reduceMul,w6,oa,ob,oc,ra,rb,rc,lc,e1]
end Go.Proofs.Ytakaojjlfcmphaa
namespace Go.Proofs.Ytakaojjlfcmphaa
open Go Go.Ax
variable {fuel : Nat} {M : Mem} {Q : AV → Mem → Prop} {d : Nat} {l : List Rn} {a : AV}
def wR (r : Rn) : Int:=imax (r.rs.length : Int) (imin (imax r.sp.n 0) 100)
def sumX : List Rn → Int → Int
 | [],n=>n
 | r :: l,n=>sumX l (IntKind.i64.wrap (n + wR r))
theorem zRM (l : List Rn) (r : Rn) (n : Int) : sumX (l ++ [r]) n = IntKind.i64.wrap (sumX l n + wR r):=by
 induction l generalizing n with
 | nil=>rfl
 | cons q l ih=>simp only [List.cons_append,sumX,ih]
def zK1 (l : List Rn) : Bool:=decide ((60 : Int) < l.length) || decide (250 < sumX (l.take 100) 0)
theorem zK2 {l : List Rn} (h : zK1 l = false) : l.length ≤ 60:=by
 unfold zK1 at h
 simp only [Bool.or_eq_false_iff,decide_eq_false_iff_not] at h
 omega
theorem zON {α : Type} (l : List α) (i : Nat) (h : i < l.length) : l.take (i + 1) = l.take i ++ [l[i]]:=by
 rw [List.take_add_one,List.getElem?_eq_getElem h]; rfl
set_option maxHeartbeats 4000000 in
theorem zO8 (hS : Sl 10 isRn a l) (hf : 400 < fuel) (M : Mem) : zAF Try.prog (fsT tbl) fuel (d + 1) (.fn 5) [a] M = some (BL (zK1 l),M):=by
 have ll:=hS.len
 apply zC1
 refine zAX tf5 rfl (by simp only [icyL,fun M=>hS.icy M 12 (by omega)]) (by simp [a5]) fun b' ht hx=>?_
 have h0:=hx 0 _ rfl
 clear hx
 simp only [a5,c5,zzm,zzg] at ht ⊢
 unfold zK1
 simp (maxSteps:=2000000) (disch:=first | omega | assumption | (simp only [DS,Nat.reduceAdd, *]; done) | (simp only [DZ]; omega)) only [RUN,RU,zA4,zA2,zA1,zA5,frzL,slot,lay,icyL,zA6,zA0,kR,reduceIte,Nat.reduceEqDiff,Nat.reduceBEq,Nat.reduceLT,Nat.reduceAdd,Nat.reduceLeDiff,Nat.reduceSub,Nat.reduceMul,Int.reduceLT,Int.reduceLE,Int.reduceEq,Int.reduceAdd,Int.reduceSub,Int.reduceMul,h0,ll,hS.fz.rows,hS.fz.one,hS.fz.cells,hS.fz.icy,hS.fz.frz]
 refine zCH (I:=fun n t N => ∃ (i : Nat),n = 100 - i ∧ i ≤ 100 ∧ nth zAC t 0 = a ∧ nth zAC t 3 = I64 (sumX (l.take i) 0) ∧ nth zAC t 4 = I64 i ∧ N = mem0 ∧ i ≤ l.length) (n:=100) (by omega) ?_ ?_
 ·refine ⟨0,rfl,Nat.zero_le _, ?_, ?_, ?_,rfl,Nat.zero_le _⟩ <;> simp (maxSteps:=2000000) (disch:=first | omega | assumption | (simp only [DS,Nat.reduceAdd, *]; done) | (simp only [DZ]; omega)) only [RUN,RU,zA4,zA2,zA1,zA5,frzL,slot,lay,icyL,zA6,zA0,kR,reduceIte,Nat.reduceEqDiff,Nat.reduceBEq,Nat.reduceLT,Nat.reduceAdd,Nat.reduceLeDiff,Nat.reduceSub,Nat.reduceMul,Int.reduceLT,Int.reduceLE,Int.reduceEq,Int.reduceAdd,Int.reduceSub,Int.reduceMul,h0,sumX]
  all_goals first | rfl | assumption | done
 ·rintro n t N hlt ⟨i,rfl,hi,g0,g3,g4,hm,hil⟩
  simp only [ht] at hlt ⊢
  subst hm
  by_cases hc : i < l.length
  ·have q1 : decide ((i : Int) < l.length) = true:=decide_eq_true (by omega)
   by_cases hc3 : i < 100
   ·have q2 : decide ((i : Int) < 100) = true:=decide_eq_true (by omega)
    have w1 : IntKind.i64.wrap ((i : Int) + 1) = ((i + 1 : Nat) : Int):=by rw [wrap_i64] <;> omega
    obtain ⟨r,hiad,hr,hrl⟩:=hS.iad i hc
    have hsn:=zRM (l.take i) l[i] 0
    rw [← zON l i hc] at hsn
    generalize l[i] = e at *
    obtain ⟨ra,rfl,hra,hok⟩:=hr
    have lra:=hra.len
    have w2 : IntKind.i64.wrap (sumX (l.take i) 0 + wR e) = sumX (l.take (i + 1)) 0:=hsn.symm
    simp (maxSteps:=2000000) (disch:=first | omega | assumption | (simp only [DS,Nat.reduceAdd, *]; done) | (simp only [DZ]; omega)) only [RUN,RU,zA4,zA2,zA1,zA5,frzL,slot,lay,icyL,zA6,zA0,kR,reduceIte,Nat.reduceEqDiff,Nat.reduceBEq,Nat.reduceLT,Nat.reduceAdd,Nat.reduceLeDiff,Nat.reduceSub,Nat.reduceMul,Int.reduceLT,Int.reduceLE,Int.reduceEq,Int.reduceAdd,Int.reduceSub,Int.reduceMul,g0,g3,g4,ll,hS.fz.rows,hS.fz.one,hS.fz.cells,hS.fz.icy,hS.fz.frz,q1,q2,w1,hiad,hra.fz.rows,hra.fz.one,hra.fz.cells,hra.fz.icy,hra.fz.frz,lra,zDH,zDJ,zDI,BMM,zAT]
    refine ⟨hlt,100 - (i + 1),by omega,i + 1,rfl,by omega, ?_,rfl,by omega⟩
    show AV.sc (.int .i64 (IntKind.i64.wrap (sumX (l.take i) 0 + wR e))) = I64 _
    rw [w2]
   ·have q2 : decide ((i : Int) < 100) = false:=decide_eq_false (by omega)
    obtain rfl : i = 100:=by omega
    cases q3 : decide ((60 : Int) < (l.length : Int))
    all_goals simp (maxSteps:=2000000) (disch:=first | omega | assumption | (simp only [DS,Nat.reduceAdd, *]; done) | (simp only [DZ]; omega)) only [RUN,RU,zA4,zA2,zA1,zA5,frzL,slot,lay,icyL,zA6,zA0,kR,reduceIte,Nat.reduceEqDiff,Nat.reduceBEq,Nat.reduceLT,Nat.reduceAdd,Nat.reduceLeDiff,Nat.reduceSub,Nat.reduceMul,Int.reduceLT,Int.reduceLE,Int.reduceEq,Int.reduceAdd,Int.reduceSub,Int.reduceMul,g0,g3,g4,ll,hS.fz.rows,hS.fz.one,hS.fz.cells,hS.fz.icy,hS.fz.frz,q1,q2,q3,Bool.false_or,Bool.true_or]
  ·have q1 : decide ((i : Int) < l.length) = false:=decide_eq_false (by omega)
   obtain rfl : i = l.length:=by omega
   have et : l.take 100 = l.take l.length:=by rw [List.take_of_length_le (Nat.le_refl _),List.take_of_length_le (by omega)]
   rw [et]
   cases q3 : decide ((60 : Int) < (l.length : Int))
   all_goals simp (maxSteps:=2000000) (disch:=first | omega | assumption | (simp only [DS,Nat.reduceAdd, *]; done) | (simp only [DZ]; omega)) only [RUN,RU,zA4,zA2,zA1,zA5,frzL,slot,lay,icyL,zA6,zA0,kR,reduceIte,Nat.reduceEqDiff,Nat.reduceBEq,Nat.reduceLT,Nat.reduceAdd,Nat.reduceLeDiff,Nat.reduceSub,Nat.reduceMul,Int.reduceLT,Int.reduceLE,Int.reduceEq,Int.reduceAdd,Int.reduceSub,Int.reduceMul,g0,g3,g4,ll,hS.fz.rows,hS.fz.one,hS.fz.cells,hS.fz.icy,hS.fz.frz,q1,q3,Bool.false_or,Bool.true_or]
end Go.Proofs.Ytakaojjlfcmphaa
namespace Go.Proofs.Ytakaojjlfcmphaa
open Go Go.Ax
variable {fuel : Nat} {M : Mem} {Q : AV → Mem → Prop} {d : Nat} {v : Lb}
def zDA (v : Lb) (r : Rn) : Bool:=!r.sp.f.hd.lb.leq v
theorem zOU {e : Rn} {ra : AV} {c : Nat} (hR : Sl 1 zBU ra e.rs) (wf : Wf M) (hc : M.get c = some (.row false (lbR v))) (k : ∀ N,Kept M N → Q (BL (zDA v e)) N) : W3 (zAF Try.prog (fsT tbl) fuel (d + 2) (.fn 18) [.agg (rnR e ra),.ptr c 0] M) Q:=by
 have ora:=hR.one
 have hle:=fun M=>@zJ5 fuel d e.sp.f.hd.lb v M
 have lc:=Mem.get_lt hc
 have kk:=(Kept.refl wf).add (.row false (rnR e ra))
 unfold zDA at k
 refine zCS tf18 rfl (by simp [a18]) fun b' ht hx=>?_
 have h0:=hx 0 _ rfl
 have h1:=hx 1 _ rfl
 clear hx
 simp only [a18,c18,zzm] at ht ⊢
 simp (maxSteps:=2000000) (disch:=first | omega | assumption | (simp only [DS,Nat.reduceAdd, *]; done) | (simp only [DZ]; omega)) only [RUN,RU,zA4,zA2,zA1,zA5,frzL,slot,lay,icyL,zA6,zA0,kR,reduceIte,Nat.reduceEqDiff,Nat.reduceBEq,Nat.reduceLT,Nat.reduceAdd,Nat.reduceLeDiff,Nat.reduceSub,Nat.reduceMul,Int.reduceLT,Int.reduceLE,Int.reduceEq,Int.reduceAdd,Int.reduceSub,Int.reduceMul,h0,h1,hR.fz.rows,hR.fz.one,hR.fz.cells,hR.fz.icy,hR.fz.frz,hle,hc,wf]
 exact k _ kk
def zRow : List AV:=rnR ⟨⟨Eid.z,0⟩,Eid.z,[]⟩ NIL
theorem zG6 (n : Nat) : (zA0 zRn n).length = n * 10:=zJF _ n
theorem zOI (n : Nat) : (zA0 zRn n).all oneA = true:=zM4 rfl n
theorem zR6 (n : Nat) : ∀ y ∈ zA0 zRn n,∃ v,y = .sc v:=by
 induction n with
 | zero=>exact fun y h=>absurd h (by simp [zA0])
 | succ n ih =>
  intro y hy
  rw [zA0] at hy
  rcases List.mem_append.1 hy with hy | hy
  ·simp only [scs,List.mem_map] at hy
   obtain ⟨w,_,rfl⟩:=hy
   exact ⟨_,rfl⟩
  ·exact ih y hy
set_option maxHeartbeats 16000000 in
theorem zNX {o : AV} {l : List Rn} {c : Nat} (hS : SlN M 10 isRn o l) (hl : l.length ≤ 1000) (hf : 3000 < fuel) (wf : Wf M) (hc : M.get c = some (.row false (lbR v))) (hic : rowOf o ≠ some c)
  (kk : ∀ o' N,SlZ N 10 isRn o' (l.filter fun r=>r.sp.f.hd.lb.leq v) → Wf N → M.size ≤ N.size → (∀ j,j < M.size → rowOf o ≠ some j → N.get j = M.get j) → (∀ j,rowOf o' = some j → rowOf o = some j) → Q o' N) : W3 (zAF Try.prog (fsT tbl) fuel (d + 4) (.fn 20) [o,.fn 18 [] [.ptr c 0]] M) Q:=by
 have sm:=hS.slm
 have oo:=sm.one
 have oc:=sm.cells
 have lc:=Mem.get_lt hc
 have hlen:=sm.len
 have rlo : ∀ {m : Nat},M.size ≤ m → ((rowsOf o).all fun i=>Nat.blt i m) = true:=fun h=>zBB sm.rl h
 have hfilt : ∀ L : List Rn,(∀ r ∈ L,zDA v r = false) → (L.filter fun r=>r.sp.f.hd.lb.leq v) = L:=fun L h=>List.filter_eq_self.2 fun r hr=>by
  have:=h r hr
  unfold zDA at this
  simpa using this
 refine zCS tf20 rfl (by simp [a20]) fun b' ht hx=>?_
 have h0:=hx 0 _ rfl
 have h1:=hx 1 _ rfl
 clear hx
 simp only [a20,c20,zz0,zzm] at ht ⊢
 simp (maxSteps:=2000000) (disch:=first | omega | assumption | (simp only [DS,Nat.reduceAdd, *]; done) | (simp only [DZ]; omega)) only [RUN,RU,zA4,zA2,zA1,zA5,frzL,slot,lay,icyL,zA6,zA0,kR,reduceIte,Nat.reduceEqDiff,Nat.reduceBEq,Nat.reduceLT,Nat.reduceAdd,Nat.reduceLeDiff,Nat.reduceSub,Nat.reduceMul,Int.reduceLT,Int.reduceLE,Int.reduceEq,Int.reduceAdd,Int.reduceSub,Int.reduceMul,h0,h1,oo,oc,rlo]
 refine zWS (n:=d + 2) (p:=zDA v) tf37 sm (by omega) (by omega) wf (fun N hN=>rfl) (fun r x hr _=>by
  obtain ⟨ra,rfl,hra,_⟩:=hr
  exact zXN hra.fz) (fun r x hr _ N Q' hk kq=>by
  obtain ⟨ra,rfl,hra,_⟩:=hr
  exact zOU (d:=d) hra hk.wf ((hk.get c lc).trans hc) fun N' h'=>kq N' (hk.trans h')) fun N0 hk0=>?_
 have w0:=hk0.wf
 have le0:=hk0.le
 by_cases hall : ∀ j (hj : j < l.length),zDA v l[j] = false
 ·rw [zJD hall]
  have qm : decide ((-1 : Int) = -1) = true:=rfl
  simp (maxSteps:=2000000) (disch:=first | omega | assumption | (simp only [DS,Nat.reduceAdd, *]; done) | (simp only [DZ]; omega)) only [RUN,RU,zA4,zA2,zA1,zA5,frzL,slot,lay,icyL,zA6,zA0,kR,reduceIte,Nat.reduceEqDiff,Nat.reduceBEq,Nat.reduceLT,Nat.reduceAdd,Nat.reduceLeDiff,Nat.reduceSub,Nat.reduceMul,Int.reduceLT,Int.reduceLE,Int.reduceEq,Int.reduceAdd,Int.reduceSub,Int.reduceMul,h0,h1,qm,oo,oc]
  refine kk o N0 ?_ w0 le0 (fun j hj _=>hk0.get j hj) (fun j h=>h)
  rw [hfilt l fun r hr=>by obtain ⟨j,hj,rfl⟩:=List.getElem_of_mem hr; exact hall j hj]
  exact sm.slz.keep fun j hj=>hk0.get j (sm.lt j hj)
 ·have hex : ∃ i0,∃ h : i0 < l.length,zDA v l[i0] = true ∧ ∀ j (hj : j < l.length),j < i0 → zDA v l[j] = false:=by
   have h1 : ∃ r ∈ l,zDA v r = true:=Classical.byContradiction fun h=>hall fun j hj=>by
    cases hb : zDA v l[j] with
    | false=>rfl
    | true=>exact absurd ⟨_,List.getElem_mem hj,hb⟩ h
   obtain ⟨r,hr,hb⟩:=h1
   have hlt : l.findIdx (zDA v) < l.length:=List.findIdx_lt_length_of_exists ⟨r,hr,hb⟩
   exact ⟨l.findIdx (zDA v),hlt,List.findIdx_getElem,fun j hj h=>by
    have:=List.not_of_lt_findIdx h
    simpa using this⟩
  obtain ⟨i0,hi0,hat,hfirst⟩:=hex
  rcases hS with ⟨rfl,_⟩ | ⟨_,id,rows,rfl,hg,hA,hr⟩
  ·exact absurd hi0 (by simp)
  have hlr:=hA.length_eq
  have lid:=Mem.get_lt hg
  have hicc : id ≠ c:=fun e=>hic (by rw [e]; rfl)
  have hft : (l.take (i0 + 1)).filter (fun r=>r.sp.f.hd.lb.leq v) = l.take i0:=by
   rw [zBJ _ _ hi0,List.filter_append,hfilt (l.take i0) fun r hr'=>by
    obtain ⟨j,hj,rfl⟩:=List.getElem_of_mem hr'
    rw [List.length_take] at hj
    rw [List.getElem_take]
    exact hfirst j (by omega) (by omega)]
   unfold zDA at hat
   simp only [Bool.not_eq_true'] at hat
   rw [List.filter_cons_of_neg (by rw [hat]; simp)]
   simp
  rw [zJC hi0 hat fun j hj=>hfirst j (by omega) hj]
  have qm : decide ((i0 : Int) = -1) = false:=decide_eq_false (by omega)
  have w1 : IntKind.i64.wrap ((i0 : Int) + 1) = ((i0 + 1 : Nat) : Int):=by rw [wrap_i64] <;> omega
  simp (maxSteps:=2000000) (disch:=first | omega | assumption | (simp only [DS,Nat.reduceAdd, *]; done) | (simp only [DZ]; omega)) only [RUN,RU,zA4,zA2,zA1,zA5,frzL,slot,lay,icyL,zA6,zA0,kR,reduceIte,Nat.reduceEqDiff,Nat.reduceBEq,Nat.reduceLT,Nat.reduceAdd,Nat.reduceLeDiff,Nat.reduceSub,Nat.reduceMul,Int.reduceLT,Int.reduceLE,Int.reduceEq,Int.reduceAdd,Int.reduceSub,Int.reduceMul,h0,h1,qm,w1]
  refine zCH (I:=fun m t N => ∃ (i j : Nat) (rs : List (List AV)),i < j ∧ j ≤ l.length ∧ m = l.length - j ∧ rs.length = rows.length ∧ (∀ r ∈ rs,r.length = 10) ∧ All2 isRn (rs.take i) ((l.take j).filter fun r=>r.sp.f.hd.lb.leq v) ∧ rs.drop j = rows.drop j ∧ Wf N ∧ M.size ≤ N.size ∧ (∀ q,q < M.size → q ≠ id → N.get q = M.get q) ∧ N.get id = some (.row false rs.flatten) ∧
   nth zAC t 0 = .sl id 0 rows.length none 10 ∧ nth zAC t 1 = .fn 18 [] [.ptr c 0] ∧ nth zAC t 5 = I64 i ∧ nth zAC t 6 = I64 j) (n:=l.length - (i0 + 1)) (by omega) ?_ ?_
  ·refine ⟨i0,i0 + 1,rows,by omega,by omega,rfl,rfl,hr,by rw [hft]; exact zE8 i0 hA,rfl,w0,le0,fun q hq _=>hk0.get q hq,by rw [hk0.get id lid]; exact hg, ?_, ?_, ?_, ?_⟩
   all_goals simp (maxSteps:=2000000) (disch:=first | omega | assumption | (simp only [DS,Nat.reduceAdd, *]; done) | (simp only [DZ]; omega)) only [RUN,RU,zA4,zA2,zA1,zA5,frzL,slot,lay,icyL,zA6,zA0,kR,reduceIte,Nat.reduceEqDiff,Nat.reduceBEq,Nat.reduceLT,Nat.reduceAdd,Nat.reduceLeDiff,Nat.reduceSub,Nat.reduceMul,Int.reduceLT,Int.reduceLE,Int.reduceEq,Int.reduceAdd,Int.reduceSub,Int.reduceMul,h0,h1]
   all_goals rfl
  ·rintro m t N hl' ⟨i,j,rs,hij,hj,hm,hrl,hr2,hAi,hdr,wN,leN,kN,gN,t0,t1,t5,t6⟩
   simp only [ht] at hl' ⊢
   clear h0 h1 ht
   have lidN:=Mem.get_lt gN
   have hfl:=zAR hr2
   by_cases hlt : j < l.length
   ·have hc' : decide ((j : Int) < rows.length) = true:=decide_eq_true (by omega)
    have v1 : IntKind.i64.wrap ((j : Int) + 1) = ((j + 1 : Nat) : Int):=by rw [wrap_i64] <;> omega
    have v2 : IntKind.i64.wrap ((i : Int) + 1) = ((i + 1 : Nat) : Int):=by rw [wrap_i64] <;> omega
    have htk:=zBJ l j hlt
    obtain ⟨rr,hrj,hrx⟩ : ∃ rr,rows[j]? = some rr ∧ isRn rr l[j]:=⟨_,List.getElem?_eq_getElem (by omega),hA.get (by omega) hlt⟩
    generalize l[j] = x at *
    obtain ⟨ab,rfl,hab,hok⟩:=hrx
    have oab:=hab.one
    have hrsj : rs[j]? = some (rnR x ab):=by
     have h1 : (rs.drop j)[0]? = (rows.drop j)[0]? := by rw [hdr]
     rw [List.getElem?_drop,List.getElem?_drop,Nat.add_zero,hrj] at h1
     exact h1
    have hld : ld2 N 10 (j * 10) true (some (.row false rs.flatten)) = some (.agg (rnR x ab),N):=by
     rw [zQD,zLV _ _ _ (by rw [hfl]; omega),zFA hr2 j _ hrsj]
    have hdr2 : rs.drop (j + 1) = rows.drop (j + 1):=by
     have:=congrArg (List.drop 1) hdr
     rw [List.drop_drop,List.drop_drop] at this
     exact this
    simp (maxSteps:=2000000) (disch:=first | omega | assumption | (simp only [DS,Nat.reduceAdd, *]; done) | (simp only [DZ]; omega)) only [RUN,RU,zA4,zA2,zA1,zA5,frzL,slot,lay,icyL,zA6,zA0,kR,reduceIte,Nat.reduceEqDiff,Nat.reduceBEq,Nat.reduceLT,Nat.reduceAdd,Nat.reduceLeDiff,Nat.reduceSub,Nat.reduceMul,Int.reduceLT,Int.reduceLE,Int.reduceEq,Int.reduceAdd,Int.reduceSub,Int.reduceMul,t0,t1,t5,t6,hc',gN,hld,hab.fz.rows,hab.fz.one,hab.fz.cells,hab.fz.icy,hab.fz.frz,wN]
    have wX : Wf ((N.add (.row false zRow)).upd N.size (.row false (rnR x ab))):=(wN.add _).upd _ _
    have gX : ((N.add (.row false zRow)).upd N.size (.row false (rnR x ab))).get N.size = some (.row false (rnR x ab)):=zAG (wN.add _) _ _ (by rw [zAD]; omega)
    have sX : ((N.add (.row false zRow)).upd N.size (.row false (rnR x ab))).size = N.size + 1:=rfl
    have kX : ∀ j,j < N.size → ((N.add (.row false zRow)).upd N.size (.row false (rnR x ab))).get j = N.get j:=fun j hj=>by rw [zA7 (wN.add _) _ _ _ (by omega),zAP wN _ _ hj]
    show Ax.W3 (zAF Try.prog (fsT tbl) fuel (d + 3) (.fn 18) [.agg (rnR x ab),.ptr c 0] ((N.add (.row false zRow)).upd N.size (.row false (rnR x ab)))) _
    generalize ((N.add (.row false zRow)).upd N.size (.row false (rnR x ab))) = X at *
    refine zOU (d:=d + 1) hab wX ((kX c (by omega)).trans ((kN c lc (fun e=>hicc e.symm)).trans hc)) fun N' hk'=>?_
    have w':=hk'.wf
    have le':=hk'.le
    have g7:=(hk'.get N.size (by omega)).trans gX
    have gi:=(hk'.get id (by omega)).trans ((kX id lidN).trans gN)
    have kq : ∀ q,q < M.size → q ≠ id → N'.get q = M.get q:=fun q hq hqi=>(hk'.get q (by omega)).trans ((kX q (by omega)).trans (kN q hq hqi))
    have l7:=Mem.get_lt g7
    have li':=Mem.get_lt gi
    unfold zDA
    cases hb : x.sp.f.hd.lb.leq v with
    | false =>
     have hfj : (l.take (j + 1)).filter (fun r=>r.sp.f.hd.lb.leq v) = (l.take j).filter fun r=>r.sp.f.hd.lb.leq v:=by
      rw [htk,List.filter_append,List.filter_cons_of_neg (by rw [hb]; simp)]
      simp
     simp (maxSteps:=2000000) (disch:=first | omega | assumption | (simp only [DS,Nat.reduceAdd, *]; done) | (simp only [DZ]; omega)) only [RUN,RU,zA4,zA2,zA1,zA5,frzL,slot,lay,icyL,zA6,zA0,kR,reduceIte,Nat.reduceEqDiff,Nat.reduceBEq,Nat.reduceLT,Nat.reduceAdd,Nat.reduceLeDiff,Nat.reduceSub,Nat.reduceMul,Int.reduceLT,Int.reduceLE,Int.reduceEq,Int.reduceAdd,Int.reduceSub,Int.reduceMul,t0,t1,t5,t6,g7,w',v1]
     exact ⟨hl',l.length - (j + 1),by omega,i,j + 1,rs,by omega,by omega,rfl,hrl,hr2,by rw [hfj]; exact hAi,hdr2,by omega,kq,gi,rfl,rfl⟩
    | true =>
     have hfj : (l.take (j + 1)).filter (fun r=>r.sp.f.hd.lb.leq v) = ((l.take j).filter fun r=>r.sp.f.hd.lb.leq v) ++ [x]:=by
      rw [htk,List.filter_append,List.filter_cons_of_pos (by rw [hb])]
      simp
     have hst : st2 N' id (i * 10) 10 (rnR x ab) (some (.row false rs.flatten)) = some (zAC,N'.upd id (.row false (rs.set i (rnR x ab)).flatten)):=by
      obtain ⟨ri,hri⟩ : ∃ ri,rs[i]? = some ri:=⟨_,List.getElem?_eq_getElem (by omega)⟩
      have hril:=hr2 ri (List.mem_of_getElem? hri)
      have e:=zIV (off:=0) (new:=rnR x ab) hr2 hri (by simp)
      have e2 : lay ri 0 (rnR x ab) = rnR x ab:=by
       unfold lay
       rw [List.take_zero,List.nil_append,List.drop_eq_nil_of_le (by simp; omega),List.append_nil]
      rw [e2,Nat.add_zero] at e
      rw [zRL (M:=N') id (i * 10) 10 (rnR x ab) rs.flatten false rfl (by rw [hfl]; omega) (by simp only [List.all_cons,List.all_nil,zCW,oab,Bool.and_true,List.cons_append,List.nil_append]) (by omega) w',e]
     simp (maxSteps:=2000000) (disch:=first | omega | assumption | (simp only [DS,Nat.reduceAdd, *]; done) | (simp only [DZ]; omega)) only [RUN,RU,zA4,zA2,zA1,zA5,frzL,slot,lay,icyL,zA6,zA0,kR,reduceIte,Nat.reduceEqDiff,Nat.reduceBEq,Nat.reduceLT,Nat.reduceAdd,Nat.reduceLeDiff,Nat.reduceSub,Nat.reduceMul,Int.reduceLT,Int.reduceLE,Int.reduceEq,Int.reduceAdd,Int.reduceSub,Int.reduceMul,t0,t1,t5,t6,g7,gi,w',v1,v2,hab.fz.rows,hab.fz.one,hab.fz.cells,hab.fz.icy,hab.fz.frz,hst]
     refine ⟨hl',l.length - (j + 1),by omega,i + 1,j + 1,rs.set i (rnR x ab),by omega,by omega,rfl,by rw [List.length_set]; exact hrl,fun r h=>?_, ?_, ?_,by omega,fun q hq hqi=>?_,rfl,rfl,rfl⟩
     ·rcases List.mem_or_eq_of_mem_set h with h | rfl
      ·exact hr2 r h
      ·rfl
     ·have e1 : (rs.set i (rnR x ab)).take (i + 1) = rs.take i ++ [rnR x ab]:=by
       rw [List.take_add_one,List.getElem?_set_self (by omega),List.take_set,List.set_eq_of_length_le (by rw [List.length_take]; omega)]
       rfl
      rw [e1,hfj]
      exact hAi.append (.cons ⟨ab,rfl,hab,hok⟩ .nil)
     ·rw [List.drop_set_of_lt (by omega)]; exact hdr2
     ·rw [zA7 w' _ _ _ (fun e=>hqi e.symm)]; exact kq q hq hqi
   ·have hc' : decide ((j : Int) < rows.length) = false:=decide_eq_false (by omega)
    obtain rfl : j = l.length:=by omega
    rw [List.take_length] at hAi
    have hrdN : N.rd id = some rs.flatten:=zBK gN
    have hav : rs.flatten.length / 10 = rows.length:=by rw [hfl,hrl,Nat.mul_div_cancel _ (by omega)]
    have hs1 : slcO N 10 (.sl id 0 rows.length none 10) (some (I64 i)) none none = some (.sl id (i * 10) (rows.length - i) none 10,N):=by
     have hbi:=fun d=>zFU rows.length i d .i64 (show i ≤ rows.length by omega)
     unfold slcO
     simp only [Nat.beq_refl,hrdN,Nat.sub_zero,hav,zEJ,hbi,Nat.zero_add]
    have hb0 : Nat.beq (rows.length - i) 0 = false:=by
     cases h : Nat.beq (rows.length - i) 0 with
     | false=>rfl
     | true=>have:=Nat.eq_of_beq_eq_true h; omega
    have htl : (rs.take i).length = i:=by rw [List.length_take]; omega
    have hl1 : (rs.take i).flatten.length = i * 10:=by rw [zAR (st:=10) (fun r h=>hr2 r (List.mem_of_mem_take h)),htl]
    have hlay : lay rs.flatten (i * 10) (zA0 zRn (rows.length - i)) = (rs.take i).flatten ++ zA0 zRn (rows.length - i):=by
     have hft : rs.flatten = (rs.take i).flatten ++ (rs.drop i).flatten:=by rw [← List.flatten_append,List.take_append_drop]
     unfold lay
     rw [List.drop_eq_nil_of_le (by rw [hfl,zG6]; omega),List.append_nil]
     congr 1
     rw [hft,List.take_left' hl1]
    have hcl : clrO N 10 zRn (.sl id (i * 10) (rows.length - i) none 10) = some (.sc (.tuple #[]),N.upd id (.row false ((rs.take i).flatten ++ zA0 zRn (rows.length - i)))):=by
     simp only [clrO,hb0,gN,Nat.ble_eq_true_of_le (show i * 10 + (rows.length - i) * 10 ≤ rs.flatten.length by rw [hfl]; omega),zOI,zG6,Nat.beq_refl,Bool.and_self,zBE wN lidN,hlay]
    have gN2 : (N.upd id (.row false ((rs.take i).flatten ++ zA0 zRn (rows.length - i)))).get id = some (.row false ((rs.take i).flatten ++ zA0 zRn (rows.length - i))):=zAG wN _ _ lidN
    have hav2 : ((rs.take i).flatten ++ zA0 zRn (rows.length - i)).length / 10 = rows.length:=by
     rw [List.length_append,hl1,zG6,← Nat.add_mul,Nat.mul_div_cancel _ (by omega)]; omega
    have hs2 : slcO (N.upd id (.row false ((rs.take i).flatten ++ zA0 zRn (rows.length - i)))) 10 (.sl id 0 rows.length none 10) none (some (I64 i)) none = some (.sl id 0 i none 10,N.upd id (.row false ((rs.take i).flatten ++ zA0 zRn (rows.length - i)))):=by
     have hbi:=fun d=>zFU rows.length i d .i64 (show i ≤ rows.length by omega)
     unfold slcO
     simp only [Nat.beq_refl,zBK gN2,Nat.sub_zero,hav2,zEJ,hbi,Nat.zero_mul,Nat.zero_add]
    have hq:=kk (.sl id 0 i none 10) _ (.inr ⟨id,rs.take i,zA0 zRn (rows.length - i),none,by rw [htl],gN2,hAi,fun r h=>hr2 r (List.mem_of_mem_take h),zR6 _⟩) (wN.upd _ _) (by rw [zAE]; exact leN) (fun q hq hqi=>by rw [zA7 wN _ _ _ (fun e=>hqi (by rw [e]; rfl))]; exact kN q hq (fun e=>hqi (by rw [e]; rfl))) (fun j h=>by cases h; rfl)
    have hidb : id.blt N.size = true:=(zAY _ _).2 lidN
    simp (maxSteps:=2000000) (disch:=first | omega | assumption | (simp only [DS,Nat.reduceAdd, *]; done) | (simp only [DZ]; omega)) only [RUN,RU,zA4,zA2,zA1,zA5,frzL,slot,lay,icyL,zA6,zA0,kR,reduceIte,Nat.reduceEqDiff,Nat.reduceBEq,Nat.reduceLT,Nat.reduceAdd,Nat.reduceLeDiff,Nat.reduceSub,Nat.reduceMul,Int.reduceLT,Int.reduceLE,Int.reduceEq,Int.reduceAdd,Int.reduceSub,Int.reduceMul,t0,t1,t5,t6,hc',hs1,x_clr,hcl,hs2,hidb,hq]
end Go.Proofs.Ytakaojjlfcmphaa
namespace Go.Proofs.Ytakaojjlfcmphaa
open Go Go.Ax
variable {fuel : Nat} {M : Mem} {Q : AV → Mem → Prop} {d : Nat} {v : Lb}
theorem zU0 {e : Rn} {ra : AV} (hR : Sl 1 zBU ra e.rs) (M : Mem) : zAF Try.prog (fsT tbl) fuel (d + 2) (.fn 16) [.agg (rnR e ra)] M = some (BL (!e.af.hd.lb.leq e.sp.f.hd.lb),M):=by
 have ora:=hR.one
 have hle:=fun M=>@zJ5 fuel d e.af.hd.lb e.sp.f.hd.lb M
 apply zC1
 refine zAX tf16 rfl (by simp only [icyL,zC7 hR.fz]) (by simp [a16]) fun b' ht hx=>?_
 have h0:=hx 0 _ rfl
 clear hx
 simp only [a16,c16,zzm] at ht ⊢
 simp (maxSteps:=2000000) (disch:=first | omega | assumption | (simp only [DS,Nat.reduceAdd, *]; done) | (simp only [DZ]; omega)) only [RUN,RU,zA4,zA2,zA1,zA5,frzL,slot,lay,icyL,zA6,zA0,kR,reduceIte,Nat.reduceEqDiff,Nat.reduceBEq,Nat.reduceLT,Nat.reduceAdd,Nat.reduceLeDiff,Nat.reduceSub,Nat.reduceMul,Int.reduceLT,Int.reduceLE,Int.reduceEq,Int.reduceAdd,Int.reduceSub,Int.reduceMul,h0,hR.fz.rows,hR.fz.one,hR.fz.cells,hR.fz.icy,hR.fz.frz,hle]
noncomputable def upR (l : List Rn) (v : Lb) : List Rn:=if upE l v = 0 then upTo v l else []
set_option maxHeartbeats 8000000 in
theorem zEI {a : AV} {l : List Rn} (hS : Sl 10 isRn a l) (hl : l.length ≤ 1000) (hf : 64 * l.length + 3011000 < fuel) : ∃ r,Sl 10 isRn r (upR l v) ∧ ∀ M,zAF Try.prog (fsT tbl) fuel (d + 11) (.fn 6) [a,lbA v] M = some (.tup [r,I64 (upE l v)],M):=by
 have oa:=hS.one
 have hck:=fun M=>@zH2 fuel d a l hS hl (by omega) M
 have hlc:=fun M=>@zIA fuel (d + 9) v M
 refine zK0 tf6 rfl (fun M=>by simp only [icyL,fun M=>hS.icy M 12 (by omega),zCK (zGI v) (show 1 < 12 by omega)]) ?_
 refine zAX tf6 rfl (by simp only [icyL,fun M=>hS.icy M 12 (by omega),zCK (zGI v) (show 1 < 12 by omega)]) (by simp [a6]) fun b' ht hx=>?_
 have h0:=hx 0 _ rfl
 have h1:=hx 1 _ rfl
 clear hx
 simp only [a6,c6,zzm] at ht ⊢
 have hiE : upE l v = if zD9 l = true ∧ v.may = true then (if zC5 l = true then 0 else 2) else 8:=by
  unfold upE
  by_cases h : zCC l ∧ v.may = true
  ·rw [if_pos h,if_pos (show zD9 l = true ∧ v.may = true from ⟨zM8 h.1,h.2⟩)]
  ·rw [if_neg h,if_neg (show ¬(zD9 l = true ∧ v.may = true) from fun k=>h ⟨zFP.1 k.1,k.2⟩)]
 unfold upR
 by_cases h8 : zD9 l = true ∧ v.may = true
 ·rw [if_pos h8] at hiE
  obtain ⟨htb,hvm⟩:=h8
  have hok:=zFP.1 htb
  rw [htb] at hck
  rw [hvm] at hlc
  have hh:=fun M=>zQ5 (P:=Try.prog) (fs:=fsT tbl) (fuel:=fuel) (l:=l) (ag:=true) (n:=d + 8) tf17 tf37 (fun h=>by cases h) zCJ hS (by omega) (by omega) (zPZ 16) (p:=fun x => !x.af.hd.lb.leq x.sp.f.hd.lb) (fun r x hr _ M=>by
   obtain ⟨ra,rfl,hra,_⟩:=hr
   exact @zU0 fuel (d + 6) x ra hra M) M
  rw [zLA] at hh
  have hcl : (l.all fun x=>x.af.hd.lb.leq x.sp.f.hd.lb) = zC5 l:=rfl
  rw [hcl] at hh
  cases hc : zC5 l with
  | false =>
   rw [hc] at hh
   have e2 : upE l v = 2:=by rw [hiE,hc]; rfl
   rw [e2]
   simp (maxSteps:=2000000) (disch:=first | omega | assumption | (simp only [DS,Nat.reduceAdd, *]; done) | (simp only [DZ]; omega)) only [RUN,RU,zA4,zA2,zA1,zA5,frzL,slot,lay,icyL,zA6,zA0,kR,reduceIte,Nat.reduceEqDiff,Nat.reduceBEq,Nat.reduceLT,Nat.reduceAdd,Nat.reduceLeDiff,Nat.reduceSub,Nat.reduceMul,Int.reduceLT,Int.reduceLE,Int.reduceEq,Int.reduceAdd,Int.reduceSub,Int.reduceMul,h0,h1,hS.fz.rows,hS.fz.one,hS.fz.cells,hS.fz.icy,hS.fz.frz,hck,hlc,IMX,zBP,z00,zDH,zDJ,zDI,BMM,zAT,hh]
   exact ⟨NIL,.inl ⟨rfl,rfl⟩,rfl⟩
  | true =>
   rw [hc] at hh
   have e0 : upE l v = 0:=by rw [hiE,hc]; rfl
   rw [e0]
   simp only [if_true]
   simp (maxSteps:=2000000) (disch:=first | omega | assumption | (simp only [DS,Nat.reduceAdd, *]; done) | (simp only [DZ]; omega)) only [RUN,RU,zA4,zA2,zA1,zA5,frzL,slot,lay,icyL,zA6,zA0,kR,reduceIte,Nat.reduceEqDiff,Nat.reduceBEq,Nat.reduceLT,Nat.reduceAdd,Nat.reduceLeDiff,Nat.reduceSub,Nat.reduceMul,Int.reduceLT,Int.reduceLE,Int.reduceEq,Int.reduceAdd,Int.reduceSub,Int.reduceMul,h0,h1,hS.fz.rows,hS.fz.one,hS.fz.cells,hS.fz.icy,hS.fz.frz,hck,hlc,IMX,zBP,z00,zDH,zDJ,zDI,BMM,zAT,hh]
   refine zH3 zCJ.cel tf21 Try.underlying22 hS (by omega) (by omega) (by simp (maxSteps:=2000000) (disch:=first | omega | assumption | (simp only [DS,Nat.reduceAdd, *]; done) | (simp only [DZ]; omega)) only [RUN,RU,zA4,zA2,zA1,zA5,frzL,slot,lay,icyL,zA6,zA0,kR,reduceIte,Nat.reduceEqDiff,Nat.reduceBEq,Nat.reduceLT,Nat.reduceAdd,Nat.reduceLeDiff,Nat.reduceSub,Nat.reduceMul,Int.reduceLT,Int.reduceLE,Int.reduceEq,Int.reduceAdd,Int.reduceSub,Int.reduceMul]) fun o3 M3 wf3 le3 kp3 sn3 nr3 wm3 di3 sz3=>?_
   have z0 : M3.get 0 = some (.row false (lbR v)):=by
    rw [kp3 0 (by show 0 < 1; omega)]
    simp (maxSteps:=2000000) (disch:=first | omega | assumption | (simp only [DS,Nat.reduceAdd, *]; done) | (simp only [DZ]; omega)) only [RUN,RU,zA4,zA2,zA1,zA5,frzL,slot,lay,icyL,zA6,zA0,kR,reduceIte,Nat.reduceEqDiff,Nat.reduceBEq,Nat.reduceLT,Nat.reduceAdd,Nat.reduceLeDiff,Nat.reduceSub,Nat.reduceMul,Int.reduceLT,Int.reduceLE,Int.reduceEq,Int.reduceAdd,Int.reduceSub,Int.reduceMul]
   have on3:=sn3.slm.one
   have oc3:=sn3.slm.cells
   have rl3:=zBB sn3.slm.rl (Nat.le_refl M3.size)
   have lz:=Mem.get_lt z0
   simp (maxSteps:=2000000) (disch:=first | omega | assumption | (simp only [DS,Nat.reduceAdd, *]; done) | (simp only [DZ]; omega)) only [RUN,RU,zA4,zA2,zA1,zA5,frzL,slot,lay,icyL,zA6,zA0,kR,reduceIte,Nat.reduceEqDiff,Nat.reduceBEq,Nat.reduceLT,Nat.reduceAdd,Nat.reduceLeDiff,Nat.reduceSub,Nat.reduceMul,Int.reduceLT,Int.reduceLE,Int.reduceEq,Int.reduceAdd,Int.reduceSub,Int.reduceMul,h0,h1,wf3,on3,oc3,rl3]
   refine zNX (d:=d + 6) sn3 hl (by omega) wf3 z0 (fun h=>by have:=nr3 0 h; exact absurd this (by show ¬(1 ≤ 0); omega)) fun o4 N hz4 w4 le4 k4 r4=>?_
   have on4:=hz4.one
   have oc4:=hz4.cells
   have rl4:=hz4.rl (Nat.le_refl N.size)
   simp (maxSteps:=2000000) (disch:=first | omega | assumption | (simp only [DS,Nat.reduceAdd, *]; done) | (simp only [DZ]; omega)) only [RUN,RU,zA4,zA2,zA1,zA5,frzL,slot,lay,icyL,zA6,zA0,kR,reduceIte,Nat.reduceEqDiff,Nat.reduceBEq,Nat.reduceLT,Nat.reduceAdd,Nat.reduceLeDiff,Nat.reduceSub,Nat.reduceMul,Int.reduceLT,Int.reduceLE,Int.reduceEq,Int.reduceAdd,Int.reduceSub,Int.reduceMul,h0,h1,w4,on4,oc4,rl4]
   refine zUQ (n:=d + 9) (R:=fun r=>Sl 10 isRn r (upTo v l)) tf19 rfl hz4 w4 zCJ (fun a' ha'=>?_) fun r X' hr wX' sX' kX'=>?_
   ·refine zEP (d:=d + 1) ha' (Nat.le_trans (List.length_filter_le _ _) (by omega)) (fun q hq=>?_) (by have:=List.length_filter_le (fun r : Rn=>r.sp.f.hd.lb.leq v) l; omega)
    have:=zDC hok.1 q (List.mem_filter.1 hq).1
    omega
   ·have orr:=hr.one
    simp (maxSteps:=2000000) (disch:=first | omega | assumption | (simp only [DS,Nat.reduceAdd, *]; done) | (simp only [DZ]; omega)) only [RUN,RU,zA4,zA2,zA1,zA5,frzL,slot,lay,icyL,zA6,zA0,kR,reduceIte,Nat.reduceEqDiff,Nat.reduceBEq,Nat.reduceLT,Nat.reduceAdd,Nat.reduceLeDiff,Nat.reduceSub,Nat.reduceMul,Int.reduceLT,Int.reduceLE,Int.reduceEq,Int.reduceAdd,Int.reduceSub,Int.reduceMul,h0,h1,wX',hr.fz.rows,hr.fz.one,hr.fz.cells,hr.fz.icy,hr.fz.frz]
    exact ⟨r,hr,rfl⟩
 ·have e8 : upE l v = 8:=by rw [hiE,if_neg h8]
  have hz : imax (err (zD9 l)) (err v.may) = 8:=by
   cases ma : zD9 l <;> cases mb : v.may <;> first | rfl | exact absurd ⟨ma,mb⟩ h8
  rw [e8]
  simp (maxSteps:=2000000) (disch:=first | omega | assumption | (simp only [DS,Nat.reduceAdd, *]; done) | (simp only [DZ]; omega)) only [RUN,RU,zA4,zA2,zA1,zA5,frzL,slot,lay,icyL,zA6,zA0,kR,reduceIte,Nat.reduceEqDiff,Nat.reduceBEq,Nat.reduceLT,Nat.reduceAdd,Nat.reduceLeDiff,Nat.reduceSub,Nat.reduceMul,Int.reduceLT,Int.reduceLE,Int.reduceEq,Int.reduceAdd,Int.reduceSub,Int.reduceMul,h0,h1,hS.fz.rows,hS.fz.one,hS.fz.cells,hS.fz.icy,hS.fz.frz,hck,hlc,hz,z80,zDH,zDJ,zDI,BMM,zAT]
  exact ⟨NIL,.inl ⟨rfl,rfl⟩,rfl⟩
end Go.Proofs.Ytakaojjlfcmphaa
namespace Go.Proofs.Ytakaojjlfcmphaa
open Go Go.Ax
variable {M : Mem} {Q : AV → Mem → Prop}
set_option maxHeartbeats 16000000 in
theorem zOO {a ra : AV} {l : List Rn} {x : Rn} {v u : Lb} (hS : Sl 10 isRn a l) (hR : Sl 1 zBU ra x.rs) (hx : x.ok) (M : Mem) : zAF Try.prog (fsT tbl) 4000000 61 (.fn 3) [a,.agg (rnR x ra),lbA v,lbA u] M = some (BL true,M):=by
 have oa:=hS.one
 have ora:=hR.one
 have lra:=hR.len
 have hal:=zOZ
 have hgr:=fun M=>@zO8 4000000 59 l a hS (by omega) M
 apply zC1
 refine zAX tf3 rfl (by simp only [icyL,fun M=>hS.icy M 12 (by omega),zC7 hR.fz,zCK (zGI v) (show 1 < 12 by omega),zCK (zGI u) (show 1 < 12 by omega)]) (by simp [a3]) fun b' ht hx=>?_
 have h0:=hx 0 _ rfl
 have h1:=hx 1 _ rfl
 have h2:=hx 2 _ rfl
 have h3:=hx 3 _ rfl
 clear hx
 simp only [a3,c3,zz3,zzm,zzg] at ht ⊢
 cases hg : zK1 l with
 | true =>
  rw [hg] at hgr
  simp (maxSteps:=2000000) (disch:=first | omega | assumption | (simp only [DS,Nat.reduceAdd, *]; done) | (simp only [DZ]; omega)) only [RUN,RU,zA4,zA2,zA1,zA5,frzL,slot,lay,icyL,zA6,zA0,kR,reduceIte,Nat.reduceEqDiff,Nat.reduceBEq,Nat.reduceLT,Nat.reduceAdd,Nat.reduceLeDiff,Nat.reduceSub,Nat.reduceMul,Int.reduceLT,Int.reduceLE,Int.reduceEq,Int.reduceAdd,Int.reduceSub,Int.reduceMul,h0,h1,h2,h3,hS.fz.rows,hS.fz.one,hS.fz.cells,hS.fz.icy,hS.fz.frz,hR.fz.rows,hR.fz.one,hR.fz.cells,hR.fz.icy,hR.fz.frz,hal,hgr]
 | false =>
  rw [hg] at hgr
  have hl:=zK2 hg
  by_cases h100 : 100 < x.rs.length
  ·have q1 : decide ((100 : Int) < x.rs.length) = true:=decide_eq_true (by omega)
   simp (maxSteps:=2000000) (disch:=first | omega | assumption | (simp only [DS,Nat.reduceAdd, *]; done) | (simp only [DZ]; omega)) only [RUN,RU,zA4,zA2,zA1,zA5,frzL,slot,lay,icyL,zA6,zA0,kR,reduceIte,Nat.reduceEqDiff,Nat.reduceBEq,Nat.reduceLT,Nat.reduceAdd,Nat.reduceLeDiff,Nat.reduceSub,Nat.reduceMul,Int.reduceLT,Int.reduceLE,Int.reduceEq,Int.reduceAdd,Int.reduceSub,Int.reduceMul,h0,h1,h2,h3,hS.fz.rows,hS.fz.one,hS.fz.cells,hS.fz.icy,hS.fz.frz,hR.fz.rows,hR.fz.one,hR.fz.cells,hR.fz.icy,hR.fz.frz,hal,hgr,lra,q1]
  ·have q1 : decide ((100 : Int) < x.rs.length) = false:=decide_eq_false (by omega)
   obtain ⟨rl,hrl,hon⟩:=zEI (fuel:=4000000) (d:=49) (v:=v) hS (by omega) (by omega)
   unfold upR at hrl
   by_cases q2 : upE l v = 0
   ·obtain ⟨ok,vm,cl⟩:=zUM.1 q2
    rw [q2] at hon
    rw [if_pos q2] at hrl
    obtain ⟨lok,lcl,lel⟩:=zJN ok cl v
    have hll:=zVP l v
    have orl:=hrl.one
    obtain ⟨r2,hr2,hon2⟩:=zEI (fuel:=4000000) (d:=49) (v:=u) hrl (by omega) (by omega)
    unfold upR at hr2
    have or2:=hr2.one
    cases um : u.may with
    | false =>
     have e8 : upE (upTo v l) u = 8:=by
      unfold upE
      rw [if_neg (fun h=>by rw [um] at h; exact absurd h.2 (by decide))]
     have hmt:=fun M=>zTK (fuel:=4000000) (d:=59) (v:=v) um M
     obtain ⟨r3,hr3,hon3⟩:=zEI (fuel:=4000000) (d:=49) (v:=Lb.z) hS (by omega) (by omega)
     have or3:=hr3.one
     rw [e8] at hon2
     simp (maxSteps:=2000000) (disch:=first | omega | assumption | (simp only [DS,Nat.reduceAdd, *]; done) | (simp only [DZ]; omega)) only [RUN,RU,zA4,zA2,zA1,zA5,frzL,slot,lay,icyL,zA6,zA0,kR,reduceIte,Nat.reduceEqDiff,Nat.reduceBEq,Nat.reduceLT,Nat.reduceAdd,Nat.reduceLeDiff,Nat.reduceSub,Nat.reduceMul,Int.reduceLT,Int.reduceLE,Int.reduceEq,Int.reduceAdd,Int.reduceSub,Int.reduceMul,h0,h1,h2,h3,hS.fz.rows,hS.fz.one,hS.fz.cells,hS.fz.icy,hS.fz.frz,hR.fz.rows,hR.fz.one,hR.fz.cells,hR.fz.icy,hR.fz.frz,hal,hgr,lra,q1,hon,z00,z80,hon2,hmt,hon3,hrl.fz.rows,hrl.fz.one,hrl.fz.cells,hrl.fz.icy,hrl.fz.frz,hr2.fz.rows,hr2.fz.one,hr2.fz.cells,hr2.fz.icy,hr2.fz.frz,hr3.fz.rows,hr3.fz.one,hr3.fz.cells,hr3.fz.icy,hr3.fz.frz]
    | true =>
     have e0 : upE (upTo v l) u = 0:=zUM.2 ⟨lok,um,lcl⟩
     rw [e0] at hon2
     rw [if_pos e0] at hr2
     have hmt:=fun M=>zTM (fuel:=4000000) (d:=59) um vm M
     obtain ⟨r3,hr3,hon3⟩:=zEI (fuel:=4000000) (d:=49) (v:=zJ7 u v) hS (by omega) (by omega)
     have e1 : upE l (zJ7 u v) = 0:=zUM.2 ⟨ok,zTL um vm,cl⟩
     unfold upR at hr3
     rw [e1] at hon3
     rw [if_pos e1,← up_up ok cl u v] at hr3
     have or3:=hr3.one
     have uok:=(zJN lok lcl u).1
     have hul:=zVP (upTo v l) u
     have hs1:=fun M=>zFQ (fuel:=4000000) (d:=56) hr2 hr3 (by omega) (fun e he=>by have:=zDC uok.1 e he; exact ⟨by omega,by omega⟩) (by omega) M
     rw [zEH.2 rfl] at hs1
     have hck:=fun M=>zH2 (fuel:=4000000) (d:=50) hrl (by omega) (by omega) M
     rw [zM8 lok] at hck
     obtain ⟨ry,hy,hins⟩:=zI8 (fuel:=4000000) (d:=49) hS hR hx (by omega) (by omega)
     have ory:=hy.one
     have hle:=fun M=>zJ5 (fuel:=4000000) (d:=59) x.af.hd.lb x.sp.f.hd.lb M
     have hle2:=fun M=>zJ5 (fuel:=4000000) (d:=59) x.sp.f.hd.lb v M
     unfold insR at hy
     simp (maxSteps:=2000000) (disch:=first | omega | assumption | (simp only [DS,Nat.reduceAdd, *]; done) | (simp only [DZ]; omega)) only [RUN,RU,zA4,zA2,zA1,zA5,frzL,slot,lay,icyL,zA6,zA0,kR,reduceIte,Nat.reduceEqDiff,Nat.reduceBEq,Nat.reduceLT,Nat.reduceAdd,Nat.reduceLeDiff,Nat.reduceSub,Nat.reduceMul,Int.reduceLT,Int.reduceLE,Int.reduceEq,Int.reduceAdd,Int.reduceSub,Int.reduceMul,h0,h1,h2,h3,hS.fz.rows,hS.fz.one,hS.fz.cells,hS.fz.icy,hS.fz.frz,hR.fz.rows,hR.fz.one,hR.fz.cells,hR.fz.icy,hR.fz.frz,hal,hgr,lra,q1,hon,z00,hon2,hmt,hon3,hs1,hck,zBP,hrl.fz.rows,hrl.fz.one,hrl.fz.cells,hrl.fz.icy,hrl.fz.frz,hr2.fz.rows,hr2.fz.one,hr2.fz.cells,hr2.fz.icy,hr2.fz.frz,hr3.fz.rows,hr3.fz.one,hr3.fz.cells,hr3.fz.icy,hr3.fz.frz]
     by_cases he : putE l x = 0
     ·have q5 : decide (putE l x = 0) = true:=decide_eq_true he
      rw [he] at hins
      rw [if_pos he] at hy
      cases q3 : x.af.hd.lb.leq x.sp.f.hd.lb with
      | false =>
       rw [q3] at hle
       simp (maxSteps:=2000000) (disch:=first | omega | assumption | (simp only [DS,Nat.reduceAdd, *]; done) | (simp only [DZ]; omega)) only [RUN,RU,zA4,zA2,zA1,zA5,frzL,slot,lay,icyL,zA6,zA0,kR,reduceIte,Nat.reduceEqDiff,Nat.reduceBEq,Nat.reduceLT,Nat.reduceAdd,Nat.reduceLeDiff,Nat.reduceSub,Nat.reduceMul,Int.reduceLT,Int.reduceLE,Int.reduceEq,Int.reduceAdd,Int.reduceSub,Int.reduceMul,h0,h1,h2,h3,hS.fz.rows,hS.fz.one,hS.fz.cells,hS.fz.icy,hS.fz.frz,hR.fz.rows,hR.fz.one,hR.fz.cells,hR.fz.icy,hR.fz.frz,z00,hins,hle,hrl.fz.rows,hrl.fz.one,hrl.fz.cells,hrl.fz.icy,hrl.fz.frz,hy.fz.rows,hy.fz.one,hy.fz.cells,hy.fz.icy,hy.fz.frz]
      | true =>
       rw [q3] at hle
       have hyc:=zG2 he cl q3
       have hyk:=zI7 he
       have hyl:=zMX l x
       obtain ⟨r5,hr5,hon5⟩:=zEI (fuel:=4000000) (d:=49) (v:=v) hy (by omega) (by omega)
       have e5 : upE (insL l x) v = 0:=zUM.2 ⟨hyk,vm,hyc⟩
       unfold upR at hr5
       rw [e5] at hon5
       rw [if_pos e5] at hr5
       have or5:=hr5.one
       simp (maxSteps:=2000000) (disch:=first | omega | assumption | (simp only [DS,Nat.reduceAdd, *]; done) | (simp only [DZ]; omega)) only [RUN,RU,zA4,zA2,zA1,zA5,frzL,slot,lay,icyL,zA6,zA0,kR,reduceIte,Nat.reduceEqDiff,Nat.reduceBEq,Nat.reduceLT,Nat.reduceAdd,Nat.reduceLeDiff,Nat.reduceSub,Nat.reduceMul,Int.reduceLT,Int.reduceLE,Int.reduceEq,Int.reduceAdd,Int.reduceSub,Int.reduceMul,h0,h1,h2,h3,hS.fz.rows,hS.fz.one,hS.fz.cells,hS.fz.icy,hS.fz.frz,hR.fz.rows,hR.fz.one,hR.fz.cells,hR.fz.icy,hR.fz.frz,z00,hins,hle,hon5,hrl.fz.rows,hrl.fz.one,hrl.fz.cells,hrl.fz.icy,hrl.fz.frz,hy.fz.rows,hy.fz.one,hy.fz.cells,hy.fz.icy,hy.fz.frz,hr5.fz.rows,hr5.fz.one,hr5.fz.cells,hr5.fz.icy,hr5.fz.frz]
       cases q4 : x.sp.f.hd.lb.leq v with
       | false =>
        rw [q4] at hle2
        rw [zUN he cl q3 q4] at hr5
        have hs2:=fun M=>zFQ (fuel:=4000000) (d:=56) hr5 hrl (by omega) (fun e he=>by have:=zDC lok.1 e he; exact ⟨by omega,by omega⟩) (by omega) M
        rw [zEH.2 rfl] at hs2
        simp (maxSteps:=2000000) (disch:=first | omega | assumption | (simp only [DS,Nat.reduceAdd, *]; done) | (simp only [DZ]; omega)) only [RUN,RU,zA4,zA2,zA1,zA5,frzL,slot,lay,icyL,zA6,zA0,kR,reduceIte,Nat.reduceEqDiff,Nat.reduceBEq,Nat.reduceLT,Nat.reduceAdd,Nat.reduceLeDiff,Nat.reduceSub,Nat.reduceMul,Int.reduceLT,Int.reduceLE,Int.reduceEq,Int.reduceAdd,Int.reduceSub,Int.reduceMul,h0,h1,h2,h3,hS.fz.rows,hS.fz.one,hS.fz.cells,hS.fz.icy,hS.fz.frz,hR.fz.rows,hR.fz.one,hR.fz.cells,hR.fz.icy,hR.fz.frz,z00,hle2,hs2,hrl.fz.rows,hrl.fz.one,hrl.fz.cells,hrl.fz.icy,hrl.fz.frz,hy.fz.rows,hy.fz.one,hy.fz.cells,hy.fz.icy,hy.fz.frz,hr5.fz.rows,hr5.fz.one,hr5.fz.cells,hr5.fz.icy,hr5.fz.frz]
       | true =>
        rw [q4] at hle2
        obtain ⟨hp,hq⟩:=zaP he cl q3 q4
        rw [hq] at hr5
        have hpk:=zI7 hp
        have hpl:=zMX (upTo v l) x
        obtain ⟨rz,hz,hins2⟩:=zI8 (fuel:=4000000) (d:=49) hrl hR hx (by omega) (by omega)
        unfold insR at hz
        rw [hp] at hins2
        rw [if_pos hp] at hz
        have orz:=hz.one
        have hs2:=fun M=>zFQ (fuel:=4000000) (d:=56) hr5 hz (by omega) (fun e he=>by have:=zDC hpk.1 e he; exact ⟨by omega,by omega⟩) (by omega) M
        rw [zEH.2 rfl] at hs2
        simp (maxSteps:=2000000) (disch:=first | omega | assumption | (simp only [DS,Nat.reduceAdd, *]; done) | (simp only [DZ]; omega)) only [RUN,RU,zA4,zA2,zA1,zA5,frzL,slot,lay,icyL,zA6,zA0,kR,reduceIte,Nat.reduceEqDiff,Nat.reduceBEq,Nat.reduceLT,Nat.reduceAdd,Nat.reduceLeDiff,Nat.reduceSub,Nat.reduceMul,Int.reduceLT,Int.reduceLE,Int.reduceEq,Int.reduceAdd,Int.reduceSub,Int.reduceMul,h0,h1,h2,h3,hS.fz.rows,hS.fz.one,hS.fz.cells,hS.fz.icy,hS.fz.frz,hR.fz.rows,hR.fz.one,hR.fz.cells,hR.fz.icy,hR.fz.frz,z00,hle2,hins2,hs2,hrl.fz.rows,hrl.fz.one,hrl.fz.cells,hrl.fz.icy,hrl.fz.frz,hy.fz.rows,hy.fz.one,hy.fz.cells,hy.fz.icy,hy.fz.frz,hr5.fz.rows,hr5.fz.one,hr5.fz.cells,hr5.fz.icy,hr5.fz.frz,hz.fz.rows,hz.fz.one,hz.fz.cells,hz.fz.icy,hz.fz.frz]
     ·have q5 : decide (putE l x = 0) = false:=decide_eq_false he
      simp (maxSteps:=2000000) (disch:=first | omega | assumption | (simp only [DS,Nat.reduceAdd, *]; done) | (simp only [DZ]; omega)) only [RUN,RU,zA4,zA2,zA1,zA5,frzL,slot,lay,icyL,zA6,zA0,kR,reduceIte,Nat.reduceEqDiff,Nat.reduceBEq,Nat.reduceLT,Nat.reduceAdd,Nat.reduceLeDiff,Nat.reduceSub,Nat.reduceMul,Int.reduceLT,Int.reduceLE,Int.reduceEq,Int.reduceAdd,Int.reduceSub,Int.reduceMul,h0,h1,h2,h3,hS.fz.rows,hS.fz.one,hS.fz.cells,hS.fz.icy,hS.fz.frz,hR.fz.rows,hR.fz.one,hR.fz.cells,hR.fz.icy,hR.fz.frz,z00,hins,q5,hrl.fz.rows,hrl.fz.one,hrl.fz.cells,hrl.fz.icy,hrl.fz.frz,hy.fz.rows,hy.fz.one,hy.fz.cells,hy.fz.icy,hy.fz.frz]
   ·have q2':=decide_eq_false q2
    rw [if_neg q2] at hrl
    have lrl:=hrl.len
    simp (maxSteps:=2000000) (disch:=first | omega | assumption | (simp only [DS,Nat.reduceAdd, *]; done) | (simp only [DZ]; omega)) only [RUN,RU,zA4,zA2,zA1,zA5,frzL,slot,lay,icyL,zA6,zA0,kR,reduceIte,Nat.reduceEqDiff,Nat.reduceBEq,Nat.reduceLT,Nat.reduceAdd,Nat.reduceLeDiff,Nat.reduceSub,Nat.reduceMul,Int.reduceLT,Int.reduceLE,Int.reduceEq,Int.reduceAdd,Int.reduceSub,Int.reduceMul,h0,h1,h2,h3,hS.fz.rows,hS.fz.one,hS.fz.cells,hS.fz.icy,hS.fz.frz,hR.fz.rows,hR.fz.one,hR.fz.cells,hR.fz.icy,hR.fz.frz,hal,hgr,lra,q1,hon,q2',lrl,List.length_nil,hrl.fz.rows,hrl.fz.one,hrl.fz.cells,hrl.fz.icy,hrl.fz.frz]
    rfl
end Go.Proofs.Ytakaojjlfcmphaa
namespace Go.Proofs.Ytakaojjlfcmphaa
open Go Go.Ax
abbrev gLb : GT:=.ag [.int .u8,.int .u32]
abbrev gHd : GT:=.ag [gLb,.int .u8]
abbrev gId : GT:=.ag [gHd,.int .i64]
abbrev gSp : GT:=.ag [gId,.int .i64]
theorem zII {n : Int} (h : (Lit.int .u8 n).wf = true) : 0 ≤ n ∧ n ≤ 255:=by
 simp [Lit.wf,IntKind.min,IntKind.max,IntKind.signed,IntKind.bits] at h
 omega
theorem zJG {n : Int} (h : (Lit.int .u32 n).wf = true) : 0 ≤ n ∧ n < 4294967296:=by
 simp [Lit.wf,IntKind.min,IntKind.max,IntKind.signed,IntKind.bits] at h
 omega
theorem zM6 {n : Int} (h : (Lit.int .i64 n).wf = true) : i64R n:=by
 simp [Lit.wf,IntKind.min,IntKind.max,IntKind.signed,IntKind.bits] at h
 unfold i64R
 omega
def zQ8 (r : List AV) (x : Int) : Prop:=zBU r x ∧ (-2147483648 ≤ x ∧ x ≤ 2147483647)
theorem zZM (r : List AV) (h : Is (.int .i32) r) : ∃ x,zQ8 r x:=by
 simp only [Is] at h
 obtain ⟨n,rfl,hw⟩:=h
 refine ⟨n,rfl, ?_⟩
 simp [Lit.wf,IntKind.min,IntKind.max,IntKind.signed,IntKind.bits] at hw
 omega
theorem zMH : ∀ {rows : List (List AV)} {l : List Int},All2 zQ8 rows l → All2 zBU rows l ∧ i32s l
 | _,_,.nil=>⟨.nil,fun x h=>by cases h⟩
 | _,_,.cons a t=>by
  obtain ⟨h1,h2⟩:=zMH t
  refine ⟨.cons a.1 h1,fun x h=>?_⟩
  rcases List.mem_cons.1 h with rfl | h
  ·exact a.2
  ·exact h2 x h
theorem zaM {a : AV} {l : List Int} (h : Sl 1 zQ8 a l) : Sl 1 zBU a l ∧ i32s l:=by
 rcases h with ⟨rfl,rfl⟩ | ⟨rows,cap,rfl,hA,hr⟩
 ·exact ⟨.inl ⟨rfl,rfl⟩,fun x h=>by cases h⟩
 ·obtain ⟨h1,h2⟩:=zMH hA
  exact ⟨.inr ⟨rows,cap,rfl,h1,hr⟩,h2⟩
theorem zTT {r : List AV} (h : Is (.sl (.int .i32)) r) : ∃ a l,r = [a] ∧ Sl 1 zBU a l ∧ i32s l:=by
 obtain ⟨a,l,e,hs⟩:=Is.slice zZM h
 obtain ⟨h1,h2⟩:=zaM hs
 exact ⟨a,l,e,h1,h2⟩
theorem zZN (r : List AV) (h : Is gLb r) : ∃ x,isLb r x:=by
 simp only [gLb,Is,IsL] at h
 obtain ⟨_,_,rfl,⟨n1,rfl,w1⟩,_,_,rfl,⟨n2,rfl,w2⟩,rfl⟩:=h
 exact ⟨⟨n1,n2⟩,rfl,(zII w1).1,(zII w1).2,(zJG w2).1,(zJG w2).2⟩
end Go.Proofs.Ytakaojjlfcmphaa
namespace Go.Proofs.Ytakaojjlfcmphaa
open Go Go.Ax
abbrev gRn : GT:=.ag [gSp,gId,.sl (.int .i32)]
theorem zZO (r : List AV) (h : Is gRn r) : ∃ x,isRn r x:=by
 simp only [gRn,gSp,gId,gHd,gLb,Is,IsL] at h
 obtain ⟨_,_,rfl,⟨_,_,rfl,⟨_,_,rfl,⟨_,_,rfl,⟨_,_,rfl,⟨n1,rfl,w1⟩,_,_,rfl,⟨n2,rfl,w2⟩,rfl⟩,_,_,rfl,⟨n3,rfl,w3⟩,rfl⟩,_,_,rfl,⟨n4,rfl,w4⟩,rfl⟩,_,_,rfl,⟨n5,rfl,w5⟩,rfl⟩,_,_,rfl,⟨_,_,rfl,⟨_,_,rfl,⟨_,_,rfl,⟨n6,rfl,w6⟩,_,_,rfl,⟨n7,rfl,w7⟩,rfl⟩,_,_,rfl,⟨n8,rfl,w8⟩,rfl⟩,_,_,rfl,⟨n9,rfl,w9⟩,rfl⟩,_,_,rfl,hr,rfl⟩:=h
 have r1 : 0 ≤ n1 ∧ n1 ≤ 255:=by exact zII w1
 have r2 : 0 ≤ n2 ∧ n2 < 4294967296:=by exact zJG w2
 have r3 : 0 ≤ n3 ∧ n3 ≤ 255:=by exact zII w3
 have r4 : i64R n4:=by exact zM6 w4
 have r5 : i64R n5:=by exact zM6 w5
 have r6 : 0 ≤ n6 ∧ n6 ≤ 255:=by exact zII w6
 have r7 : 0 ≤ n7 ∧ n7 < 4294967296:=by exact zJG w7
 have r8 : 0 ≤ n8 ∧ n8 ≤ 255:=by exact zII w8
 have r9 : i64R n9:=by exact zM6 w9
 obtain ⟨ra,l,e,hs,hi⟩:=zTT (r:=_) (by simp only [Is]; exact hr)
 subst e
 exact ⟨⟨⟨⟨⟨⟨n1,n2⟩,n3⟩,n4⟩,n5⟩,⟨⟨⟨n6,n7⟩,n8⟩,n9⟩,l⟩,ra,rfl,hs,⟨⟨⟨⟨r1.1,r1.2,r2.1,r2.2⟩,r3⟩,r4⟩,r5⟩,⟨⟨⟨r6.1,r6.2,r7.1,r7.2⟩,r8⟩,r9⟩,hi⟩
end Go.Proofs.Ytakaojjlfcmphaa
