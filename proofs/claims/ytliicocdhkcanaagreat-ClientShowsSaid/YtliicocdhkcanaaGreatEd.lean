/-
 The executor on abstract memory, part 4: what it is, and that what it finds is so of the program.
-/
import Derived.Test.YtliicocdhkcanaaGreatEc
import Derived.Below
import Derived.ChangeArms
import Derived.OpenShut
import Derived.DataReads
import Derived.ChangeAt
set_option linter.unusedSimpArgs false
set_option linter.unusedVariables false
namespace Go.Ax
open Go
variable {Γ : Glob}
variable {P : Program} {call : Tg -> List AV -> Mem -> Option (AV × Mem)} {fuel : Nat} {fs : Nat -> Option AFunc}
structure Keeps (w w':World):Prop where
 hs:w.heap.size<=w'.heap.size
 keep:∀ b,b<w.heap.size->w'.heap[b]? = w.heap[b]?
 os:w'.os=w.os
 tape:w'.tape=w.tape
 output:w'.output=w.output
def zXD (Γ:Glob)(P:Program)(f:FuncId)(g:List AV->Option AV):Prop :=
 ∀ args r,g args=some r -> ∀ (h:Nat->Option Obj) (w:World) (vs:Array Value),(∀ b x,h b=some x->w.heap[b]? = some x)->Γ.G h->FRels h args vs.toList ->
  Calls P f vs w fun e w' => ∃ v,e = .returned v/\(∀ μ,VRel μ r v)/\Keeps w w'
def zL0 (Γ:Glob)(P:Program)(fs:Nat->Option AFunc):Prop :=
 ∀ f af, fs f = some af -> ∃ fn, P.funcs[f]? = some fn /\ (fn.name == "runtime.NumGoroutine") = false /\ (zFK P fn = some { af with gc := 0 } /\ af.gc ≠ 3 ∨ af.gc = 3 /\ fn.body.isSome = true /\ ∃ g, af.body = .ext g /\ zXD Γ P f g)
theorem Seg.res {μ μ':Inj}{M M':Mem}{w w':World}(h:Seg Γ P μ M w μ' M' w'){r:AV}{v:Value}(hr:VRel μ' r v):Res Γ P (· < M.size) (· < M.size) μ M w r M' v w' μ' :=
 ⟨hr,h.ext,h.on.sub fun i hi=>by have:=h.ext.le;rcases hi with hi | hi <;> omega⟩
theorem zTS {M M':Mem}{id:Nat}(h:begA M id=some M'):MemLe M M':=by
 unfold begA at h
 split at h
 ·split at h
  ·exact .put h
  ·cases h
 ·cases h
theorem zLF {M M':Mem}{id:Nat}{st:LoopState}{pd:Option AExit}(h:endA M id st pd=some M'):MemLe M M':=by
 unfold endA at h
 split at h
 ·exact .put h
 ·cases h
theorem zR0 {g:Nat}{own:Bool}{vs:List AV}{M M0 M1:Mem}(h:zM3 g own vs M M0=some M1):(M1=M/\(vs.all scA=true∨own=true))∨M1=M0:=by
 unfold zM3 at h
 split at h
 ·split at h
  ·rename_i hs;cases h;exact .inl ⟨rfl,.inl hs⟩
  ·cases h
 ·split at h
  ·cases h;exact .inl ⟨rfl,.inr rfl⟩
  ·cases h
 ·cases h;exact .inr rfl
theorem VRels.sc {μ μ':Inj}:∀ {vs:List AV} {us:List Value},VRels μ' vs us->vs.all scA=true->VRels μ vs us
 | _,_,.nil,_ => .nil
 | _,_,.cons a b,h=>by
  rw[List.all_cons,Bool.and_eq_true] at h
  refine .cons ?_ (VRels.sc b h.2)
  cases a <;> first | exact .sc _ | exact absurd h.1 (by simp [scA])
theorem zV9 {μ:Inj}{M:Mem}{w w2:World}(R:RelOn Γ P (· < M.size) μ M.get w)(X:Keeps w w2) :
  Ext (· < M.size) μ M.size M.get w μ M.size M.get w2/\RelOn Γ P (· < M.size) μ M.get w2:=by
 refine⟨⟨Inj.le_refl μ,(fun id p h k=>by rw[h] at k;cases k),(fun b x h k=>by rw[h] at k;cases k),Nat.le_refl _,X.hs,fun b hb _=>X.keep b hb,fun _ _ _=>rfl,fun _ _ _=>rfl,X.os,X.tape,X.output⟩, ?_⟩
 constructor
 ·intro id p hi hp
  obtain⟨a1,obj,a2,a3⟩:=R.ok id p hi hp
  exact⟨Nat.lt_of_lt_of_le a1 X.hs,obj,a2,a3.mono (Inj.le_refl μ) (X.keep _ a1)⟩
 ·exact R.ex
 ·exact fun b x hx=>(R.fz b x hx).mono (X.keep b (R.fz b x hx).lt)
 ·exact R.sep
 ·exact R.gl
theorem zZ9 {μ μ2:Inj}{M M2:Mem}{w w2:World}(R:RelOn Γ P (· < M.size) μ M.get w){μ0:Inj}
  (X:Ext (· < mem0.size) μ0.bare mem0.size mem0.get w μ2 M2.size M2.get w2) :
  Ext (· < M.size) μ M.size M.get w μ M.size M.get w2/\RelOn Γ P (· < M.size) μ M.get w2:=by
 have keep:∀ b,b<w.heap.size->w2.heap[b]? = w.heap[b]? := fun b hb=>X.frame b hb fun i q h=>absurd h (Nat.not_lt_zero _)
 refine⟨⟨Inj.le_refl μ,(fun id p h k=>by rw[h] at k;cases k),(fun b x h k=>by rw[h] at k;cases k),Nat.le_refl _,X.hs,fun b hb _=>keep b hb,fun _ _ _=>rfl,fun _ _ _=>rfl,X.os,X.tape,X.output⟩, ?_⟩
 constructor
 ·intro id p hi hp
  obtain⟨a1,obj,a2,a3⟩:=R.ok id p hi hp
  exact⟨Nat.lt_of_lt_of_le a1 X.hs,obj,a2,a3.mono (Inj.le_refl μ) (keep _ a1)⟩
 ·exact R.ex
 ·exact fun b x hx=>(R.fz b x hx).mono (keep b (R.fz b x hx).lt)
 ·exact R.sep
 ·exact R.gl
theorem zQD:∀ n tg args M r M',zAF P fs fuel n tg args M=some (r,M')->MemLe M M':=by
 intro n
 induction n with
 | zero=>intro tg args M r M' h;cases tg <;> simp [zAF] at h
 | succ n ih =>
  intro tg args M r M' h
  have hx:=fun rd c=>zDN (P:=P) (fuel:=fuel) ih rd c
  cases tg with
  | fn f =>
   simp only[zAF] at h
   split at h
   ·split at h
    ·split at h
     ·cases h
     ·rename_i h1
      split at h
      ·rename_i h2
       split at h
       ·cases h;exact(hx _ _ _ _ _ _ _ h1).trans (zMP _ h2)
       ·cases h
      ·cases h
     ·cases h
    ·split at h
     ·rename_i args' M0 ha
      have l0:=zFB (zb9 12) _ _ _ _ ha
      split at h
      ·split at h
       ·cases h;exact l0
       ·cases h
      ·cases h
     ·cases h
    ·split at h
     ·rename_i args' M0 ha
      have l0:=zFB (zb9 12) _ _ _ _ ha
      have e:M'=M∨M'=M0:=by
       split at h
       ·cases h
       ·split at h
        ·split at h
         ·split at h
          ·split at h
           ·rename_i hl;cases h;exact(zR0 hl).imp (fun h=>h.1) (fun h=>h)
           ·cases h
          ·cases h
         ·cases h
        ·cases h
       ·cases h
      rcases e with e | e
      ·exact e ▸ MemLe.refl _
      ·exact e ▸ l0
     ·cases h
   ·cases h
  | yl id =>
   simp only[zAF] at h
   split at h
   ·split at h
    ·split at h
     ·split at h
      ·rename_i h1
       split at h
       ·rename_i h2
        split at h
        ·rename_i h3
         have k:=(hx _ _ _ _ _ _ _ h1).trans ((zTS h2).trans (hx _ _ _ _ _ _ _ h3))
         split at h
         ·split at h
          ·rename_i h4;cases h;exact k.trans (zLF h4)
          ·cases h
         ·split at h
          ·rename_i h4;cases h;exact k.trans (zLF h4)
          ·cases h
        ·cases h
       ·cases h
      ·cases h
     ·cases h
    ·cases h
   ·cases h
theorem zc6 {μ:Inj}{M M':Mem}{id:Nat}{w:World}(h:begA M id=some M')(R:RelOn Γ P (· < M.size) μ M.get w){p:Pl}(hp:μ id=some p) :
  ∃ w',(Instr.beginRound p.b).run P w = .ok () w'/\Seg Γ P μ M w μ M' w'/\M'.size=M.size:=by
 unfold begA at h
 split at h
 ·rename_i st pend tm ps x y dfr hg
  split at h
  ·obtain⟨hlt,obj,ho,hok⟩:=R.ok id p (Mem.get_lt hg) hp
   rw[hg] at ho;cases ho
   obtain⟨r,h1,h2,h3,h4,h5,h6,h7,q,h8,h9⟩:=hok
   refine⟨_,run_beginRound h1 h2,Seg.of_res (r:=zA3) (v:=undef) (Res.write h hp (Mem.get_lt hg) (Mem.get_lt hg) R (zCH hg rfl) (by simp) (fun k hk=>World.putObj_heap_other hk) rfl rfl rfl ?_ (.sc _)),(Mem.put_spec h).2.1⟩
   exact⟨_,World.putObj_heap_same hlt,rfl,h3,h4,h5,h6,h7,q,h8,h9⟩
  ·cases h
 ·cases h
theorem zOX {μ:Inj}{M M':Mem}{id:Nat}{w:World}{st:LoopState}{pd:Option AExit}(h:endA M id st pd=some M')(R:RelOn Γ P (· < M.size) μ M.get w){p:Pl}(hp:μ id=some p)(jump:Option Code)(hj:zW5 pd jump)(hst:st=if jump.isNone then .ready else .done) :
  ∃ w',(Instr.endRound p.b jump).run P w = .ok (.bool jump.isNone) w'/\Seg Γ P μ M w μ M' w'/\M'.size=M.size:=by
 unfold endA at h
 split at h
 ·rename_i st0 pend tm ps x y dfr hg
  obtain⟨hlt,obj,ho,hok⟩:=R.ok id p (Mem.get_lt hg) hp
  rw[hg] at ho;cases ho
  obtain⟨r,h1,h2,h3,h4,h5,h6,h7,q,h8,h9⟩:=hok
  refine⟨_,run_endRound jump h1,Seg.of_res (r:=zA3) (v:=undef) (Res.write h hp (Mem.get_lt hg) (Mem.get_lt hg) R (zCH hg rfl) (by simp) (fun k hk=>World.putObj_heap_other hk) rfl rfl rfl ?_ (.sc _)),(Mem.put_spec h).2.1⟩
  exact⟨_,World.putObj_heap_same hlt,hst.symm,hj,h4,h5,h6,h7,q,h8,h9⟩
 ·cases h
theorem zT5 {μ:Inj}:∀ (ps:List Nat) (args:List AV) (vs:List Value) (tm:List AV) (tmps:Array Value),VRels μ tm tmps.toList->VRels μ args vs ->
  VRels μ (zFI tm ps args) ((ps.zip vs).foldl (fun t (x:Nat × Value)=>t.setIfInBounds x.1 x.2) tmps).toList:=by
 intro ps
 induction ps with
 | nil=>intro args vs tm tmps h _;simpa [zFI] using h
 | cons p ps ih =>
  intro args vs tm tmps h k
  cases k with
  | nil=>simpa [zFI] using h
  | cons a b =>
   simp only[zFI,List.zip_cons_cons,List.foldl_cons]
   refine ih _ _ _ _ ?_ b
   rw[zCT,Array.toList_setIfInBounds]
   exact h.set p a
theorem VRels.undefs {μ:Inj}(n:Nat):VRels μ (List.replicate n zA3) (List.replicate n undef):=by
 induction n with
 | zero=>exact .nil
 | succ n ih=>exact .cons (.sc _) ih
theorem zQE (hins:zMZ Γ P)(ht:zL0 Γ P fs):∀ n,CallOK Γ P (zAF P fs fuel n):=by
 intro n
 induction n with
 | zero=>exact⟨zQD 0,fun f args M r M' h=>by simp [zAF] at h,fun id args M r M' h=>by simp [zAF] at h⟩
 | succ n ih =>
  refine⟨zQD _, ?_, ?_⟩
  ·intro f args M r M' h μ w vs R H hfr
   simp only[zAF] at h
   split at h
   ·rename_i af haf
    obtain⟨fn,hfn,hname,hcomp⟩:=ht f af haf
    rcases hcomp with⟨hcomp,hg3⟩ | ⟨hg3,hbs,g,hbg,hext⟩
    rotate_left
    ·simp only[hg3,hbg] at h
     split at h
     ·rename_i args' M0 ha
      split at h
      ·rename_i r' hr'
       cases h
       obtain⟨μ0,X0,Rm,F0,e0⟩:=zGB (zbA 12) _ _ _ _ _ _ _ ha R H
       have hb:∃ c,fn.body=some c:=by
        cases hb:fn.body with
        | none=>rw[hb] at hbs;cases hbs
        | some c=>exact⟨c,rfl⟩
       obtain⟨c,hbody⟩:=hb
       refine⟨by simp [callFunc,go_sem,hfn,hbody];simpa using hname, ?_⟩
       refine callsIn_wide.2 ((hext _ _ hr' μ0.f w vs Rm.fz Rm.gl F0).mono fun e w' hp=>?_)
       obtain⟨v,rfl,hv,hk⟩:=hp
       obtain⟨X2,R2⟩:=zV9 Rm hk
       exact⟨v,μ0,rfl,hv μ0,X0.trans X2 (fun i h _=>by omega) (fun i k1 k2=>by omega),R2.sub fun i hi=>by rcases hi with hi | hi <;> omega⟩
      ·cases h
     ·cases h
    obtain⟨c,rs,hbody,hres,he⟩:=zCP hcomp
    obtain⟨ng,body,results,gc⟩:=af
    cases he
    refine⟨by simp [callFunc,go_sem,hfn,hbody];simpa using hname, ?_⟩
    split at h
    ·rename_i hgc
     split at h
     ·cases h
     ·rename_i e fr M1 hne h1
      split at h
      ·rename_i M2 h2
       split at h
       ·rename_i vs' h3
        cases h
        refine callsIn_of_wp_marks hfn hbody trivial ?_
        have l1:=zDN (P:=P) (fuel:=fuel) ih.le none _ _ _ _ _ _ h1
        have l2:=zMP _ h2
        refine zLC ih hins c none _ M e fr M1 h1 μ Fence.wide _ w rfl R ?_ ⟨rfl,fun i d hi=>by simp at hi⟩ (fun i k1 k2=>hfr i k1 (by have:=l2.le;omega)) _ fun a1 w1 μ1 S1 T1 D1=>?_
        ·show VRels μ _ _
         rw[Array.toList_append,Array.toList_replicate]
         have hl:vs.size=args.length:=by have:=H.length;simpa using this
         rw[hl]
         exact H.append (.undefs _)
        ·obtain⟨hsz,w2,S2,k⟩:=zRQ _ h2 S1.on D1
         obtain⟨v,hv,hvr⟩:=zJP S2.on T1 hres h3
         have S:=S1.trans S2 (fun i k1 k2=>hfr i k1 (by omega))
         have key:LeavesInM Fence.wide 0 P fn a1.tmps (zCM Γ P μ M w (zC6 vs') M') a1.defers .returning w1:=k _ _ _ _ _ ⟨v,hv,v,μ1,rfl,S.res hvr⟩
         cases e with
         | normal=>exact key
         | ret=>exact key
         | exit i=>exact absurd rfl (hne i)
       ·cases h
      ·cases h
     ·cases h
    ·rename_i hgc3
     exact absurd hgc3 hg3
    ·split at h
     ·rename_i args' M0 ha
      obtain⟨μ0,X0,Rm,F0,e0⟩:=zGB (zbA 12) _ _ _ _ _ _ _ ha R H
      split at h
      ·cases h
      ·rename_i e fr M1 hne h1
       split at h
       ·rename_i M2 h2
        split at h
        ·rename_i vs1 h3
         split at h
         ·rename_i vs' h4
          split at h
          rotate_left
          ·cases h
          rename_i Mr hlend
          cases h
          refine callsIn_of_wp_marks hfn hbody trivial ?_
          have R0:=zc5 Rm
          have l2:=zMP _ h2
          refine zLC ih hins c none _ mem0 e fr M1 h1 μ0.bare Fence.wide _ w rfl R0 ?_ ⟨rfl,fun i d hi=>by simp at hi⟩ (fun i k1 k2=>rfl) _ fun a1 w1 μ1 S1 T1 D1=>?_
          ·show VRels μ0.bare _ _
           rw[Array.toList_append,Array.toList_replicate]
           have hl:vs.size=args'.length:=by have:=F0.length;simpa using this
           rw[hl]
           exact(FRels.v (μ:=μ0.bare) F0).append (.undefs _)
          ·obtain⟨hsz,w2,S2,k⟩:=zRQ _ h2 S1.on D1
           have S:=S1.trans S2 (fun i k1 k2=>rfl)
           obtain⟨v,us,hv,hus,htup⟩:=zO2 S2.on T1 hres h3
           obtain⟨μ',X',R',V'⟩:=zfW Rm S.ext S.on hus h4
           have key:LeavesInM Fence.wide 0 P fn a1.tmps (zCM Γ P μ M w (zC6 vs') M') a1.defers .returning w1:=by
            rcases zR0 hlend with⟨rfl,hsc | hown⟩ | rfl
            ·obtain⟨X2,R2⟩:=zZ9 R S.ext
             exact k _ _ _ _ _ ⟨v,hv,v,μ,rfl,htup _ _ (VRels.sc V' hsc),X2,R2.sub fun i hi=>by rcases hi with hi | hi <;> omega⟩
            ·obtain⟨μ4,X4,R4,V4⟩:=ze1 R S.ext S.on hus hown h4
             exact k _ _ _ _ _ ⟨v,hv,v,μ4,rfl,htup _ _ V4,X4,R4.sub fun i hi=>by rcases hi with hi | hi <;> omega⟩
            ·exact k _ _ _ _ _ ⟨v,hv,v,μ',rfl,htup _ _ V',X0.trans X' (fun i _ hi=>by omega) (fun i k1 k2=>by omega),R'.sub fun i hi=>by rcases hi with hi | hi <;> omega⟩
           cases e with
           | normal=>exact key
           | ret=>exact key
           | exit i=>exact absurd rfl (hne i)
         ·cases h
        ·cases h
       ·cases h
      ·cases h
     ·cases h
   ·cases h
  ·intro id args M r M' h μ w vs p hp R H hfr
   simp only[zAF] at h
   split at h
   ·rename_i st pend tm ps x y dfr hg
    split at h
    ·split at h
     ·rename_i hlen
      have hlen:=Nat.eq_of_beq_eq_true hlen
      split at h
      ·rename_i fr M1 h1
       split at h
       ·rename_i M2 h2
        split at h
        ·rename_i e fr3 M3 h3
         obtain⟨_,obj,ho,hok⟩:=R.ok id p (Mem.get_lt hg) hp
         rw[hg] at ho;cases ho
         obtain⟨rr,r1,r2,r3,r4,r5,r6,r7,q,r8,r9⟩:=hok
         subst r6 r7
         have hsz:vs.size=rr.params.size:=by
          have:=H.length
          rw[<- r5] at hlen
          simp at this hlen;omega
         refine⟨_,_,_,_,run_yield r1 hsz,roundIn_of_wpIn trivial ?_⟩
         have l1:=zDN (P:=P) (fuel:=fuel) ih.le (some id) _ _ _ _ _ _ h1
         have l2:=zTS h2
         have l3:=zDN (P:=P) (fuel:=fuel) ih.le (some id) _ _ _ _ _ _ h3
         have l4:MemLe M3 M':=by
          split at h
          ·split at h
           ·rename_i h4;cases h;exact zLF h4
           ·cases h
          ·split at h
           ·rename_i h4;cases h;exact zLF h4
           ·cases h
         have s2:=l2.le
         have s3:=l3.le
         have s4:=l4.le
         refine zLC ih hins rr.assign (some id) _ M .normal fr M1 h1 μ _ _ w ⟨p,hp,rfl⟩ R ?_ ⟨rfl,fun i d hi=>by simp at hi⟩ (fun i k1 k2=>hfr i k1 (by omega)) _ fun a1 w1 μ1 S1 T1 D1=>?_
         ·show VRels μ _ _
          have:=zT5 ps args vs.toList tm rr.tmps r4 H
          rw[<- r5,<- Array.toList_zip,Array.foldl_toList] at this
          rw[<- r5]
          exact this
         ·have hp1:=S1.ext.sub _ _ hp
          obtain⟨w2,hb,S2,e2⟩:=zc6 h2 S1.on hp1
          refine⟨w2,hb, ?_⟩
          have S12:=S1.trans S2 (fun i k1 k2=>hfr i k1 (by omega))
          refine zLC ih hins rr.body (some id) _ M2 e fr3 M3 h3 μ1 _ _ w2 ⟨p,hp1,rfl⟩ S2.on T1 D1 (S12.fresh (fun i k1 k2=>hfr i k1 (by omega))) _ fun a3 w3 μ3 S3 T3 D3=>?_
          have S13:=S12.trans S3 (fun i k1 k2=>hfr i k1 (by omega))
          have hp3:=S3.ext.sub _ _ hp1
          cases e with
          | normal =>
           simp only at h
           split at h
           ·rename_i M4 h4
            cases h
            obtain⟨w4,he,S4,e4⟩:=zOX h4 S3.on hp3 none trivial rfl
            exact zE0o
           ·cases h
          | ret =>
           simp only at h
           split at h
           ·rename_i M4 h4
            cases h
            obtain⟨w4,he,S4,e4⟩:=zOX h4 S3.on hp3 (some .ret) trivial rfl
            exact zE0o
           ·cases h
          | exit i =>
           simp only at h
           split at h
           ·rename_i M4 h4
            cases h
            obtain⟨w4,he,S4,e4⟩:=zOX h4 S3.on hp3 (some (.exit i)) rfl rfl
            exact zE0o
           ·cases h
        ·cases h
       ·cases h
      ·cases h
     ·cases h
    ·cases h
   ·cases h
open Go Go.RowKit
def injW (w:World):Inj:=⟨fun _=>none,fun b=>w.heap[b]?⟩
theorem RelOn.start (P:Program)(D:Nat->Prop)(E:Cont)(w:World)(hg:Γ.G fun b=>w.heap[b]?):RelOn Γ P D (injW w) E w :=
 ⟨fun _ _ _ h=>(by cases h),fun _ _ _ _ _ _ h=>(by cases h),fun _ _ h=>h,fun _ _ _ _ _ _ h=>(by cases h),hg⟩
def fsOf (P:Program):Nat->Option AFunc:=fun f=>match P.funcs[f]? with
 | some fn => match fn.name == "runtime.NumGoroutine" with
  | true=>none
  | false=>zFK P fn
 | none=>none
theorem zaM (P:Program):zL0 Γ P (fsOf P):=by
 intro f af h
 unfold fsOf at h
 split at h
 ·rename_i fn hf
  split at h
  ·cases h
  ·rename_i hn
   refine⟨fn,hf,hn,.inl ⟨?_, ?_⟩⟩
   ·obtain⟨c,rs,_,_,he⟩:=zCP h
    rw[h,he]
   ·obtain⟨c,rs,_,_,he⟩:=zCP h
    rw[he];exact(by decide:(0:Nat)≠3)
 ·cases h
theorem zZ0 {o : Oper} {g : FuncId} {e : TypeId} {st b : Nat} {x i y : Operand} (h : zBE P o = .ins g e st b x i y) : ∃ fn, P.funcs[g]? = some fn /\ (fn.origin == "slices.Insert") = true := by
 unfold zBE at h
 split at h
 ·exact zE07
 ·rename_i g0 e0 st0 b0 x0 i0 y0 h0
  split at h
  ·rename_i c hc
   split at h
   ·rename_i g' hcal
    split at h
    ·rename_i hg _
     cases h
     have hg:=eq_of_beq hg
     subst hg
     simp only[zA1,hc,hcal] at h0
     cases hf:P.funcs[g']? with
     | none=>simp [hf] at h0
     | some fn =>
      refine⟨fn,rfl, ?_⟩
      simp only[hf,Option.bind_eq_bind,Option.bind_some] at h0
      cases hb:fn.body with
      | none =>
       exact zE04
      | some bd =>
       simp only[hb] at h0
       cases ho : fn.origin == "slices.Insert" with
       | true=>rfl
       | false=>simp [ho] at h0
    ·cases h
   ·cases h
  ·cases h
 ·exact zE0s
 ·rename_i hn1 hn2 hn3
  exact absurd (zJB h) (hn2 _ _ _ _ _ _ _)
inductive GT where
 | int (k:IntKind)
 | bool
 | str
 | sl (t:GT)
 | ag (l:List GT)
mutual
def GT.n:GT->Nat
 | .ag l=>GT.ns l
 | .int _=>1
 | .bool=>1
 | .str=>1
 | .sl _=>1
def GT.ns:List GT->Nat
 | []=>0
 | t::l=>t.n+GT.ns l
end
mutual
def Is:GT->List AV->Prop
 | .int k,l => ∃ n,l=[.sc (.int k n)]/\(Lit.int k n).wf=true
 | .bool,l => ∃ b,l=[.sc (.bool b)]
 | .str,l => ∃ s,l=[.sc (.string s)]/\s.size<=maxLen
 | .sl t,l=>l=[.sc (.slice none 0 0)] ∨ ∃ (rows:List (List AV)) (cap:Nat),l=[.pv rows.flatten rows.length (some cap) t.n]/\rows.length<=cap/\cap<=maxLen /\ ∀ r∈rows,Is t r
 | .ag ts,l=>IsL ts l
def IsL:List GT->List AV->Prop
 | [],l=>l=[]
 | t::ts,l => ∃ a b,l=a++b/\Is t a/\IsL ts b
end
mutual
def GT.by:GT->Nat
 | .ag l=>GT.bys l
 | .int k=>k.bits / 8
 | .bool=>1
 | .str=>16
 | .sl _=>24
def GT.bys:List GT->Nat
 | []=>0
 | t::l=>t.by+GT.bys l
end
mutual
def Ws:GT->List AV->Prop
 | .sl t,l => ∀ (cs:List AV) (n:Nat) (cap:Option Nat) (st:Nat),l=[.pv cs n cap st]->n*t.by<=reachBytes /\ ∀ i,i<n->Ws t (slot cs (i*t.n) t.n)
 | .ag ts,l=>WsL ts l
 | .int _,_=>True
 | .bool,_=>True
 | .str,_=>True
def WsL:List GT->List AV->Prop
 | [],_=>True
 | t::ts,l=>Ws t (l.take t.n)/\WsL ts (l.drop t.n)
end
def Wgt {H:Type}(P:Program)(t:TypeId)(x:DataW H × List MemPlace):Prop:=(x.1.weights P t).all (· <= reachBytes)=true
theorem zQ3 {H:Type}{P:Program}{e:TypeId}:∀ {l:List (DataW H × List MemPlace)},(DataW.weightsAll P e (l.map (·.1))).all (· <= reachBytes)=true -> ∀ (i:Nat) (h:i<l.length),Wgt P e l[i]
 | [],_,_,h=>by simp at h
 | x::l,h,i,hi=>by
  simp only[List.map_cons,DataW.weightsAll,List.all_append,Bool.and_eq_true] at h
  match i with
  | 0=>exact h.1
  | i+1=>exact zQ3 h.2 i (by simpa using hi)
theorem zRW {H:Type}{P:Program}:∀ {ts:List TypeId} {l:List (DataW H × List MemPlace)},(DataW.weightsEach P ts (l.map (·.1))).all (· <= reachBytes)=true -> ∀ (i:Nat) (t:TypeId),ts[i]? = some t -> ∀ (h:i<l.length),Wgt P t l[i]
 | _,[],_,_,_,_,h=>by simp at h
 | [],_::_,_,_,_,h,_=>by simp at h
 | t::ts,x::l,h,i,t',ht,hi=>by
  simp only[List.map_cons,DataW.weightsEach,List.all_append,Bool.and_eq_true] at h
  match i with
  | 0=>simp at ht;subst ht;exact h.1
  | i+1=>exact zRW h.2 i t' (by simpa using ht) (by simpa using hi)
mutual
theorem Is.len:∀ (g:GT) {l:List AV},Is g l->l.length=g.n
 | .int _,_,h=>by simp only[Is] at h;obtain⟨_,rfl,_⟩:=h;rfl
 | .bool,_,h=>by simp only[Is] at h;obtain⟨_,rfl⟩:=h;rfl
 | .str,_,h=>by simp only[Is] at h;obtain⟨_,rfl,_⟩:=h;rfl
 | .sl _,_,h=>by simp only[Is] at h;rcases h with rfl | ⟨_,_,rfl,_⟩ <;> rfl
 | .ag ts,_,h=>by simp only[Is] at h;simpa [GT.n] using IsL.len ts h
theorem IsL.len:∀ (g:List GT) {l:List AV},IsL g l->l.length=GT.ns g
 | [],_,h=>by simp only[IsL] at h;subst h;rfl
 | t::ts,_,h=>by
  simp only[IsL] at h
  obtain⟨a,b,rfl,h1,h2⟩:=h
  rw[List.length_append,Is.len t h1,IsL.len ts h2];rfl
end
mutual
def fits (P:Program):GT->TypeId->Bool
 | .int k,t=>match P.underlying t with | some (.int j)=>decide (k=j) | _=>false
 | .bool,t=>match P.underlying t with | some .bool=>true | _=>false
 | .str,t=>match P.underlying t with | some .string=>true | _=>false
 | .sl g,t=>match P.underlying t with | some (.slice e)=>fits P g e&&Nat.beq (P.cellsOf e) g.n&&Nat.blt 0 g.n&&Nat.ble g.by (P.bytesOf e) | _=>false
 | .ag gs,t=>match P.underlying t with
  | some (.struct fs)=>Nat.beq (P.cellsOf t) (GT.ns gs)&&zSN P gs fs.toList 0
  | some (.array n e)=>Nat.beq (P.cellsOf t) (GT.ns gs)&&Nat.beq gs.length n&&zYM P gs e
  | _=>false
def zSN (P:Program):List GT->List Field->Nat->Bool
 | [],[],_=>true
 | g::gs,f::fs,o=>Nat.beq f.offset o&&Nat.beq (P.cellsOf f.type) g.n&&fits P g f.type&&zSN P gs fs (o+g.n)
 | [],_::_,_=>false
 | _::_,[],_=>false
def zYM (P:Program):List GT->TypeId->Bool
 | [],_=>true
 | g::gs,e=>Nat.beq (P.cellsOf e) g.n&&fits P g e&&zYM P gs e
end
theorem zWG {w:World}{base:Nat}{a:Addr}{n i len:Nat}{cs:List Value}(hn:0<n)(hi:i<len)(hall:∀ i,i<len -> ∃ cs,w.cells? base (a.add (i*n)) n=some cs)(h:w.cells? base (a.add (i*n)) n=some cs) :
  ∃ c e r,w.heap[a.block]? = some (.cells c e r)/\a.spot=none/\a.off+len*n<=c.size/\cs=(c.toList.drop (a.off+i*n)).take n:=by
 have get:∀ i,i<len -> ∀ cs,w.cells? base (a.add (i*n)) n=some cs->cs.length=n /\ ∀ j,j<n->w.cell? (a.add (i*n+j))=cs[j]? := fun i hi cs h=>by
  obtain⟨_,h1,h2⟩:=World.cells?_some h
  refine⟨h1,fun j hj=>?_⟩
  rw[<- h2 j hj]
  congr 1
  unfold Addr.add
  obtain⟨b,o,s⟩:=a
  by_cases e1:i*n=0
  ·simp [e1]
  ·by_cases e2:j=0
   ·simp [e1,e2]
   ·simp [e1,e2,show ¬ (i=0) from fun e=>e1 (by simp [e]),Nat.add_assoc]
 obtain⟨cs0,h0⟩:=hall 0 (by omega)
 obtain⟨l0,g0⟩:=get 0 (by omega) cs0 h0
 obtain⟨b,off,spot⟩:=a
 have h00:=g0 0 hn
 obtain⟨v0,hv0⟩:∃ v,cs0[0]? = some v:=⟨cs0[0]'(by omega),by simp⟩
 rw[hv0] at h00
 have hs:spot=none:=by
  cases spot with
  | none=>rfl
  | some s =>
   exfalso
   unfold Addr.add World.cell? at h00
   simp at h00
   split at h00 <;> simp at h00
 subst hs
 have hcell:∀ k:Nat,(⟨b,off,none⟩:Addr).add k=⟨b,off+k,none⟩:=fun k=>addr_add b off k
 obtain⟨c,e,r,hb⟩:∃ c e r,w.heap[b]? = some (.cells c e r):=by
  rw[hcell] at h00
  unfold World.cell? at h00
  split at h00
  ·rename_i hx;exact⟨_,_,_,hx⟩
  all_goals simp at h00
 have hat:∀ k,w.cell? ((⟨b,off,none⟩:Addr).add k)=c[off+k]? := fun k=>by rw[hcell];exact zOM hb _
 refine⟨c,e,r,hb,rfl, ?_, ?_⟩
 ·obtain⟨csl,hl⟩:=hall (len - 1) (by omega)
  obtain⟨ll,gl⟩:=get (len - 1) (by omega) csl hl
  have:=gl (n - 1) (by omega)
  rw[hat] at this
  have hlt:off+((len - 1)*n+(n - 1))<c.size:=by
   rw[show csl[n - 1]? = some (csl[n - 1]'(by omega)) by simp] at this
   exact(Array.getElem?_eq_some_iff.1 this).1
  have e1:len*n=(len - 1)*n+n:=by rw[<- Nat.succ_mul];congr 1;omega
  show off+len*n<=c.size
  omega
 ·obtain⟨l1,g1⟩:=get i hi cs h
  apply List.ext_getElem?
  intro j
  by_cases hj:j<n
  ·rw[<- g1 j hj,hat,List.getElem?_take,if_pos hj,List.getElem?_drop,<- Array.getElem?_toList]
   congr 1;show off+(i*n+j)=off+i*n+j;omega
  ·rw[List.getElem?_eq_none (by omega),List.getElem?_take,if_neg hj]
section
variable {H : Type} {enc : TypeId × Value -> H} {w : World} {base : Nat} {spare : Nat -> Bool} {held : Bool}
theorem zRK {f:Nat->Option Obj}{vs:List Value}{o n:Nat}(T:List AV->Prop):∀ (len:Nat),(∀ i,i<len -> ∃ as,FRels f as ((vs.drop (o+i*n)).take n)/\T as/\as.length=n) ->
  ∃ rows:List (List AV),rows.length=len/\rows.flatten.length=len*n/\FRels f rows.flatten ((vs.drop o).take (len*n)) /\ ∀ r∈rows,T r
 | 0,_=>⟨[],rfl,by simp,by simpa using FRels.nil,fun r h=>by cases h⟩
 | len+1,h=>by
  obtain⟨rows,h1,h2,h3,h4⟩:=zRK T len fun i hi=>h i (by omega)
  obtain⟨as,k1,k2,k3⟩:=h len (by omega)
  refine⟨rows++[as],by simp [h1],by simp [h2,k3,Nat.succ_mul], ?_,fun r hr=>?_⟩
  ·have:=h3.append k1
   rw[List.flatten_append,Nat.succ_mul,List.take_add]
   simp only[List.flatten_cons,List.flatten_nil,List.append_nil]
   rw[List.drop_drop]
   exact this
  ·rcases List.mem_append.1 hr with hr | hr
   ·exact h4 r hr
   ·simp at hr;subst hr;exact k2
theorem zKC:∀ {rows:List (List AV)} {st:Nat},(∀ r∈rows,r.length=st) -> ∀ (i:Nat) (r:List AV),rows[i]? = some r->slot rows.flatten (i*st) st=r
 | [],_,_,_,_,h=>by simp at h
 | x::rows,st,hl,0,r,h=>by
  simp at h;subst h
  have:=hl x (by simp)
  simp [slot,<- this]
 | x::rows,st,hl,i+1,r,h=>by
  have hx:=hl x (by simp)
  have:=zKC (rows:=rows) (fun r hr=>hl r (by simp [hr])) i r (by simpa using h)
  unfold slot at *
  rw[List.flatten_cons,Nat.succ_mul,Nat.add_comm,<- List.drop_drop,<- hx,List.drop_left]
  rw[hx]
  exact this
mutual
theorem zMB:∀ (g:GT) (t:TypeId) (fuel:Nat) (cs:List Value) (x:DataW H × List MemPlace),fits P g t=true->DataW.trod enc P w base spare held fuel t cs=some x ->
  ∃ as,FRels (fun b=>w.heap[b]?) as cs/\Is g as/\(Wgt P t x->Ws g as)
 | .int k,t,0,_,_,_,h=>by simp [DataW.trod] at h
 | .int k,t,fuel+1,cs,x,hf,h=>by
  simp only[fits] at hf
  split at hf
  ·rename_i j hu
   have:=of_decide_eq_true hf;subst this
   unfold DataW.trod at h
   rw[hu] at h
   split at h <;> simp_all
   simp only[Is]
   obtain⟨⟨hk,hw⟩,_⟩:=h
   subst hk
   exact⟨_,.cons (.sc _) .nil,⟨_,rfl,hw⟩,fun _=>by simp [Ws]⟩
  ·cases hf
 | .bool,t,0,_,_,_,h=>by simp [DataW.trod] at h
 | .bool,t,fuel+1,cs,x,hf,h=>by
  simp only[fits] at hf
  split at hf
  ·rename_i hu
   unfold DataW.trod at h
   rw[hu] at h
   split at h <;> simp_all
   rename_i b
   exact⟨[.sc (.bool b)],.cons (.sc _) .nil,by simp [Is],fun _=>by simp [Ws]⟩
  ·cases hf
 | .str,t,0,_,_,_,h=>by simp [DataW.trod] at h
 | .str,t,fuel+1,cs,x,hf,h=>by
  simp only[fits] at hf
  split at hf
  ·rename_i hu
   unfold DataW.trod at h
   rw[hu] at h
   split at h <;> simp_all
   simp only[Is]
   exact⟨_,.cons (.sc _) .nil,⟨_,rfl,h.1⟩,fun _=>by simp [Ws]⟩
  ·cases hf
 | .sl g,t,fuel,cs,x,hf,h=>by
  simp only[fits] at hf
  split at hf
  ·rename_i e hu
   simp only[Bool.and_eq_true] at hf
   obtain⟨⟨⟨hf1,hf2⟩,hf3⟩,hf4⟩:=hf
   have hf2:=Nat.eq_of_beq_eq_true hf2
   have hf3:=(zAJ _ _).1 hf3
   have hf4:=Nat.le_of_ble_eq_true hf4
   rcases DataW.trod_slice hu h with⟨rfl,_⟩ | ⟨a,len,cap,elems,rest,n,_,rfl,hxX,_,hlc,hcm,hel,hall,_⟩
   ·exact⟨[.sc (.slice none 0 0)],.cons (.sc _) .nil,by simp [Is],fun _=>by simp only[Ws];intro _ _ _ _ h;cases h⟩
   ·rw[hf2] at hall
    have hW:Wgt P t x->len*g.by<=reachBytes /\ ∀ i (h:i<elems.length),Wgt P e elems[i]:=fun hw=>by
     rw[hxX] at hw
     simp only[Wgt,DataW.weights,hu,List.all_cons,List.all_append,Bool.and_eq_true,decide_eq_true_eq,List.length_map] at hw
     refine⟨?_,zQ3 hw.2.1⟩
     calc len*g.by<=(elems.length+rest.length)*P.bytesOf e:=Nat.mul_le_mul (by omega) hf4
      _<=reachBytes:=hw.1
    have hget:∀ i,i<len -> ∃ ci,w.cells? base (a.add (i*g.n)) g.n=some ci /\ ∃ y,DataW.trod enc P w base spare held n e ci=some y/\(Wgt P t x->Wgt P e y):=fun i hi=>by
     have:=hall i hi
     rw[List.getElem?_eq_getElem (by omega)] at this
     rw[Option.bind_eq_some_iff] at this
     obtain⟨ci,h1,h2⟩:=this
     exact⟨ci,h1,_,h2,fun hw=>(hW hw).2 i _⟩
    by_cases h0:len=0
    ·subst h0
     refine⟨[.pv [] 0 (some cap) g.n],.cons (.pv0 fun c hc=>by cases hc;rfl) .nil, ?_⟩
     refine⟨?_,fun _=>?_⟩
     ·simp only[Is]
      exact .inr ⟨[],cap,rfl,by simp,hcm,fun r hr=>by cases hr⟩
     ·simp only[Ws]
      intro cs n c st h
      cases h
      exact⟨by simp,fun i hi=>by omega⟩
    ·have hrow:∀ i,i<len -> ∀ ci,w.cells? base (a.add (i*g.n)) g.n=some ci -> ∃ c e r,w.heap[a.block]? = some (.cells c e r)/\a.spot=none/\a.off+len*g.n<=c.size/\ci=(c.toList.drop (a.off+i*g.n)).take g.n :=
      fun i hi ci hc=>zWG hf3 hi (fun i hi=>(hget i hi).imp fun ci h=>h.1) hc
     obtain⟨c0,h00,_⟩:=hget 0 (by omega)
     obtain⟨c,e',r,hb,hs,hsz,_⟩:=hrow 0 (by omega) c0 h00
     obtain⟨rows,r1,r2,r3,r4⟩:=zRK (f:=fun b=>w.heap[b]?) (vs:=c.toList) (o:=a.off) (n:=g.n) (fun r=>Is g r/\(Wgt P t x->Ws g r)) len fun i hi=>by
      obtain⟨ci,k1,y,k2,kw⟩:=hget i hi
      obtain⟨c',e2,r2,hb',_,_,hci⟩:=hrow i hi ci k1
      rw[hb] at hb';cases hb'
      obtain⟨as,m1,m2,m3⟩:=zMB g e n ci y hf1 k2
      exact⟨as,hci ▸ m1,⟨m2,fun hw=>m3 (kw hw)⟩,Is.len g m2⟩
     refine⟨[.pv rows.flatten rows.length (some cap) g.n],.cons ?_ .nil, ?_⟩
     ·obtain⟨b,off,spot⟩:=a
      cases hs
      rw[r1]
      exact .pv hb (by rw[r2];exact hsz) (by rw[r2];exact r3) r2 hlc (fun c hc=>by cases hc;rfl)
     ·refine⟨?_,fun hw=>?_⟩
      ·simp only[Is]
       exact .inr ⟨rows,cap,rfl,by omega,hcm,fun r hr=>(r4 r hr).1⟩
      ·simp only[Ws]
       intro cs n c st h
       cases h
       refine⟨by rw[r1];exact(hW hw).1,fun i hi=>?_⟩
       rw[zKC (fun r hr=>Is.len g (r4 r hr).1) i rows[i] (List.getElem?_eq_getElem hi)]
       exact(r4 _ (List.getElem_mem hi)).2 hw
  ·cases hf
 | .ag gs,t,fuel,cs,x,hf,h=>by
  simp only[fits] at hf
  split at hf
  ·rename_i fs hu
   simp only[Bool.and_eq_true] at hf
   obtain⟨hf1,hf2⟩:=hf
   have hf1:=Nat.eq_of_beq_eq_true hf1
   obtain⟨xs,n,_,hx',hl,hxl,hall⟩:=DataW.trod_struct hu h
   have hx:=hx'
   obtain⟨as,m1,m2,m3⟩:=zVZ gs fs.toList 0 n cs (Wgt P t x) hf2 (by rw[hl,hf1];omega) fun i f hi=>by
    have:=hall i f (by simpa using hi)
    have hlt:i<xs.length:=by rw[hxl];have:=(List.getElem?_eq_some_iff.1 hi).1;simpa using this
    rw[List.getElem?_eq_getElem hlt] at this
    refine⟨_,this,fun hw=>?_⟩
    rw[hx] at hw
    simp only[Wgt,DataW.weights,hu] at hw
    exact zRW hw i f.type (by rw[List.getElem?_map,hi];rfl) hlt
   exact⟨as,by simpa using m1,by simpa [Is] using m2,fun hw=>by simpa [Ws] using m3 hw⟩
  ·rename_i m e hu
   simp only[Bool.and_eq_true] at hf
   obtain⟨⟨hf1,hf2⟩,hf3⟩:=hf
   have hf1:=Nat.eq_of_beq_eq_true hf1
   have hf2:=Nat.eq_of_beq_eq_true hf2
   obtain⟨xs,n,_,hx,hl,hxl,hall⟩:=DataW.trod_array hu h
   obtain⟨as,m1,m2,m3⟩:=zVY gs e 0 n cs (Wgt P t x) hf3 (by rw[hl,hf1,Nat.zero_mul,Nat.zero_add]) fun i hi=>by
    have:=hall i (by omega)
    have hlt:i<xs.length:=by rw[hxl];omega
    rw[List.getElem?_eq_getElem hlt] at this
    rw[Nat.zero_add]
    refine⟨_,this,fun hw=>?_⟩
    rw[hx] at hw
    simp only[Wgt,DataW.weights,hu] at hw
    exact zQ3 hw i hlt
   exact⟨as,by simpa using m1,by simpa [Is] using m2,fun hw=>by simpa [Ws] using m3 hw⟩
  ·cases hf
theorem zVZ:∀ (gs:List GT) (fs:List Field) (o n:Nat) (cs:List Value) (X:Prop),zSN P gs fs o=true->cs.length=o+GT.ns gs ->
  (∀ (i:Nat) (f:Field),fs[i]? = some f -> ∃ x,DataW.trod enc P w base spare held n f.type ((cs.drop f.offset).take (P.cellsOf f.type))=some x/\(X->Wgt P f.type x)) -> ∃ as,FRels (fun b=>w.heap[b]?) as (cs.drop o)/\IsL gs as/\(X->WsL gs as)
 | [],[],o,n,cs,_,_,hl,_=>⟨[],by rw[List.drop_eq_nil_of_le (by simp [GT.ns] at hl;omega)];exact .nil,by simp [IsL],fun _=>by simp [WsL]⟩
 | g::gs,f::fs,o,n,cs,X,hf,hl,hall=>by
  simp only[zSN,Bool.and_eq_true] at hf
  obtain⟨⟨⟨h1,h2⟩,h3⟩,h4⟩:=hf
  have h1:=Nat.eq_of_beq_eq_true h1
  have h2:=Nat.eq_of_beq_eq_true h2
  obtain⟨x,hx,hxw⟩:=hall 0 f rfl
  obtain⟨a,k1,k2,k5⟩:=zMB g f.type n _ x h3 hx
  obtain⟨b,k3,k4,k6⟩:=zVZ gs fs (o+g.n) n cs X h4 (by rw[hl];simp [GT.ns];omega) fun i f' hi=>hall (i+1) f' (by simpa using hi)
  refine⟨a++b, ?_,by simp only[IsL];exact⟨a,b,rfl,k2,k4⟩,fun hw=>by
   simp only[WsL]
   rw[<- Is.len g k2,List.take_left,List.drop_left]
   exact⟨k5 (hxw hw),k6 hw⟩⟩
  rw[h1,h2] at k1
  have:=k1.append k3
  rwa [<- List.drop_drop,List.take_append_drop] at this
 | [],_::_,_,_,_,_,hf,_,_=>by simp [zSN] at hf
 | _::_,[],_,_,_,_,hf,_,_=>by simp [zSN] at hf
theorem zVY:∀ (gs:List GT) (e:TypeId) (o n:Nat) (cs:List Value) (X:Prop),zYM P gs e=true->cs.length=o*P.cellsOf e+GT.ns gs ->
  (∀ i,i<gs.length -> ∃ x,DataW.trod enc P w base spare held n e ((cs.drop ((o+i)*P.cellsOf e)).take (P.cellsOf e))=some x/\(X->Wgt P e x)) -> ∃ as,FRels (fun b=>w.heap[b]?) as (cs.drop (o*P.cellsOf e))/\IsL gs as/\(X->WsL gs as)
 | [],e,o,n,cs,_,_,hl,_=>⟨[],by rw[List.drop_eq_nil_of_le (by simp [GT.ns] at hl;omega)];exact .nil,by simp [IsL],fun _=>by simp [WsL]⟩
 | g::gs,e,o,n,cs,X,hf,hl,hall=>by
  simp only[zYM,Bool.and_eq_true] at hf
  obtain⟨⟨h2,h3⟩,h4⟩:=hf
  have h2:=Nat.eq_of_beq_eq_true h2
  obtain⟨x,hx,hxw⟩:=hall 0 (by simp)
  obtain⟨a,k1,k2,k5⟩:=zMB g e n _ x h3 hx
  obtain⟨b,k3,k4,k6⟩:=zVY gs e (o+1) n cs X h4 (by rw[hl,Nat.succ_mul];simp only[GT.ns];omega) fun i hi=>by
   have:=hall (i+1) (by simpa using hi)
   rwa [show o+(i+1)=o+1+i by omega] at this
  refine⟨a++b, ?_,by simp only[IsL];exact⟨a,b,rfl,k2,k4⟩,fun hw=>by
   simp only[WsL]
   rw[<- Is.len g k2,List.take_left,List.drop_left]
   exact⟨k5 (hxw hw),k6 hw⟩⟩
  have:=k1.append k3
  rw[Nat.add_zero,Nat.succ_mul,<- List.drop_drop,List.take_append_drop] at this
  exact this
end
end
theorem zWI {P:Program}{fuel:Nat}{fs:Nat->Option AFunc}(hins:zMZ Γ P)(ht:zL0 Γ P fs){f n:Nat}{M:Mem}{as:List AV}(h:zAF P fs fuel n (.fn f) as mem0=some (.sc (.bool true),M))(w:World){vs:Array Value}
  (hv:FRels (fun b=>w.heap[b]?) as vs.toList) (hg:Γ.G fun b=>w.heap[b]?):Calls P f vs w (fun e w'=>e = .returned (.bool true)/\Below w.heap.size w w'):=by
 have k:=((zQE hins ht n).fn f as mem0 _ M h (injW w) w vs (RelOn.start P _ _ w hg) (FRels.v (μ:=injW w) hv) (fun _ _ _=>rfl)).2
 refine callsIn_wide.1 (k.mono fun e w' hp=>?_)
 obtain⟨v,μ',rfl,hres⟩:=hp
 have hv:v = .bool true:=by
  have:=hres.rel
  cases this;rfl
 subst hv
 exact⟨rfl,hres.ext.os,hres.ext.tape,hres.ext.output,hres.ext.hs,fun b hb=>hres.ext.frame b hb fun i q _ _ hq=>by cases hq⟩
variable {t : List AV}
def zDJ (P:Program)(t:List AV)(o:Oper):Option AV:=zB9 P t o
theorem zA4 {α β:Type}{P:Program}(f:α->Sem β){b:β}:∀ {s:Sem α} {a:α},zAG P s=some a->zAG P (f a)=some b->zAG P (s >>= f)=some b:=by
 intro s
 induction s with
 | pure a=>intro c h k;simp [zAG] at h;subst h;exact k
 | program k ih=>intro c h k';exact ih P h k'
 | mark m k ih=>intro c h k';exact ih h k'
 | _=>intro c h;simp [zAG] at h
theorem zCR {o:Oper}{v:Value}(h1:o.op.operands.toList.all (fun x=>(zAZ (zA5 t x)).isSome)=true)(h2:zAG P (execOp (fun x=>(zAZ (zA5 t x)).getD undef) o)=some (.value v)):zB9 P t o=some (.sc v):=by
 unfold zB9
 simp only[h1,h2]
def pb2 (d:Option AV)(g:IntKind->Int->IntKind->Int->Option Value)(h:ByteArray->ByteArray->Option Value)(q:Bool->Bool->Option Value)(u v:AV):Option AV:=match u with
 | .sc (.int k a)=>match v with
  | .sc (.int j b)=>(match g k a j b with | some r=>some (.sc r) | none=>d)
  | _=>d
 | .sc (.string a)=>match v with
  | .sc (.string b)=>(match h a b with | some r=>some (.sc r) | none=>d)
  | _=>d
 | .sc (.bool a)=>match v with
  | .sc (.bool b)=>(match q a b with | some r=>some (.sc r) | none=>d)
  | _=>d
 | _=>d
section
variable (d : Option AV) (g : IntKind -> Int -> IntKind -> Int -> Option Value) (h : ByteArray -> ByteArray -> Option Value) (q : Bool -> Bool -> Option Value)
theorem ze3 (k j:IntKind)(a b:Int):pb2 d g h q (.sc (.int k a)) (.sc (.int j b))=(match g k a j b with | some r=>some (.sc r) | none=>d):=rfl
theorem ze4 (a b:ByteArray):pb2 d g h q (.sc (.string a)) (.sc (.string b))=(match h a b with | some r=>some (.sc r) | none=>d):=rfl
theorem zZY (a b:Bool):pb2 d g h q (.sc (.bool a)) (.sc (.bool b))=(match q a b with | some r=>some (.sc r) | none=>d):=rfl
end
def binV (P:Program)(op:BinOp)(ty:TypeId)(k:IntKind)(a:Int)(j:IntKind)(b:Int):Option Value:=zAG P (binOp op ty (.int k a) (.int j b))
def binT (P:Program)(op:BinOp)(ty:TypeId)(a b:ByteArray):Option Value:=zAG P (binOp op ty (.string a) (.string b))
def binB (P:Program)(op:BinOp)(ty:TypeId)(a b:Bool):Option Value:=zAG P (binOp op ty (.bool a) (.bool b))
theorem pI {op:BinOp}{ty yt r:TypeId}{x y:Operand}(u v:AV)(hx:zA5 t x=u)(hy:zA5 t y=v):zB9 P t (mkO (.binOp op ty x y yt) r)=pb2 (zDJ P t (mkO (.binOp op ty x y yt) r)) (binV P op ty) (binT P op ty) (binB P op ty) u v:=by
 have key:∀ (a b:Value),u = .sc a->v = .sc b->zAZ (.sc a)=some a->zAZ (.sc b)=some b->zAG P (eqGuard op ty x y a b)=some () -> ∀ w,zAG P (binOp op ty a b)=some w->zB9 P t (mkO (.binOp op ty x y yt) r)=some (.sc w):=by
  intro a b ha hb _ _ hg w hw
  subst hx;subst hy
  refine zCR ?_ ?_
  ·simp [mkO,Op.operands,ha,hb,zAZ]
  ·simp only[execOp,mkO,ha,hb,zAZ,Option.getD_some]
   exact zA4 _ (zA4 _ (a:=()) hg hw) rfl
 unfold pb2
 split
 ·rename_i k a
  split
  ·rename_i j b
   exact zE0m
  ·rfl
 ·rename_i a
  split
  ·rename_i b
   exact zE0m
  ·rfl
 ·rename_i a
  split
  ·rename_i b
   exact zE0m
  ·rfl
 ·rfl
theorem pInt2 (op:BinOp)(ty yt r:TypeId)(x y:Operand):zB9 P t (mkO (.binOp op ty x y yt) r)=pb2 (zDJ P t (mkO (.binOp op ty x y yt) r)) (binV P op ty) (binT P op ty) (binB P op ty) (zA5 t x) (zA5 t y):=pI _ _ rfl rfl
theorem zNQ (l:List UInt8):(⟨l.toArray⟩:ByteArray).toList=l:=by rw[ByteArray.toList_eq]
theorem vsEql (ty:TypeId)(l m:List UInt8):binT P .eql ty ⟨l.toArray⟩ ⟨m.toArray⟩=some (.bool (decide (l=m))):=by
 simp only[binT,binOp,Op.stringOp,zNQ]
 show some (Value.bool (l == m))=_
 congr 2
 by_cases h:l=m <;> simp [h]
theorem vsNeq (ty:TypeId)(l m:List UInt8):binT P .neq ty ⟨l.toArray⟩ ⟨m.toArray⟩=some (.bool (!decide (l=m))):=by
 simp only[binT,binOp,Op.stringOp,zNQ]
 show some (Value.bool (!(l == m)))=_
 congr 2
 by_cases h:l=m <;> simp [h]
theorem vLss (ty:TypeId)(k:IntKind)(a b:Int):binV P .lss ty k a k b=some (.bool (decide (a<b))):=by
 exact zE0i
theorem vLeq (ty:TypeId)(k:IntKind)(a b:Int):binV P .leq ty k a k b=some (.bool (decide (a<=b))):=by
 exact zE0i
theorem vGtr (ty:TypeId)(k:IntKind)(a b:Int):binV P .gtr ty k a k b=some (.bool (decide (b<a))):=by
 exact zE0i
theorem vGeq (ty:TypeId)(k:IntKind)(a b:Int):binV P .geq ty k a k b=some (.bool (decide (b<=a))):=by
 exact zE0i
theorem vEql (ty:TypeId)(k:IntKind)(a b:Int):binV P .eql ty k a k b=some (.bool (decide (a=b))):=by
 simp only[binV,binOp,ne_eq,not_true_eq_false,if_false,Op.intCmp]
 show some (Value.bool (a == b))=_
 congr 2
theorem vNeq (ty:TypeId)(k:IntKind)(a b:Int):binV P .neq ty k a k b=some (.bool (!decide (a=b))):=by
 simp only[binV,binOp,ne_eq,not_true_eq_false,if_false,Op.intCmp]
 show some (Value.bool (a != b))=_
 congr 2
theorem vAdd (ty:TypeId)(k:IntKind)(a b:Int):binV P .add ty k a k b=some (.int k (k.wrap (a+b))):=by
 simp only[binV,binOp,ne_eq,not_true_eq_false,if_false,Op.intArith];rfl
theorem vSub (ty:TypeId)(k:IntKind)(a b:Int):binV P .sub ty k a k b=some (.int k (k.wrap (a - b))):=by
 simp only[binV,binOp,ne_eq,not_true_eq_false,if_false,Op.intArith];rfl
theorem vMul (ty:TypeId)(k:IntKind)(a b:Int):binV P .mul ty k a k b=some (.int k (k.wrap (a*b))):=by
 simp only[binV,binOp,ne_eq,not_true_eq_false,if_false,Op.intArith];rfl
def pn1 (d:Option AV)(u:AV):Option AV:=match u with
 | .sc (.bool b)=>some (.sc (.bool (!b)))
 | _=>d
theorem za7 (d:Option AV)(b:Bool):pn1 d (.sc (.bool b))=some (.sc (.bool (!b))):=rfl
theorem pNot2 (ty r:TypeId)(x:Operand):zB9 P t (mkO (.unOp .not ty x) r)=pn1 (zDJ P t (mkO (.unOp .not ty x) r)) (zA5 t x):=by
 unfold pn1
 split
 ·rename_i b hx
  refine zCR ?_ ?_
  ·simp [mkO,Op.operands,hx,zAZ]
  ·simp only[execOp,mkO,hx,zAZ,Option.getD_some];rfl
 ·rfl
theorem pMin (x y:Operand)(ats:Array TypeId)(r:TypeId):zB9 P t (mkO (.call ⟨.builtin .min,#[x,y],ats⟩) r)=pb2 (zDJ P t (mkO (.call ⟨.builtin .min,#[x,y],ats⟩) r)) (fun k a _ b=>some (.int k (if b<a then b else a))) (fun _ _=>none) (fun _ _=>none) (zA5 t x) (zA5 t y):=by
 unfold pb2
 split
 ·rename_i k a hx
  split
  ·rename_i j b hy
   refine zCR ?_ ?_
   ·simp [mkO,Op.operands,Call.operands,hx,hy,zAZ]
   ·simp only[execOp,mkO,resolve,List.map_toArray,List.map_cons,List.map_nil,hx,hy,zAZ,Option.getD_some]
    rfl
  ·rfl
 ·split <;> rfl
 ·split <;> rfl
 ·rfl
def psl (d:Option AV)(u:AV):Option AV:=match u with
 | .sc (.string s)=>some (.sc (goInt s.size))
 | _=>d
theorem zeA (d:Option AV)(b:ByteArray):psl d (.sc (.string b))=some (.sc (.int .i64 b.size)):=rfl
theorem zhI {ty:TypeId}(hu:P.underlying ty=some .string)(x:Operand)(r:TypeId):zB9 P t (mkO (.call ⟨.builtin .len,#[x],#[ty]⟩) r)=psl (zDJ P t (mkO (.call ⟨.builtin .len,#[x],#[ty]⟩) r)) (zA5 t x):=by
 unfold psl
 split
 ·rename_i s hx
  refine zCR ?_ ?_
  ·simp [mkO,Op.operands,Call.operands,hx,zAZ]
  ·simp only[execOp,mkO,resolve,List.map_toArray,List.map_cons,List.map_nil,hx,zAZ,Option.getD_some]
   show zAG P (do let v <- Builtin.len_ #[ty] r #[.string s];pure (Next.value v))=some (Next.value (goInt s.size))
   refine zA4 _ (a:=goInt s.size) ?_ rfl
   have hun:zAG P (underlying ty)=some TypeDesc.string:=zA4 _ (a:=P) rfl (by simp only[hu];rfl)
   unfold Builtin.len_
   exact zA4 _ (a:=TypeDesc.string) hun rfl
 ·rfl
def pnl (d:Option AV)(u:AV):Option AV:=match u with
 | .sc (.slice none _ _)=>some (.sc (.bool true))
 | _=>d
theorem ze8 (d:Option AV)(n c:Nat):pnl d (.sc (.slice none n c))=some (.sc (.bool true)):=rfl
theorem pNil {ty e:TypeId}(hu:P.underlying ty=some (.slice e))(yt r:TypeId)(x:Operand):zB9 P t (mkO (.binOp .eql ty x (.const (.slice none 0 0)) yt) r)=pnl (zDJ P t (mkO (.binOp .eql ty x (.const (.slice none 0 0)) yt) r)) (zA5 t x):=by
 unfold pnl
 split
 ·rename_i n c hx
  have hc:zA5 t (.const (.slice none 0 0)) = .sc (.slice none 0 0):=rfl
  refine zCR ?_ ?_
  ·simp [mkO,Op.operands,hx,zAZ,hc]
  ·simp only[execOp,mkO,hx,zAZ,Option.getD_some,hc]
   refine zA4 _ (zA4 _ (a:=()) rfl (b:=.bool true) ?_) rfl
   unfold binOp
   refine zA4 _ (a:=true) ?_ rfl
   unfold Op.equal Op.maxDepth Op.equalIn
   refine zA4 _ (a:=TypeDesc.slice e) (zA4 _ (a:=P) rfl (by simp only[hu];rfl)) ?_
   rfl
 ·rfl
variable {rd : Option Nat}
def St (b:List AV)(l:List (Nat × AV)):List AV:=l.foldr (fun p t=>zCF p.2 t p.1) b
def lk:List (Nat × AV)->Nat->AV->AV
 | [],_,d=>d
 | (i,v)::l,j,d=>match Nat.beq i j with | true=>v | false=>lk l j d
theorem zT6 (v:AV)(t:List AV)(i:Nat):(zCF v t i).length=t.length:=by rw[zCT];simp
theorem zN0 (b:List AV)(l:List (Nat × AV)):(St b l).length=b.length:=by
 induction l with
 | nil=>rfl
 | cons p l ih=>show (zCF p.2 (St b l) p.1).length=_;rw[zT6,ih]
theorem zdL (t:List AV)(v:AV)(i j:Nat)(hj:j<t.length):nth zA3 (zCF v t i) j=if i=j then v else nth zA3 t j:=by
 rw[zG2,zG2,zCT,List.getElem?_set]
 by_cases e:i=j
 ·subst e;simp [hj]
 ·simp [e]
theorem zaW (b:List AV)(l:List (Nat × AV))(j:Nat)(hj:j<b.length):nth zA3 (St b l) j=lk l j (nth zA3 b j):=by
 induction l with
 | nil=>rfl
 | cons p l ih =>
  obtain⟨i,v⟩:=p
  show nth zA3 (zCF v (St b l) i) j=_
  rw[zdL _ _ _ _ (by rw[zN0];exact hj),ih]
  by_cases e:i=j
  ·subst e;simp [lk]
  ·rw[if_neg e]
   have:Nat.beq i j=false:=by
    cases hb:Nat.beq i j with
    | false=>rfl
    | true=>exact absurd (Nat.eq_of_beq_eq_true hb) e
   simp only[lk,this]
theorem zcN (b:List AV)(l:List (Nat × AV))(j:Nat)(hj:j<b.length):zA5 (St b l) (.tmp j)=lk l j (nth zA3 b j):=zaW b l j hj
theorem eval_const (t:List AV)(v:Value):zA5 t (.const v) = .sc v:=rfl
theorem eval_func (t:List AV)(f:FuncId):zA5 t (.func f) = .fn f [] []:=rfl
theorem zhP (b:List AV)(l:List (Nat × AV))(d:Nat)(v:AV):putA (St b l) (some d) v=St b ((d,v)::l):=rfl
theorem zaA (t:List AV)(v:AV):putA t none v=t:=rfl
theorem zgK (j:Nat)(d:AV):lk [] j d=d:=rfl
theorem zdF (i j:Nat)(v d:AV)(l:List (Nat × AV)):lk ((i,v)::l) j d=if i=j then v else lk l j d:=by
 by_cases h:i=j
 ·subst h;simp [lk]
 ·have:Nat.beq i j=false:=by
   cases hb:Nat.beq i j with
   | false=>rfl
   | true=>exact absurd (Nat.eq_of_beq_eq_true hb) h
  simp only[lk,this,if_neg h]
def Wf (M:Mem):Prop:=M.t.length=M.size
def Mem.add (M:Mem)(o:AObj):Mem:=⟨M.t++[o],M.size+1,M.wm,M.dirty⟩
def Mem.upd (M:Mem)(i:Nat)(o:AObj):Mem:=⟨List.set M.t i o,M.size,M.wm,M.dirty || Nat.blt i M.wm⟩
theorem Wf.mem0:Wf mem0:=rfl
theorem Wf.add {M:Mem}(h:Wf M)(o:AObj):Wf (M.add o):=by unfold Wf at *;simp [Mem.add,h]
theorem Wf.upd {M:Mem}(h:Wf M)(i:Nat)(o:AObj):Wf (M.upd i o):=by unfold Wf at *;simp [Mem.upd,h]
theorem zA2 (M:Mem)(o:AObj):(M.add o).size=M.size+1:=Eq.trans rfl rfl
theorem zA7 (M:Mem)(i:Nat)(o:AObj):(M.upd i o).size=M.size:=Eq.trans rfl rfl
theorem zAH:mem0.size=0:=Eq.trans rfl rfl
theorem zfD (M:Mem)(o:AObj):(M.add o).wm=M.wm:=rfl
theorem zi1 (M:Mem)(i:Nat)(o:AObj):(M.upd i o).wm=M.wm:=rfl
theorem zCA {M:Mem}(h:Wf M)(o:AObj):M.new o=some (M.size,M.add o):=by
 unfold Mem.new
 rw[T.set_eq,if_neg (by rw[h];omega),if_pos h.symm]
 rfl
theorem zBM {M:Mem}(h:Wf M){i:Nat}(hi:i<M.size)(o:AObj):M.put i o=some (M.upd i o):=by
 unfold Mem.put
 rw[(zAJ _ _).2 hi,T.set_eq,if_pos (by rw[h];exact hi)]
 rfl
theorem zHI {M:Mem}(h:Wf M)(i:Nat):M.get i=M.t[i]? := by
 unfold Mem.get
 cases hb:Nat.blt i M.size with
 | true=>exact T.get_eq _ _
 | false =>
  have:=(zCE _ _).1 hb
  rw[List.getElem?_eq_none (by rw[h];omega)]
theorem zAE {M:Mem}(h:Wf M)(o:AObj)(i:Nat)(h1:M.size<=i)(h2:i<M.size+1):(M.add o).get i=some o:=by
 have hi:i=M.size:=by omega
 rw[zHI (h.add o)];subst hi;show (M.t++[o])[M.size]? = _;rw[<- h];simp
theorem zAA {M:Mem}(h:Wf M)(o:AObj)(i:Nat)(hi:i<M.size):(M.add o).get i=M.get i:=by
 rw[zHI (h.add o),zHI h];show (M.t++[o])[i]? = _;rw[List.getElem?_append_left (by rw[h];exact hi)]
theorem zAC {M:Mem}(h:Wf M)(o:AObj)(i:Nat)(hi:i<M.size):(M.upd i o).get i=some o:=by
 rw[zHI (h.upd i o)];show (List.set M.t i o)[i]? = _;rw[List.getElem?_set_self (by rw[h];exact hi)]
theorem zA0 {M:Mem}(h:Wf M)(o:AObj)(i j:Nat)(hi:i≠j):(M.upd i o).get j=M.get j:=by
 rw[zHI (h.upd i o),zHI h];show (List.set M.t i o)[j]? = _;rw[List.getElem?_set_ne hi]
def W (x:Option (AExit × Fr × Mem))(Q:AExit->Fr->Mem->Prop):Prop:=∃ e t M,x=some (e,t,M)/\Q e t M
def nxt (K:Fr->Mem->Option (AExit × Fr × Mem))(Q:AExit->Fr->Mem->Prop):AExit->Fr->Mem->Prop
 | .normal,t,M=>W (K t M) Q
 | e,t,M=>Q e t M
theorem zSY (K:Fr->Mem->Option (AExit × Fr × Mem))(Q:AExit->Fr->Mem->Prop)(t:Fr)(M:Mem):nxt K Q .normal t M=W (K t M) Q:=rfl
theorem zdN (K:Fr->Mem->Option (AExit × Fr × Mem))(Q:AExit->Fr->Mem->Prop)(t:Fr)(M:Mem):nxt K Q .ret t M=Q .ret t M:=rfl
theorem zZL (K:Fr->Mem->Option (AExit × Fr × Mem))(Q:AExit->Fr->Mem->Prop)(i:Nat)(t:Fr)(M:Mem):nxt K Q (.exit i) t M=Q (.exit i) t M:=rfl
def blk (id:Nat)(Q:AExit->Fr->Mem->Prop):AExit->Fr->Mem->Prop
 | .exit i,t,M=>match Nat.beq i id with | true=>Q .normal t M | false=>Q (.exit i) t M
 | e,t,M=>Q e t M
theorem zS3 (id:Nat)(Q:AExit->Fr->Mem->Prop)(t:Fr)(M:Mem):blk id Q .normal t M=Q .normal t M:=rfl
theorem zc8 (id:Nat)(Q:AExit->Fr->Mem->Prop)(t:Fr)(M:Mem):blk id Q .ret t M=Q .ret t M:=rfl
theorem zXX (id i:Nat)(Q:AExit->Fr->Mem->Prop)(t:Fr)(M:Mem):blk id Q (.exit i) t M=(match Nat.beq i id with | true=>Q .normal t M | false=>Q (.exit i) t M):=rfl
theorem zEN (e:AExit)(t:Fr)(M:Mem)(Q:AExit->Fr->Mem->Prop):W (some (e,t,M)) Q=Q e t M:=by
 apply propext;constructor
 ·rintro⟨e,t,M,h,k⟩;cases h;exact k
 ·exact fun h=>⟨e,t,M,rfl,h⟩
theorem zi9 (t:Fr)(M:Mem)(Q:AExit->Fr->Mem->Prop):W (zA8 P fuel call rd .skip t M) Q=Q .normal t M:=zEN ..
theorem zeY (t:Fr)(M:Mem)(Q:AExit->Fr->Mem->Prop):W (zA8 P fuel call rd .label t M) Q=Q .normal t M:=zEN ..
theorem w_ret (t:Fr)(M:Mem)(Q:AExit->Fr->Mem->Prop):W (zA8 P fuel call rd .ret t M) Q=Q .ret t M:=zEN ..
theorem zi7 (i:Nat)(t:Fr)(M:Mem)(Q:AExit->Fr->Mem->Prop):W (zA8 P fuel call rd (.exit i) t M) Q=Q (.exit i) t M:=zEN ..
theorem zf2 (b:ACode)(t:Fr)(M:Mem)(Q:AExit->Fr->Mem->Prop):W (zA8 P fuel call rd (.scope b) t M) Q=W (zA8 P fuel call rd b t M) Q:=by simp only[zA8]
theorem w_seq (a b:ACode)(t:Fr)(M:Mem)(Q:AExit->Fr->Mem->Prop):W (zA8 P fuel call rd (.seq a b) t M) Q=W (zA8 P fuel call rd a t M) (nxt (zA8 P fuel call rd b) Q):=by
 apply propext
 simp only[zA8]
 generalize zA8 P fuel call rd a t M=r
 match r with
 | none=>constructor <;> rintro⟨_,_,_,h,_⟩ <;> cases h
 | some (.normal,t,M)=>simp only[zEN,nxt]
 | some (.exit i,t,M)=>simp only[zEN,nxt]
 | some (.ret,t,M)=>simp only[zEN,nxt]
theorem zeW (id:Nat)(b:ACode)(t:Fr)(M:Mem)(Q:AExit->Fr->Mem->Prop):W (zA8 P fuel call rd (.block id b) t M) Q=W (zA8 P fuel call rd b t M) (blk id Q):=by
 apply propext
 simp only[zA8]
 generalize zA8 P fuel call rd b t M=r
 match r with
 | none=>constructor <;> rintro⟨_,_,_,h,_⟩ <;> cases h
 | some (.normal,t,M)=>simp only[zEN,blk]
 | some (.exit i,t,M)=>simp only[zEN,blk];cases Nat.beq i id <;> simp only[zEN]
 | some (.ret,t,M)=>simp only[zEN,blk]
theorem zeZ (b:ACode)(t:Fr)(M:Mem)(Q:AExit->Fr->Mem->Prop):W (zA8 P fuel call rd (.loop b) t M) Q=W (iter (zA8 P fuel call rd b) fuel t M) Q:=by simp only[zA8]
theorem zbY (Q:AExit->Fr->Mem->Prop):W none Q=False:=by
 apply propext;constructor
 ·rintro⟨_,_,_,h,_⟩;cases h
 ·exact fun h=>h.elim
def cnd (P:Program)(fuel:Nat)(call:Tg->List AV->Mem->Option (AV × Mem))(rd:Option Nat)(c:AV)(a b:ACode)(t:Fr)(M:Mem)(Q:AExit->Fr->Mem->Prop):Prop:=match c with
 | .sc (.bool true)=>W (zA8 P fuel call rd a t M) Q
 | .sc (.bool false)=>W (zA8 P fuel call rd b t M) Q
 | _=>False
theorem zY7 (a b:ACode)(t:Fr)(M:Mem)(Q:AExit->Fr->Mem->Prop):cnd P fuel call rd (.sc (.bool true)) a b t M Q=W (zA8 P fuel call rd a t M) Q:=rfl
theorem zU7 (a b:ACode)(t:Fr)(M:Mem)(Q:AExit->Fr->Mem->Prop):cnd P fuel call rd (.sc (.bool false)) a b t M Q=W (zA8 P fuel call rd b t M) Q:=rfl
theorem zDM {c:Bool}{a b:ACode}{t:Fr}{M:Mem}{Q:AExit->Fr->Mem->Prop}(h1:c=true->W (zA8 P fuel call rd a t M) Q)(h2:c=false->W (zA8 P fuel call rd b t M) Q):cnd P fuel call rd (.sc (.bool c)) a b t M Q:=by
 cases c with
 | true=>exact h1 rfl
 | false=>exact h2 rfl
theorem zi5 (c:Operand)(a b:ACode)(t:Fr)(M:Mem)(Q:AExit->Fr->Mem->Prop):W (zA8 P fuel call rd (.cond c a b) t M) Q=cnd P fuel call rd (zA5 t.t c) a b t M Q:=by
 simp only[zA8]
 generalize zA5 t.t c=v
 cases v with
 | sc u =>
  cases u with
  | bool b=>cases b <;> rfl
  | _=>exact zbY ..
 | _=>exact zbY ..
def W2 (x:Option (List AV × Mem))(Q:List AV->Mem->Prop):Prop:=∃ t M,x=some (t,M)/\Q t M
def W3 (x:Option (AV × Mem))(Q:AV->Mem->Prop):Prop:=∃ v M,x=some (v,M)/\Q v M
theorem zHR (v:AV)(M:Mem)(Q:AV->Mem->Prop):W3 (some (v,M)) Q=Q v M:=by
 apply propext;constructor
 ·rintro⟨v,M,h,k⟩;cases h;exact k
 ·exact fun h=>⟨v,M,rfl,h⟩
theorem zMW (t:List AV)(M:Mem)(Q:List AV->Mem->Prop):W2 (some (t,M)) Q=Q t M:=by
 apply propext;constructor
 ·rintro⟨v,M,h,k⟩;cases h;exact k
 ·exact fun h=>⟨t,M,rfl,h⟩
def kR (mk:List Nat)(Q:AExit->Fr->Mem->Prop)(t:List AV)(M:Mem):Prop:=Q .normal ⟨t,mk⟩ M
def kO (P:Program)(call:Tg->List AV->Mem->Option (AV × Mem))(d:Option Nat)(rest:List AOper)(t:List AV)(Q:List AV->Mem->Prop)(v:AV)(M:Mem):Prop:=W2 (zAR P call rest (putA t d v) M) Q
theorem w3_kO (d:Option Nat)(rest:List AOper)(t:List AV)(Q:List AV->Mem->Prop)(v:AV)(M:Mem):W3 (some (v,M)) (kO P call d rest t Q)=W2 (zAR P call rest (putA t d v) M) Q:=zHR ..
theorem zgG (d:Option Nat)(rest:List AOper)(t:List AV)(Q:List AV->Mem->Prop)(v:AV)(M:Mem):kO P call d rest t Q v M=W2 (zAR P call rest (putA t d v) M) Q:=rfl
theorem zaS (ops:List AOper)(t:List AV)(mk:List Nat)(M:Mem)(Q:AExit->Fr->Mem->Prop) :
  W (zA8 P fuel call rd (.region ops false) ⟨t,mk⟩ M) Q=W2 (zAR P call ops t M) (kR mk Q):=by
 simp only[zA8]
 apply propext
 match zAR P call ops t M with
 | none=>exact⟨fun⟨_,_,_,h,_⟩=>(by cases h),fun⟨_,_,h,_⟩=>(by cases h)⟩
 | some (t,M)=>simp only[zEN,zMW,kR]
theorem zX6 (t:List AV)(mk:List Nat)(M:Mem)(Q:AExit->Fr->Mem->Prop):W2 (zAR P call [] t M) (kR mk Q)=Q .normal ⟨t,mk⟩ M:=zMW ..
theorem w_ops (d:Option Nat)(op:AOp)(un:List Nat)(rest:List AOper)(t:List AV)(M:Mem)(Q:List AV->Mem->Prop) :
  W2 (zAR P call (⟨d,op,none,un⟩::rest) t M) Q=(zCD M.size (zAQ t op)=true/\W3 (zA6 P call t M op) (kO P call d rest t Q)):=by
 apply propext
 simp only[zAR,zBQ]
 cases zCD M.size (zAQ t op) with
 | false=>simp [W2]
 | true =>
  match zA6 P call t M op with
  | none=>exact⟨fun⟨_,_,h,_⟩=>(by cases h),fun⟨_,_,_,h,_⟩=>(by cases h)⟩
  | some (v,M)=>simp [zHR,kO]
def grd (P:Program)(call:Tg->List AV->Mem->Option (AV × Mem))(c:AV)(want:Bool)(d:Option Nat)(op:AOp)(un:List Nat)(rest:List AOper)(t:List AV)(M:Mem)(Q:List AV->Mem->Prop):Prop :=
 match (match c with | .sc (.bool b)=>b == want | _=>false) with
 | true=>W2 (zAR P call (⟨d,op,none,un⟩::rest) t M) Q
 | false=>W2 (zAR P call rest (putA t d zA3) M) Q
section
variable (d : Option Nat) (op : AOp) (un : List Nat) (rest : List AOper) (t : List AV) (M : Mem) (Q : List AV -> Mem -> Prop)
theorem zg4:grd P call (.sc (.bool true)) true d op un rest t M Q=W2 (zAR P call (⟨d,op,none,un⟩::rest) t M) Q:=rfl
theorem zg1:grd P call (.sc (.bool false)) false d op un rest t M Q=W2 (zAR P call (⟨d,op,none,un⟩::rest) t M) Q:=rfl
theorem zg3:grd P call (.sc (.bool true)) false d op un rest t M Q=W2 (zAR P call rest (putA t d zA3) M) Q:=rfl
theorem zg2:grd P call (.sc (.bool false)) true d op un rest t M Q=W2 (zAR P call rest (putA t d zA3) M) Q:=rfl
theorem zUX (want:Bool):grd P call zA3 want d op un rest t M Q=W2 (zAR P call rest (putA t d zA3) M) Q:=rfl
theorem zDB {c want:Bool}(h1:c=want->W2 (zAR P call (⟨d,op,none,un⟩::rest) t M) Q)(h2:c = !want->W2 (zAR P call rest (putA t d zA3) M) Q):grd P call (.sc (.bool c)) want d op un rest t M Q:=by
 cases c <;> cases want
 ·exact h1 rfl
 ·exact h2 rfl
 ·exact h2 rfl
 ·exact h1 rfl
theorem zi8 (g:Nat)(want:Bool) :
  W2 (zAR P call (⟨d,op,some (g,want),un⟩::rest) t M) Q=grd P call (nth zA3 t g) want d op un rest t M Q:=by
 have key:∀ b,zBQ t (some (g,want))=b->W2 (zAR P call (⟨d,op,some (g,want),un⟩::rest) t M) Q=(match b with | true=>W2 (zAR P call (⟨d,op,none,un⟩::rest) t M) Q | false=>(W2 (zAR P call rest (putA t d zA3) M) Q)):=fun b hb=>by
  apply propext
  simp only[zAR,hb]
  cases b with
  | false=>exact Iff.rfl
  | true=>simp only[zBQ]
 rw[key (match nth zA3 t g with | .sc (.bool b)=>b == want | _=>false) rfl]
 rfl
end
theorem zDU (M:Mem)(o:AObj):Wf (M.add o)=Wf M:=by unfold Wf;simp [Mem.add]
theorem zEO (M:Mem)(i:Nat)(o:AObj):Wf (M.upd i o)=Wf M:=by unfold Wf;simp [Mem.upd]
theorem zD2:Wf mem0=True:=eq_true rfl
section
variable (t : List AV) (M : Mem)
abbrev OR:=Option (AV × Mem)
def ze7 (M:Mem)(c a b:AV):OR:=match c with
 | .sc (.bool true)=>some (a,M)
 | .sc (.bool false)=>some (b,M)
 | _=>none
theorem zhN (a b:AV):ze7 M (.sc (.bool true)) a b=some (a,M):=rfl
theorem zhM (a b:AV):ze7 M (.sc (.bool false)) a b=some (b,M):=rfl
theorem x_mov (x:Operand):zA6 P call t M (.mov x)=some (zA5 t x,M):=rfl
theorem ziF (c a b:Operand):zA6 P call t M (.pick c a b)=ze7 M (zA5 t c) (zA5 t a) (zA5 t b):=rfl
theorem zf5 (e:TypeId)(z:Value)(h:Wf M):zA6 P call t M (.alloc e z)=some (.ptr M.size 0,M.add (.row false (scs z))):=by simp only[zA6,zCA h]
theorem x_box (e:TypeId)(x:Operand)(h:Wf M):zA6 P call t M (.box e x)=some (.ptr M.size 0,M.add (.row false (cellsA (zA5 t x)))):=by simp only[zA6,zCA h]
theorem zXB (z:Value)(ps:List (Nat × Nat × Operand)):zA6 P call t M (.build z ps)=(match zAB t (scs z) ps with | some cs=>some (.agg cs,M) | none=>none):=rfl
theorem x_bsl (e:TypeId)(st:Nat)(z:Value)(len:Nat)(ps:List (Nat × Nat × Operand))(h:Wf M):zA6 P call t M (.bsl e st z len ps)=(match zAB t (zA9 z len) ps with | some cs=>some (.sl M.size 0 len (some len) st,M.add (.row false cs)) | none=>none):=by
 simp only[zA6,zCA h]
 rfl
def ldO (M:Mem)(n:Nat)(ag:Bool)(x:AV):OR:=match x with
 | .ptr id off=>match M.rd id with
  | some cs=>match part cs off n ag with
   | some v=>some (v,M)
   | none=>none
  | none=>none
 | .cp cs off=>match part cs off n ag with
  | some v=>some (v,M)
  | none=>none
 | _=>none
theorem ziD (n:Nat)(ag:Bool)(x:Operand):zA6 P call t M (.load n ag x)=ldO M n ag (zA5 t x):=rfl
theorem ld_cp (cs:List AV)(n off:Nat)(ag:Bool):ldO M n ag (.cp cs off)=(match part cs off n ag with
   | some v=>some (v,M)
   | none=>none):=rfl
def stO (M:Mem)(n:Nat)(x:AV)(new:List AV):OR:=match x with
 | .ptr id off=>match M.get id with
  | some (.row str cs)=>match Nat.beq new.length n&&Nat.ble (off+n) cs.length&&new.all oneA with
   | true=>match M.put id (.row str (lay cs off new)) with
    | some M=>some (zA3,M)
    | none=>none
   | false=>none
  | _=>none
 | _=>none
theorem zf9 (n:Nat)(x v:Operand):zA6 P call t M (.store n x v)=stO M n (zA5 t x) (cellsA (zA5 t v)):=by
 simp only[zA6,stO]
 cases zA5 t x <;> rfl
def zNU (M:Mem)(x:AV):OR:=match x with
  | .ptr id off=>some (.ptr id off,M)
  | .cp cs off=>some (.cp cs off,M)
  | .fn f a b=>some (.fn f a b,M)
  | .yl id=>some (.yl id,M)
  | _=>none
theorem zf8 (x:Operand):zA6 P call t M (.nilck x)=zNU M (zA5 t x):=rfl
theorem zVL (id off:Nat):zNU M (.ptr id off)=some (.ptr id off,M):=rfl
theorem zZG (cs:List AV)(off:Nat):zNU M (.cp cs off)=some (.cp cs off,M):=rfl
theorem zZH (f:FuncId)(a b:List AV):zNU M (.fn f a b)=some (.fn f a b,M):=rfl
theorem zZI (id:Nat):zNU M (.yl id)=some (.yl id,M):=rfl
theorem x_pur (o:Oper):zA6 P call t M (.pur o)=(match zB9 P t o with
  | some v=>some (v,M)
  | none=>none):=rfl
def zIW (M:Mem)(neg:Bool)(k:Nat)(x:AV)(d:Option AV):OR:=match x with
  | .sc _=>match d with
   | some v=>some (v,M)
   | none=>none
  | .ptr .. => match Nat.beq k 0 with | true=>some (.sc (.bool neg),M) | false=>none
  | .cp .. => match Nat.beq k 0 with | true=>some (.sc (.bool neg),M) | false=>none
  | .pv .. => match Nat.beq k 1 with | true=>some (.sc (.bool neg),M) | false=>none
  | .sl .. => match Nat.beq k 1 with | true=>some (.sc (.bool neg),M) | false=>none
  | .mp _=>match Nat.beq k 2 with | true=>some (.sc (.bool neg),M) | false=>none
  | .fn .. | .yl _=>match Nat.beq k 3 with | true=>some (.sc (.bool neg),M) | false=>none
  | _=>none
theorem zf7 (neg:Bool)(k:Nat)(x:Operand)(o:Oper):zA6 P call t M (.eqnil neg k x o)=zIW M neg k (zA5 t x) (zB9 P t o):=by
 simp only[zA6,zIW]
 cases zA5 t x <;> rfl
theorem zYG (neg:Bool)(k:Nat)(v:Value)(d:Option AV):zIW M neg k (.sc v) d=(match d with | some v=>some (v,M) | none=>none):=rfl
theorem zYF (neg:Bool)(cs:List AV)(n st:Nat)(cap:Option Nat)(d:Option AV):zIW M neg 1 (.pv cs n cap st) d=some (.sc (.bool neg),M):=rfl
theorem zYH (neg:Bool)(id off n st:Nat)(cap:Option Nat)(d:Option AV):zIW M neg 1 (.sl id off n cap st) d=some (.sc (.bool neg),M):=rfl
theorem zUI (neg:Bool)(id off:Nat)(d:Option AV):zIW M neg 0 (.ptr id off) d=some (.sc (.bool neg),M):=rfl
theorem zYE (neg:Bool)(cs:List AV)(off:Nat)(d:Option AV):zIW M neg 0 (.cp cs off) d=some (.sc (.bool neg),M):=rfl
def bnd (y:Nat)(x:Option AV)(d:Nat):Option Nat:=match x with
 | none=>some d
 | some (.sc (.int _ i))=>match i with
   | .ofNat n=>match Nat.ble n y with | true=>some n | false=>none
   | _=>none
 | _=>none
theorem zXY (y:Nat)(x:Option Operand)(d:Nat):bound t y x d=bnd y (x.map (zA5 t)) d:=by
 cases x with
 | none=>rfl
 | some x =>
  simp only[bound,bnd,Option.map_some]
  cases zA5 t x with
  | sc v=>cases v <;> rfl
  | _=>rfl
theorem zI7 (y d:Nat):bnd y none d=some d:=rfl
theorem zL5 (y n d:Nat)(k:IntKind)(h:n<=y):bnd y (some (.sc (.int k (n:Int)))) d=some n:=by
 show (match Nat.ble n y with | true=>some n | false=>none)=_
 rw[Nat.ble_eq_true_of_le h]
def slcO (M:Mem)(st:Nat)(x:AV)(lo hi mx:Option AV):OR:=match x with
  | .sc (.slice none 0 0)=>match bnd 0 mx 0,bnd 0 hi 0,bnd 0 lo 0 with
   | some 0,some 0,some 0=>some (.sc (.slice none 0 0),M)
   | _,_,_=>none
  | .sl id off len cap st' =>
   match Nat.beq st st',cap with
   | true,some c =>
    match bnd c mx c with
    | some m=>match bnd m hi len with
     | some h=>match bnd h lo 0 with
      | some l=>some (.sl id (match Nat.beq m l with | true=>off | false=>off+l*st) (h - l) (some (m - l)) st,M)
      | none=>none
     | none=>none
    | none=>none
   | true,none=>match M.rd id with
    | some cs =>
     let av:=(cs.length - off) / st
     match mx with
     | none=>match bnd av hi len with
      | some h=>match bnd h lo 0 with
       | some l=>some (.sl id (off+l*st) (h - l) none st,M)
       | none=>none
      | none=>none
     | some m=>match bnd av (some m) 0 with
      | some m=>match bnd m hi len with
       | some h=>match bnd h lo 0 with
        | some l=>some (.sl id (match Nat.beq m l with | true=>off | false=>off+l*st) (h - l) (some (m - l)) st,M)
        | none=>none
       | none=>none
      | none=>none
    | none=>none
   | _,_=>none
  | .pv cs len cap st'=>match Nat.beq st st' with
   | true=>match mx with
    | none=>match bnd len hi len with
     | some h=>match bnd h lo 0 with
      | some l=>some (.pv (slot cs (l*st) ((h - l)*st)) (h - l) (zIP cap l) st,M)
      | none=>none
     | none=>none
    | some m=>match bnd len (some m) 0 with
     | some m=>match bnd m hi len with
      | some h=>match bnd h lo 0 with
       | some l=>some (.pv (slot cs (l*st) ((h - l)*st)) (h - l) (some (m - l)) st,M)
       | none=>none
      | none=>none
     | none=>none
   | false=>none
  | _=>none
theorem x_slc (st:Nat)(x:Operand)(lo hi mx:Option Operand):zA6 P call t M (.slc st x lo hi mx)=slcO M st (zA5 t x) (lo.map (zA5 t)) (hi.map (zA5 t)) (mx.map (zA5 t)):=by
 unfold zA6 slcO
 simp only[zXY]
 cases mx <;> rfl
def lenO (M:Mem)(x:AV):OR:=match x with
  | .sc (.slice none n _)=>some (.sc (goInt n),M)
  | .sl _ _ n _ _=>some (.sc (goInt n),M)
  | .pv _ n _ _=>some (.sc (goInt n),M)
  | _=>none
theorem x_len (x:Operand):zA6 P call t M (.len x)=lenO M (zA5 t x):=rfl
theorem len_nil:lenO M (.sc (.slice none 0 0))=some (.sc (.int .i64 0),M):=rfl
theorem zbO (id off n st:Nat)(cap:Option Nat):lenO M (.sl id off n cap st)=some (.sc (.int .i64 n),M):=rfl
theorem zbN (cs:List AV)(n st:Nat)(cap:Option Nat):lenO M (.pv cs n cap st)=some (.sc (.int .i64 n),M):=rfl
def fadO (M:Mem)(off:Nat)(x:AV):OR:=match x with
  | .ptr id o=>some (.ptr id (o+off),M)
  | .cp cs o=>some (.cp cs (o+off),M)
  | _=>none
theorem x_fad (off:Nat)(x:Operand):zA6 P call t M (.fad off x)=fadO M off (zA5 t x):=rfl
theorem zcO (off id o:Nat):fadO M off (.ptr id o)=some (.ptr id (o+off),M):=rfl
theorem zfQ (off o:Nat)(cs:List AV):fadO M off (.cp cs o)=some (.cp cs (o+off),M):=rfl
def fldO (M:Mem)(off n:Nat)(ag:Bool)(x:AV):OR:=match x with
  | .agg l=>match part l off n ag with | some v=>some (v,M) | none=>none
  | .sc (.agg cs)=>match part (cs.toList.map .sc) off n ag with | some v=>some (v,M) | none=>none
  | _=>none
theorem x_fld (off n:Nat)(ag:Bool)(x:Operand):zA6 P call t M (.fld off n ag x)=fldO M off n ag (zA5 t x):=rfl
theorem zcR (off n:Nat)(ag:Bool)(l:List AV):fldO M off n ag (.agg l)=(match part l off n ag with | some v=>some (v,M) | none=>none):=rfl
def iadO (M:Mem)(st:Nat)(x:AV)(i:Option Nat):OR:=match x,i with
  | .sl id off len _ st',some n=>match Nat.beq st st'&&Nat.blt n len with
   | true=>some (.ptr id (off+n*st),M)
   | false=>none
  | .pv cs len _ st',some n=>match Nat.beq st st'&&Nat.blt n len with
   | true=>some (.cp (slot cs (n*st) st) 0,M)
   | false=>none
  | _,_=>none
theorem x_iad (st:Nat)(x i:Operand):zA6 P call t M (.iad st x i)=iadO M st (zA5 t x) (zCL (zA5 t i)):=rfl
theorem x_ext (x:Operand)(i:Nat):zA6 P call t M (.ext x i)=(match zA5 t x with
  | .tup l=>match l[i]? with | some v=>some (v,M) | none=>none
  | .sc (.tuple vs)=>match vs[i]? with | some v=>some (.sc v,M) | none=>none
  | _=>none):=rfl
theorem ziC (f:Operand)(args:List Operand):zA6 P call t M (.call f args)=(match zA5 t f with
  | .fn g first cap=>call (.fn g) (first++args.map (zA5 t)++cap) M
  | .yl id=>call (.yl id) (args.map (zA5 t)) M
  | _=>none):=rfl
theorem ziE (f:FuncId)(a b:List Operand):zA6 P call t M (.mkfn f a b)=some (.fn f (a.map (zA5 t)) (b.map (zA5 t)),M):=rfl
theorem zeG (cs:Array Value):scs (.agg cs)=cs.toList.map .sc:=rfl
theorem zeH (k:IntKind)(n:Int):scs (.int k n)=[.sc (.int k n)]:=rfl
theorem zaF (b:Bool):scs (.bool b)=[.sc (.bool b)]:=rfl
theorem zT4 (b:ByteArray):scs (.string b)=[.sc (.string b)]:=rfl
theorem zWJ (a:Option Addr)(n c:Nat):scs (.slice a n c)=[.sc (.slice a n c)]:=rfl
theorem zeI (a:Option Addr):scs (.pointer a)=[.sc (.pointer a)]:=rfl
theorem zU0 (l:List AV):cellsA (.agg l)=l:=rfl
theorem zU1 (k:IntKind)(n:Int):cellsA (.sc (.int k n))=[.sc (.int k n)]:=rfl
theorem zS5 (b:Bool):cellsA (.sc (.bool b))=[.sc (.bool b)]:=rfl
theorem zN4 (b:ByteArray):cellsA (.sc (.string b))=[.sc (.string b)]:=rfl
theorem zOO (a:Option Addr)(n c:Nat):cellsA (.sc (.slice a n c))=[.sc (.slice a n c)]:=rfl
theorem zL8 (a:Option Addr):cellsA (.sc (.pointer a))=[.sc (.pointer a)]:=rfl
theorem zU2 (id off:Nat):cellsA (.ptr id off)=[.ptr id off]:=rfl
theorem zY4 (id off n st:Nat)(cap:Option Nat):cellsA (.sl id off n cap st)=[.sl id off n cap st]:=rfl
theorem zY3 (cs:List AV)(n st:Nat)(cap:Option Nat):cellsA (.pv cs n cap st)=[.pv cs n cap st]:=rfl
theorem zY1 (cs:List AV)(n:Nat):cellsA (.cp cs n)=[.cp cs n]:=rfl
theorem zY2 (f:FuncId)(a b:List AV):cellsA (.fn f a b)=[.fn f a b]:=rfl
theorem zF0 {a b:Nat}(h:a<b):Nat.blt a b=true:=(zAJ _ _).2 h
theorem zBW {a b:Nat}(h:a<=b):Nat.ble a b=true:=Nat.ble_eq_true_of_le h
theorem zVJ (k:IntKind)(n:Nat):zCL (.sc (.int k (n:Int)))=some n:=rfl
theorem zRE (cs:List AV)(off:Nat):part cs off 1 false=cs[off]? := by
 unfold part
 by_cases hl:off<cs.length
 ·rw[Nat.ble_eq_true_of_le (show off+1<=cs.length by omega)]
  simp only[slot]
  rw[List.drop_eq_getElem_cons hl,List.take_succ_cons,List.take_zero,List.getElem?_eq_getElem hl]
 ·rw[List.getElem?_eq_none (by omega)]
  cases hb:Nat.ble (off+1) cs.length with
  | false=>rfl
  | true=>have:=Nat.le_of_ble_eq_true hb;omega
theorem zPL (cs:List AV)(off n:Nat)(h:off+n<=cs.length):part cs off n true=some (.agg (slot cs off n)):=by
 unfold part
 rw[Nat.ble_eq_true_of_le h]
theorem zC0 (cs:List AV)(n:Nat)(h:n=cs.length):slot cs 0 n=cs:=by subst h;simp [slot]
def st2 (M:Mem)(id off n:Nat)(new:List AV)(r:Option AObj):OR:=match r with
  | some (.row str cs)=>match Nat.beq new.length n&&Nat.ble (off+n) cs.length&&new.all oneA with
   | true=>match M.put id (.row str (lay cs off new)) with
    | some M=>some (zA3,M)
    | none=>none
   | false=>none
  | _=>none
theorem zeO (n id off:Nat)(new:List AV):stO M n (.ptr id off) new=st2 M id off n new (M.get id):=rfl
theorem zeN (id off n:Nat)(new cs:List AV)(str:Bool)(h1:new.length=n)(h2:off+n<=cs.length)(h3:new.all oneA=true)(h4:id<M.size)(h5:Wf M) :
  st2 M id off n new (some (.row str cs))=some (zA3,M.upd id (.row str (lay cs off new))):=by
 unfold st2
 simp only[h1,h3,Nat.ble_eq_true_of_le h2,Nat.beq_refl,zBM h5 h4,Bool.and_self]
def ld2 (M:Mem)(n off:Nat)(ag:Bool)(r:Option AObj):OR:=match r with
  | some (.row _ cs)=>match part cs off n ag with
   | some v=>some (v,M)
   | none=>none
  | some (.fro cs)=>match part cs off n ag with
   | some v=>some (v,M)
   | none=>none
  | _=>none
theorem zdE (n id off:Nat)(ag:Bool):ldO M n ag (.ptr id off)=ld2 M n off ag (M.get id):=by
 simp only[ldO,ld2,Mem.rd]
 cases M.get id with
 | none=>rfl
 | some o=>cases o <;> rfl
theorem zdD (n off:Nat)(ag str:Bool)(cs:List AV):ld2 M n off ag (some (.row str cs))=(match part cs off n ag with
   | some v=>some (v,M)
   | none=>none):=rfl
theorem zdC (n off:Nat)(ag:Bool)(cs:List AV):ld2 M n off ag (some (.fro cs))=(match part cs off n ag with
   | some v=>some (v,M)
   | none=>none):=rfl
def rd1 (r:Option AObj):Option (List AV):=match r with
 | some (.row _ cs)=>some cs
 | some (.fro cs)=>some cs
 | _=>none
theorem zB0 (id:Nat):M.rd id=rd1 (M.get id):=rfl
theorem zeC (str:Bool)(cs:List AV):rd1 (some (.row str cs))=some cs:=rfl
theorem zWA (cs:List AV):rd1 (some (.fro cs))=some cs:=rfl
theorem zBN (k:IntKind)(n:Int):oneA (.sc (.int k n))=true:=rfl
theorem zBH (b:Bool):oneA (.sc (.bool b))=true:=rfl
theorem zAY (b:ByteArray):oneA (.sc (.string b))=true:=rfl
theorem zB7 (a:Option Addr)(n c:Nat):oneA (.sc (.slice a n c))=true:=rfl
theorem zBO (a:Option Addr):oneA (.sc (.pointer a))=true:=rfl
theorem zD0 (id off:Nat):oneA (.ptr id off)=true:=rfl
theorem zEI (id off n st:Nat)(cap:Option Nat):oneA (.sl id off n cap st)=true:=rfl
theorem zEH (cs:List AV)(n st:Nat)(cap:Option Nat):oneA (.pv cs n cap st)=true:=rfl
theorem zEF (cs:List AV)(n:Nat):oneA (.cp cs n)=true:=rfl
theorem zEG (f:FuncId)(a b:List AV):oneA (.fn f a b)=true:=rfl
end
section
variable {M : Mem} {m k : Nat}
theorem zFY (v:Value)(hk:0<k):frz M m k (.sc v)=some (.sc v):=by
 exact zE06
theorem zfT (cs:List AV)(n st:Nat)(cap:Option Nat)(hk:0<k):frz M m k (.pv cs n cap st)=some (.pv cs n cap st):=by
 exact zE06
theorem zfS (cs:List AV)(n:Nat)(hk:0<k):frz M m k (.cp cs n)=some (.cp cs n):=by
 exact zE06
theorem zcV (l:List AV)(hk:0<k):frz M m k (.agg l)=(match frzL (frz M m (k - 1)) l with | some r=>some (.agg r) | none=>none):=by
 exact zE06
theorem zcX (l:List AV)(hk:0<k):frz M m k (.tup l)=(match frzL (frz M m (k - 1)) l with | some r=>some (.tup r) | none=>none):=by
 exact zE06
theorem zb4 (f:FuncId)(a b:List AV)(hk:0<k):frz M m k (.fn f a b)=(match frzL (frz M m (k - 1)) a with | some a=>(match frzL (frz M m (k - 1)) b with | some b=>some (.fn f a b) | none=>none) | none=>none):=by
 exact zE06
theorem zKE {id off n st:Nat}{cap:Option Nat}{cs:List AV}(hg:M.rd id=some cs)(hl:off+n*st<=cs.length)(hk:0<k)(hc:∀ x∈cs,frz M 0 (k - 1) x=some x):frz M 0 k (.sl id off n cap st)=some (.pv (slot cs off (n*st)) n cap st):=by
 obtain⟨k,rfl⟩:∃ j,k=j+1:=⟨k - 1,by omega⟩
 have:frzL (frz M 0 k) cs=some cs:=by
  have hc:∀ x∈cs,frz M 0 k x=some x:=hc
  rename_i h'
  clear hg hl h'
  induction cs with
  | nil=>rfl
  | cons x cs ih=>simp only[frzL,hc x (by simp),ih (fun y hy=>hc y (by simp [hy]))]
 simp only[frz,hg,Nat.ble_eq_true_of_le hl,this,Nat.ble_eq_true_of_le (Nat.zero_le id)]
end
section
variable {M : Mem} {k : Nat}
theorem zQV (v:Value)(hk:0<k):icy k M (.sc v)=some (.sc v,M):=by
 exact zE06
theorem zg9 (cs:List AV)(n st:Nat)(cap:Option Nat)(hk:0<k):icy k M (.pv cs n cap st)=some (.pv cs n cap st,M):=by
 exact zE06
theorem zg8 (cs:List AV)(n:Nat)(hk:0<k):icy k M (.cp cs n)=some (.cp cs n,M):=by
 exact zE06
theorem zP6 (l:List AV)(hk:0<k):icy k M (.agg l)=(match icyL (icy (k - 1)) M l with | some (r,M)=>some (.agg r,M) | none=>none):=by
 exact zE06
theorem zd6 (l:List AV)(hk:0<k):icy k M (.tup l)=(match icyL (icy (k - 1)) M l with | some (r,M)=>some (.tup r,M) | none=>none):=by
 exact zE06
theorem zb8 (f:FuncId)(a b:List AV)(hk:0<k):icy k M (.fn f a b)=(match icyL (icy (k - 1)) M a with | some (a,M)=>(match icyL (icy (k - 1)) M b with | some (b,M)=>some (.fn f a b,M) | none=>none) | none=>none):=by
 exact zE06
end
inductive All2 {α β:Type} (T:α->β->Prop):List α->List β->Prop
 | nil:All2 T [] []
 | cons {x:α} {y:β} {l:List α} {m:List β}:T x y->All2 T l m->All2 T (x::l) (y::m)
namespace All2
variable {α β : Type} {T : α -> β -> Prop}
theorem length_eq:∀ {l:List α} {m:List β},All2 T l m->l.length=m.length
 | _,_,.nil=>rfl
 | _,_,.cons _ h=>by simp [h.length_eq]
theorem get:∀ {l:List α} {m:List β},All2 T l m -> ∀ {i:Nat} (h1:i<l.length) (h2:i<m.length),T l[i] m[i]
 | _,_,.nil,_,h,_=>by simp at h
 | _,_,.cons a _,0,_,_=>a
 | _,_,.cons _ b,i+1,h1,h2=>by simpa using b.get (i:=i) (by simpa using h1) (by simpa using h2)
theorem append:∀ {l:List α} {m:List β} {l':List α} {m':List β},All2 T l m->All2 T l' m'->All2 T (l++l') (m++m')
 | _,_,_,_,.nil,h=>h
 | _,_,_,_,.cons a b,h => .cons a (b.append h)
theorem take:∀ (n:Nat) {l:List α} {m:List β},All2 T l m->All2 T (l.take n) (m.take n)
 | 0,_,_,_=>by simpa using All2.nil
 | _+1,_,_,.nil=>by simpa using All2.nil
 | n+1,_,_,.cons a b => .cons a (b.take n)
theorem drop:∀ (n:Nat) {l:List α} {m:List β},All2 T l m->All2 T (l.drop n) (m.drop n)
 | 0,_,_,h=>h
 | _+1,_,_,.nil => .nil
 | n+1,_,_,.cons _ b=>b.drop n
theorem mono {T':α->β->Prop}(k:∀ x y,T x y->T' x y):∀ {l:List α} {m:List β},All2 T l m->All2 T' l m
 | _,_,.nil => .nil
 | _,_,.cons a b => .cons (k _ _ a) (b.mono k)
theorem set:∀ {l:List α} {m:List β},All2 T l m -> ∀ {i:Nat} (h:i<m.length) {x:α},T x m[i]->All2 T (l.set i x) m
 | _,_,.nil,_,h,_,_=>by simp at h
 | _,_,.cons a b,0,_,_,k => .cons k b
 | _,_,.cons a b,i+1,h,_,k => .cons a (b.set (i:=i) (by simpa using h) (by simpa using k))
end All2
def Sl {α:Type}(st:Nat)(T:List AV->α->Prop)(a:AV)(l:List α):Prop :=
 (a = .sc (.slice none 0 0)/\l=[]) ∨ ∃ (rows:List (List AV)) (cap:Option Nat),a = .pv rows.flatten rows.length cap st/\All2 T rows l /\ ∀ r∈rows,r.length=st
section
variable {α : Type} {st : Nat} {T : List AV -> α -> Prop} {a : AV} {l : List α}
theorem Sl.one (h:Sl st T a l):oneA a=true:=by rcases h with⟨rfl,_⟩ | ⟨_,_,rfl,_⟩ <;> rfl
theorem Sl.cells (h:Sl st T a l):cellsA a=[a]:=by rcases h with⟨rfl,_⟩ | ⟨_,_,rfl,_⟩ <;> rfl
theorem Sl.frz (h:Sl st T a l)(M:Mem)(m k:Nat)(hk:0<k):frz M m k a=some a:=by
 obtain⟨k,rfl⟩:∃ j,k=j+1:=⟨k - 1,by omega⟩
 rcases h with⟨rfl,_⟩ | ⟨_,_,rfl,_⟩ <;> rfl
theorem Sl.icy (h:Sl st T a l)(M:Mem)(k:Nat)(hk:0<k):icy k M a=some (a,M):=by
 obtain⟨k,rfl⟩:∃ j,k=j+1:=⟨k - 1,by omega⟩
 rcases h with⟨rfl,_⟩ | ⟨_,_,rfl,_⟩ <;> rfl
theorem Sl.rows (h:Sl st T a l)(M:Mem):rowsOf a=[]:=by rcases h with⟨rfl,_⟩ | ⟨_,_,rfl,_⟩ <;> rfl
theorem Sl.len (h:Sl st T a l)(M:Mem):lenO M a=some (.sc (.int .i64 l.length),M):=by
 rcases h with⟨rfl,rfl⟩ | ⟨rows,cap,rfl,h,_⟩
 ·rfl
 ·rw[zbN,h.length_eq]
theorem zIX:∀ {rows:List (List AV)} {st:Nat},(∀ r∈rows,r.length=st) -> ∀ (i:Nat) (r:List AV),rows[i]? = some r->slot rows.flatten (i*st) st=r
 | [],_,_,_,_,h=>by simp at h
 | x::rows,st,hl,0,r,h=>by
  simp at h;subst h
  have:=hl x (by simp)
  simp [slot,<- this]
 | x::rows,st,hl,i+1,r,h=>by
  have hx:=hl x (by simp)
  have:=zIX (rows:=rows) (fun r hr=>hl r (by simp [hr])) i r (by simpa using h)
  unfold slot at *
  rw[List.flatten_cons,Nat.succ_mul,Nat.add_comm,<- List.drop_drop,<- hx,List.drop_left]
  rw[hx]
  exact this
theorem Sl.iad (h:Sl st T a l)(i:Nat)(hi:i<l.length):∃ r,(∀ M,iadO M st a (some i)=some (.cp r 0,M))/\T r l[i]/\r.length=st:=by
 rcases h with⟨rfl,rfl⟩ | ⟨rows,cap,rfl,h,hl⟩
 ·simp at hi
 ·have hr:i<rows.length:=by rw[h.length_eq];exact hi
  refine⟨rows[i],fun M=>?_,h.get hr hi,hl _ (List.getElem_mem hr)⟩
  simp only[iadO,Nat.beq_refl,zF0 hr,Bool.and_self]
  rw[zIX hl i rows[i] (List.getElem?_eq_getElem hr)]
end
def fin (rs:List ARes)(K:AV->Prop):AExit->Fr->Mem->Prop
 | .exit _,_,_=>False
 | _,fr,M=>match zF3 fr.marks M with
  | some M=>match zAI fr.t M rs with
   | some vs=>match frzL (frz M 0 12) vs with
    | some ws=>K (zC6 ws)
    | none=>False
   | none=>False
  | none=>False
theorem zcP (rs:List ARes)(K:AV->Prop)(t:List AV)(M:Mem):fin rs K .ret ⟨t,[]⟩ M=(match zAI t M rs with
   | some vs=>match frzL (frz M 0 12) vs with
    | some ws=>K (zC6 ws)
    | none=>False
   | none=>False):=rfl
theorem zSK (rs:List ARes)(K:AV->Prop)(t:List AV)(M:Mem):fin rs K .normal ⟨t,[]⟩ M=(match zAI t M rs with
   | some vs=>match frzL (frz M 0 12) vs with
    | some ws=>K (zC6 ws)
    | none=>False
   | none=>False):=rfl
def fin0 (rs:List ARes)(K:AV->Mem->Prop):AExit->Fr->Mem->Prop
 | .exit _,_,_=>False
 | _,fr,M=>match zF3 fr.marks M with
  | some M=>match zAI fr.t M rs with
   | some vs=>K (zC6 vs) M
   | none=>False
  | none=>False
theorem zYK (rs:List ARes)(K:AV->Mem->Prop)(t:List AV)(M:Mem):fin0 rs K .ret ⟨t,[]⟩ M=(match zAI t M rs with
   | some vs=>K (zC6 vs) M
   | none=>False):=rfl
theorem zP3 (rs:List ARes)(K:AV->Mem->Prop)(t:List AV)(M:Mem):fin0 rs K .normal ⟨t,[]⟩ M=(match zAI t M rs with
   | some vs=>K (zC6 vs) M
   | none=>False):=rfl
theorem zPI {l:List AV}{k i:Nat}{x:AV}(h:l[i]? = some x):nth zA3 (l++List.replicate k zA3) i=x:=by
 rw[zG2,List.getElem?_append_left (List.getElem?_eq_some_iff.1 h).1,h];rfl
theorem zAD {f:Nat}{af:AFunc}(h:fs f=some af)(hg:af.gc=1){n:Nat}{args:List AV}{M:Mem}{Q:AV->Mem->Prop}(hz:icyL (icy 12) M args=some (args,M))(hl:args.length<=af.ntmps)
  (hb:∀ b:List AV,b.length=af.ntmps->(∀ (i:Nat) (x:AV),args[i]? = some x->nth zA3 b i=x)->W (zA8 P fuel (zAF P fs fuel n) none af.body ⟨St b [],[]⟩ mem0) (fin af.results (fun r=>Q r M))) :
  W3 (zAF P fs fuel (n+1) (.fn f) args M) Q:=by
 obtain⟨e,fr,M',he,hq⟩:=hb (args++List.replicate (af.ntmps - args.length) zA3) (by simp;omega) (fun i x hx=>zPI hx)
 have he:zA8 P fuel (zAF P fs fuel n) none af.body ⟨args++List.replicate (af.ntmps - args.length) zA3,[]⟩ mem0=some (e,fr,M'):=he
 have key:∀ e,(∀ i,e ≠ .exit i)->fin af.results (fun r=>Q r M) e fr M' -> ∃ M2 vs ws,zF3 fr.marks M'=some M2/\zAI fr.t M2 af.results=some vs/\frzL (frz M2 0 12) vs=some ws/\Q (zC6 ws) M:=by
  exact zE0c
 have hne:∀ i,e ≠ .exit i:=fun i hi=>by subst hi;exact hq
 obtain⟨M2,vs,ws,h2,h3,h4,h5⟩:=key e hne hq
 refine⟨zC6 ws,M, ?_,h5⟩
 simp only[zAF,h,hg,hz,he]
 cases e with
 | exit i=>exact absurd rfl (hne i)
 | _=>simp only[h2,h3,h4,zM3]
theorem zAT {f:Nat}{af:AFunc}(h:fs f=some af)(hg:af.gc=0){n:Nat}{args:List AV}{M:Mem}{Q:AV->Mem->Prop}(hl:args.length<=af.ntmps)
  (hb:∀ b:List AV,b.length=af.ntmps->(∀ (i:Nat) (x:AV),args[i]? = some x->nth zA3 b i=x)->W (zA8 P fuel (zAF P fs fuel n) none af.body ⟨St b [],[]⟩ M) (fin0 af.results Q)) :
  W3 (zAF P fs fuel (n+1) (.fn f) args M) Q:=by
 obtain⟨e,fr,M',he,hq⟩:=hb (args++List.replicate (af.ntmps - args.length) zA3) (by simp;omega) (fun i x hx=>zPI hx)
 have he:zA8 P fuel (zAF P fs fuel n) none af.body ⟨args++List.replicate (af.ntmps - args.length) zA3,[]⟩ M=some (e,fr,M'):=he
 have key:∀ e,(∀ i,e ≠ .exit i)->fin0 af.results Q e fr M' -> ∃ M2 vs,zF3 fr.marks M'=some M2/\zAI fr.t M2 af.results=some vs/\Q (zC6 vs) M2:=by
  intro e hne hq
  unfold fin0 at hq
  split at hq
  ·exact hq.elim
  ·split at hq
   ·rename_i M2 h2
    split at hq
    ·rename_i vs h3
     exact⟨M2,vs,h2,h3,hq⟩
    ·exact hq.elim
   ·exact hq.elim
 have hne:∀ i,e ≠ .exit i:=fun i hi=>by subst hi;exact hq
 obtain⟨M2,vs,h2,h3,h5⟩:=key e hne hq
 refine⟨zC6 vs,M2, ?_,h5⟩
 simp only[zAF,h,hg,he]
 cases e with
 | exit i=>exact absurd rfl (hne i)
 | _=>simp only[h2,h3]
def lp (L:Nat)(mk:List Nat)(J:List AV->Mem->Prop)(Q:AExit->Fr->Mem->Prop):AExit->Fr->Mem->Prop
 | .normal,fr,M=>fr.t.length=L/\fr.marks=mk/\J fr.t M
 | e,fr,M=>Q e fr M
theorem zVG (L:Nat)(mk mk':List Nat)(J:List AV->Mem->Prop)(Q:AExit->Fr->Mem->Prop)(t:List AV)(M:Mem):lp L mk J Q .normal ⟨t,mk'⟩ M=(t.length=L/\mk'=mk/\J t M):=rfl
theorem zgL (L:Nat)(mk:List Nat)(J:List AV->Mem->Prop)(Q:AExit->Fr->Mem->Prop)(t:Fr)(M:Mem):lp L mk J Q .ret t M=Q .ret t M:=rfl
theorem zdH (L:Nat)(mk:List Nat)(J:List AV->Mem->Prop)(Q:AExit->Fr->Mem->Prop)(i:Nat)(t:Fr)(M:Mem):lp L mk J Q (.exit i) t M=Q (.exit i) t M:=rfl
theorem zBB {body:ACode}(I:Nat->List AV->Mem->Prop){b:List AV}{l:List (Nat × AV)}{mk:List Nat}{M:Mem}{Q:AExit->Fr->Mem->Prop}{n:Nat}(hn:n<fuel)(h0:I n (St b l) M)
  (step:∀ n t M,t.length=b.length->I n t M->W (zA8 P fuel call rd body ⟨St t [],mk⟩ M) (lp b.length mk (fun t M => ∃ m,m<n/\I m t M) Q)) :
  W (iter (zA8 P fuel call rd body) fuel ⟨St b l,mk⟩ M) Q:=by
 have gen:∀ fuel' n t M,n<fuel'->t.length=b.length->I n t M->W (iter (zA8 P fuel call rd body) fuel' ⟨t,mk⟩ M) Q:=by
  intro fuel'
  induction fuel' with
  | zero=>intro n t M h;omega
  | succ k ih =>
   intro n t M hk ht hi
   obtain⟨e,fr,M',he,hq⟩:=step n t M ht hi
   have he:zA8 P fuel call rd body ⟨t,mk⟩ M=some (e,fr,M'):=he
   unfold iter
   rw[he]
   cases e with
   | normal =>
    obtain⟨h1,h2,m,h3,h4⟩:=hq
    obtain⟨t',mk'⟩:=fr
    subst h2
    exact ih m t' M' (by omega) h1 h4
   | exit i=>exact⟨_,_,_,rfl,hq⟩
   | ret=>exact⟨_,_,_,rfl,hq⟩
 exact gen fuel n (St b l) M hn (zN0 b l) h0
theorem zf0 {body:ACode}{t:Fr}{M:Mem}{Q:AExit->Fr->Mem->Prop}(hn:0<fuel)(h:W (zA8 P fuel call rd body t M) (fun e t M=>match e with | .normal=>False | e=>Q e t M)):W (iter (zA8 P fuel call rd body) fuel t M) Q:=by
 obtain⟨k,rfl⟩:∃ k,fuel=k+1:=⟨fuel - 1,by omega⟩
 obtain⟨e,fr,M',he,hq⟩:=h
 unfold iter
 rw[he]
 cases e with
 | normal=>exact hq.elim
 | exit i=>exact⟨_,_,_,rfl,hq⟩
 | ret=>exact⟨_,_,_,rfl,hq⟩
theorem zeV {f:Tg}{args:List AV}{M:Mem}{Q R:AV->Mem->Prop}{n:Nat}(h:W3 (zAF P fs fuel n f args M) R)(k:∀ r M,R r M->Q r M):W3 (zAF P fs fuel n f args M) Q :=
 let ⟨v,M',h1,h2⟩:=h; ⟨v,M',h1,k _ _ h2⟩
theorem zB1 {f:Tg}{args:List AV}{M M':Mem}{r:AV}{n:Nat}(h:W3 (zAF P fs fuel n f args M) (fun r' N=>r'=r/\N=M')):zAF P fs fuel n f args M=some (r,M'):=by
 obtain⟨v,N,h1,h2,h3⟩:=h
 rw[h1,h2,h3]
def fsT (l:List (Option AFunc)):Nat->Option AFunc:=fun f=>nth none l f
def clr:Option AFunc->Option AFunc
 | some af=>some { af with gc:=0 }
 | none=>none
def zEU (P:Program):Nat->Nat->List (Option AFunc)
 | 0,_=>[]
 | n+1,i=>fsOf P i::zEU P n (i+1)
theorem zK1 (P:Program):∀ (n i j:Nat) (x:AFunc),nth none (zEU P n i) j=some x->fsOf P (i+j)=some x
 | 0,_,_,_,h=>by simp [zEU,nth] at h
 | n+1,i,0,x,h=>h
 | n+1,i,j+1,x,h=>by
  have:=zK1 P n (i+1) j x h
  rwa [show i+1+j=i+(j+1) by omega] at this
end Go.Ax
