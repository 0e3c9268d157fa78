/-
 The executor on abstract memory, part 7: what it is, and that what it finds is so of the program.
-/
import Derived.Test.YtbdmmdjomdmicaaGreatEf
set_option linter.unusedSimpArgs false
set_option linter.unusedVariables false
set_option linter.unusedSectionVars false
namespace Go.Ax
open Go
variable {P : Program} {Γ : Glob}
def zJ8 (P : Program) : Prop := ∀ g fn, P.funcs[g]? = some fn → fn.body = none → (fn.origin == "slices.overlaps") = true →
 ∃ tS tR,fn.params = #[tS,tS] ∧ ∀ args w,(callFunc g args).run P w=((Extern.SlicesOverlaps.overlaps #[tS,tS] #[tR] args).run P w).andThen fun v w' => .ok (.value v) w'
theorem zO3 (hov:zJ8 P)(o:Oper):∀ (call:Tg→List AV→Mem→Option (AV × Mem)) (st:Nat) (x y:Operand),zAI P o = .ovl st x y →
  ∀ (t:List AV) (M:Mem) (r:AV) (M':Mem) (μ:Inj) (w:World) (a:Act),RelOn Γ P (· < M.size) μ M.get w→(∀ q∈o.op.operands,VRel μ (zA2 t q) (a.eval q)) →
   zA1 P call t M (.ovl st x y)=some (r,M')→OpWp Γ P (· < M.size) (· < M.size) o a μ M w r M':=by
 intro call st x y hc t M r M' μ w a R H h
 obtain⟨c,g,fn,t',e,hop,hcal,hl,hf,hb,ho,hp,hu,hsz⟩:=zRV hc
 obtain⟨tS,tR,hpar,hcall⟩:=hov g fn hf hb ho
 have:t'=tS:=by rw[hpar] at hp;simpa using hp.symm
 subst this
 have Ha:∀ q∈c.args.toList,VRel μ (zA2 t q) (a.eval q):=fun q hq=>H q (by rw[hop];simp only[Op.operands,Call.operands];exact Array.mem_append_right _ (by simpa using hq))
 have Hx:=Ha x (by rw[hl];simp)
 have Hy:=Ha y (by rw[hl];simp)
 simp only[zA1] at h
 split at h
 ·rename_i i o1 l1 c1 s1 j o2 l2 c2 s2 hx hy
  cases hcond:(Nat.beq i j || Nat.beq l1 0 || Nat.beq l2 0 || Nat.beq st 0 || !(Nat.beq st s1) || !(Nat.beq st s2)) with
  | true=>rw[hcond] at h;cases h
  | false =>
   rw[hcond] at h
   simp only[Bool.or_eq_false_iff] at hcond
   obtain⟨⟨⟨⟨⟨n1,n2⟩,n3⟩,n4⟩,n5⟩,n6⟩:=hcond
   have n1:=Nat.ne_of_beq_eq_false n1
   have n2:=Nat.ne_of_beq_eq_false n2
   have n3:=Nat.ne_of_beq_eq_false n3
   have n4:=Nat.ne_of_beq_eq_false n4
   have n5:st=s1:=Nat.eq_of_beq_eq_true (by simpa using n5)
   have n6:st=s2:=Nat.eq_of_beq_eq_true (by simpa using n6)
   subst n5 n6
   simp only at h
   split at h
   ·rename_i cs cs' str' hi hj
    cases h
    rw[hx] at Hx
    rw[hy] at Hy
    generalize hvx:a.eval x=vx at Hx
    generalize hvy:a.eval y=vy at Hy
    cases Hx with
    | sl0 _ _=>omega
    | sl e1 k1 =>
     cases Hy with
     | sl0 _ _=>omega
     | sl e2 k2 =>
      rename_i ca p cb q
      obtain⟨ra,ea,fza,a1,a2,a3,a4,a5,a6,a7⟩:=row_of R (Mem.get_lt hi) e1 hi
      obtain⟨rb,eb,fzb,b1,b2,b3,b4,b5,b6,b7⟩:=row_of R (Mem.get_lt hj) e2 hj
      have hne:p.b≠q.b:=fun e=>n1 (R.ex i j p q (Mem.get_lt hi) (Mem.get_lt hj) e1 e2 (zB8 hi rfl) (zB8 hj rfl) e)
      have capa:l1≤ca∧p.o+o1+ca*st≤p.sz:=by
       cases c1 with
       | some _=>exact⟨k1.2.1,k1.2.2⟩
       | none=>exact⟨k1.1,k1.2.1⟩
      have capb:l2≤cb∧q.o+o2+cb*st≤q.sz:=by
       cases c2 with
       | some _=>exact⟨k2.2.1,k2.2.2⟩
       | none=>exact⟨k2.1,k2.2.1⟩
      have ha1:1*st≤ca*st:=zB0 (by omega)
      have hb1:1*st≤cb*st:=zB0 (by omega)
      have hsa:w.shape? p.b=some (ea,ra.size):=by simp [World.shape?,a1]
      have hsb:w.shape? q.b=some (eb,rb.size):=by simp [World.shape?,b1]
      have hfa:w.frozen? ⟨p.b,p.o+o1,none⟩=false:=by
       have:=a6 (p.o+o1) (by omega)
       simp only[World.frozen?,a1]
       simp only[Bool.and_eq_false_iff,decide_eq_false_iff_not]
       by_cases hx:fza.1≤p.o+o1
       ·exact .inr fun h=>this ⟨hx,h⟩
       ·exact .inl hx
      have hfe:w.frozen? { block:=p.b,off:=ra.size }=false:=by
       have:=a7 rfl
       simp only[World.frozen?,a1,a2]
       simp only[Bool.and_eq_false_iff,decide_eq_false_iff_not]
       by_cases hx:fza.1≤p.sz
       ·exact .inr fun h=>by omega
       ·exact .inl hx
      have hrun:(execOp a.eval o).run P w = .ok (.value (.bool false)) w:=by
       have hargs:c.args = #[x,y]:=zOA hl
       have hv:a.eval (.func g) = .func (.func g) #[] #[]:=rfl
       simp only[execOp,hop,resolve,hcal,hv,Deferred.ofValue,Sem.run_bind,Sem.run_pure,Result.andThen_ok,invoke]
       have e0:(#[]++c.args.map a.eval ++ #[]:Array Value) = #[a.eval x,a.eval y]:=by rw[hargs];simp
       rw[e0,hvx,hvy,hcall,Lib.run_overlaps_apart w t' tR e hu st (fun w=>run_sizeOf hsz) ⟨p.b,p.o+o1,none⟩ ⟨q.b,q.o+o2,none⟩ l1 ca l2 cb hne ea eb ra.size rb.size hsa hsb (by omega) hfa hfe]
       rfl
      intro F hF K Q hK
      refine⟨fun f _=>hF.fn f, ?_⟩
      rw[Oper.semAt_eq _ _ _ (fun c' e=>by rw[hop] at e;cases e),hrun]
      exact hK (.bool false) w μ (Res.val R (.sc _))
   ·cases h
 ·cases h
def zBQ (P:Program):Code→Bool
 | .region _ ops _=>ops.all fun o=>match zAI P o with
  | .ins .. => false
  | _=>true
 | .seq a b=>zBQ P a&&zBQ P b
 | .cond _ a b=>zBQ P a&&zBQ P b
 | .block _ b=>zBQ P b
 | .loop b=>zBQ P b
 | .scope b=>zBQ P b
 | _=>true
theorem zMK (hov:zJ8 P):∀ c,zBQ P c=true→zDV Γ P c:=by
 intro c
 induction c with
 | region id ops d =>
  intro h o ho
  simp only[zBQ] at h
  rw[Array.all_eq_true'] at h
  have:=h o ho
  refine⟨fun call hc g e st by' x i y e1=>?_,zO3 hov o⟩
  rw[e1] at this;cases this
 | seq a b iha ihb=>intro h;simp only[zBQ,Bool.and_eq_true] at h;exact⟨iha h.1,ihb h.2⟩
 | cond c a b iha ihb=>intro h;simp only[zBQ,Bool.and_eq_true] at h;exact⟨iha h.1,ihb h.2⟩
 | block id b ih=>exact ih
 | loop b ih=>exact ih
 | scope b ih=>exact ih
 | _=>intro _;trivial
def zGW (P : Program) : Prop := ∀ (g : FuncId) (fn : Func), P.funcs[g]? = some fn → (fn.origin == "slices.Insert") = true → ∀ (t e : TypeId) (ti : TypeInfo), fn.params[0]? = some t → P.underlying t = some (.slice e) → P.info? e = some ti →
 (fn.name == "runtime.NumGoroutine") = false ∧ (∀ c, fn.body = some c → zBQ P c = true) ∧
 ∃ O g' z tint tb,InsO O tint tb∧zC6 P fn=some { ntmps:=95,body:=insA O g' e ti.size ti.bytes z,results:=[.tmp 6] } ∧ ∀ q,(zA5 z q).all oneA=true∧(zA5 z q).length=q*ti.size
def zF3:Cl:=fun _ _ _=>none
theorem zKM:CallOK Γ P zF3:=⟨fun _ _ _ _ _ h=>(by cases h),fun _ _ _ _ _ h=>(by cases h),fun _ _ _ _ _ h=>(by cases h)⟩
theorem zKA {o:Oper}{g:FuncId}{e:TypeId}{st b:Nat}{x i y:Operand}(h:zAI P o = .ins g e st b x i y) :
  ∃ fn c t ti, o.op = .call c ∧ c.callee = .value (.func g) ∧ c.args.toList = [x, i, y] ∧ P.funcs[g]? = some fn ∧ (fn.origin == "slices.Insert") = true ∧ fn.params[0]? = some t ∧ P.underlying t = some (.slice e) ∧ P.info? e = some ti ∧ st = ti.size ∧ b = ti.bytes := by
 obtain⟨c,hc,hcal,hl⟩:=zR2 h
 obtain⟨fn,hf,ho⟩:=zMN h
 refine⟨fn,c, ?_⟩
 unfold zAI at h
 split at h
 ·exact zE06
 ·rename_i h0
  split at h
  ·rename_i c' hc'
   rw[hc] at hc';cases hc'
   split at h
   ·rename_i g' hcal'
    split at h
    ·cases h
     simp only[zA0,hc,hcal,hf,Option.bind_eq_bind,Option.bind_some] at h0
     cases hb:fn.body with
     | none => 
      exact zE03
     | some bd =>
      simp only[hb,ho,if_true] at h0
      split at h0
      ·rename_i x' i' y' t' hl' hp
       cases hu:P.underlying t' with
       | none=>simp [hu] at h0
       | some d =>
        simp only[hu,Option.bind_some] at h0
        split at h0
        ·rename_i e'
         cases hi:P.info? e' with
         | none=>simp [hi] at h0
         | some ti =>
          simp [hi] at h0
          obtain⟨rfl,rfl,rfl,_⟩:=h0
          exact⟨t',ti,hc,hcal,hl,hf,ho,hp,hu,hi,rfl,rfl⟩
        ·simp at h0
      ·simp at h0
    ·cases h
   ·cases h
  ·cases h
 ·exact zE0p
 ·rename_i hn1 hn2 hn3
  exact absurd (zEF h) (hn2 _ _ _ _ _ _ _)
theorem zDW {fn:Func}{c:Code}{g:FuncId}{O:Nat→Oper}{g':FuncId}{e:TypeId}{st by':Nat}{z:Value}(hf:P.funcs[g]? = some fn)(hb:fn.body=some c)(hins:zDV Γ P c)
  (hcomp:zC6 P fn=some { ntmps:=95,body:=insA O g' e st by' z,results:=[.tmp 6] }) {X I Y v:AV} {vx vi vy:Value} {μx:Inj} {Mx M2:Mem} {w:World} (R:RelOn Γ P (· < Mx.size) μx Mx.get w) (hX:VRel μx X vx) (hI:VRel μx I vi) (hY:VRel μx Y vy)
  (hfr:∀ i,Mx.size≤i→i<M2.size→μx i=none) (hrun:out6 (zA4 P 20000 zF3 none (insA O g' e st by' z) (fr0 X I Y) Mx)=some (.ret,v,[],M2)) {Q:Ending→World→Prop}
  (hQ:∀ u w2 μ2,Seg Γ P μx Mx w μ2 M2 w2→VRel μ2 v u→Q (.returned u) w2):CallsIn Fence.wide 0 P g #[vx,vi,vy] w Q:=by
 obtain⟨c',rs,hbody,hres,heq⟩:=zB7 hcomp
 rw[hb] at hbody;cases hbody
 have h1:fn.ntmps=95:=by have:=congrArg AFunc.ntmps heq;exact this.symm
 have h2:zA7 P c=insA O g' e st by' z:=by have:=congrArg AFunc.body heq;exact this.symm
 have h3:rs=[.tmp 6]:=by have:=congrArg AFunc.results heq;exact this.symm
 subst h3
 obtain⟨t2,hex,ht2⟩:=zKV hrun
 rw[← h2] at hex
 refine callsIn_of_wp_marks hf hb trivial ?_
 refine zHU zKM c hins none _ Mx .ret _ M2 hex μx Fence.wide _ w rfl R ?_ ⟨rfl,fun i d hi=>by simp [fr0] at hi⟩ hfr _ fun a1 w1 μ1 S T D=>?_
 ·show VRels _ _ _
  rw[Array.toList_append,Array.toList_replicate,h1]
  exact VRels.append (.cons hX (.cons hI (.cons hY .nil))) (.undefs _)
 ·have hd:a1.defers=[]:=List.eq_nil_of_length_eq_zero D.1
  obtain⟨u,hu,hur⟩:=zEK S.on T hres (show zAF t2 M2 [.tmp 6]=some [nth zA6 t2 6] from rfl)
  show LeavesInM Fence.wide 0 P fn a1.tmps Q a1.defers .returning w1
  rw[hd]
  refine⟨u,hu,hQ u w1 μ1 S ?_⟩
  rw[ht2] at hur
  exact hur
theorem zLK {l:List AV}(h:l.all oneA=true)(a b:Nat):(slot l a b).all oneA=true:=by
 rw[List.all_eq_true] at h ⊢
 intro x hx
 exact h x (List.drop_subset _ _ (List.take_subset _ _ hx))
theorem zC2 {l:List AV}{a b c d:Nat}(h:c+d≤b):slot (slot l a b) c d=slot l (a+c) d:=by
 unfold slot
 rw[List.drop_take,List.take_take,List.drop_drop,Nat.min_eq_left (by omega)]
theorem zLC {l:List AV}{a b c:Nat}(h:c≤b):(slot l a b).take c=slot l a c:=by
 unfold slot;rw[List.take_take,Nat.min_eq_left h]
theorem zLB {l:List AV}{a b c:Nat}:(slot l a b).drop c=slot l (a+c) (b - c):=by
 unfold slot;rw[List.drop_take,List.drop_drop]
theorem VRels.slot {μ:Inj}{cs:List AV}{vs:List Value}(h:VRels μ cs vs)(o n:Nat):VRels μ (Ax.slot cs o n) ((vs.drop o).take n):=(h.drop o).take n
theorem zGS {α:Type}(l:List α)(o:Nat):slot l o 0=[]:=by simp [slot]
theorem zLA {μ:Inj}{id off n st:Nat}{cap:Option Nat}{v:Value}(h:VRel μ (.sl id off n cap st) v):∃ p,μ id=some p:=by
 cases h with
 | sl e _=>exact⟨_,e⟩
 | sl0 e _=>exact⟨_,e⟩
theorem zR1 (hov:zJ8 P)(hip:zGW P)(o:Oper):zFE Γ P o:=by
 refine⟨fun call hc g e st by' x i y ho t M r M' μ w a R H hfr h=>?_,zO3 hov o⟩
 obtain⟨fn,c,tt,ti,hop,hcal,hl,hf,horg,hp,hu,hi,rfl,rfl⟩:=zKA ho
 obtain⟨hname,hnoins,O,g',z,tint,tb,hO,hcomp,hz⟩:=hip g fn hf horg tt e ti hp hu hi
 have Ha:∀ q∈c.args.toList,VRel μ (zA2 t q) (a.eval q):=fun q hq=>H q (by rw[hop];simp only[Op.operands,Call.operands];exact Array.mem_append_right _ (by simpa using hq))
 have Hx:=Ha x (by rw[hl];simp)
 have Hi:=Ha i (by rw[hl];simp)
 have Hy:=Ha y (by rw[hl];simp)
 have hargs:c.args = #[x,i,y]:=by rw[← Array.toList_inj];exact hl
 obtain⟨cd,rs,hbody,_,_⟩:=zB7 hcomp
 have hInsIn:=zMK (Γ:=Γ) hov cd (hnoins cd hbody)
 -- from the call to the operation
 have wrap:CallsIn Fence.wide 0 P g #[a.eval x,a.eval i,a.eval y] w (zB4 Γ P μ M w r M')→OpWp Γ P (· < M.size) (· < M.size) o a μ M w r M':=by
  intro hcalls F hF K Q hK
  refine⟨fun f _=>hF.fn f, ?_⟩
  rw[Oper.semAt_eq _ _ _ (fun c' e=>by rw[hop] at e;cases e)]
  have hrun:(execOp a.eval o).run P w = .ok (.enter g #[a.eval x,a.eval i,a.eval y]) w:=by
   have hv:a.eval (.func g) = .func (.func g) #[] #[]:=rfl
   simp only[execOp,hop,resolve,hcal,hv,Deferred.ofValue,Sem.run_bind,Sem.run_pure,Result.andThen_ok,invoke]
   have e0:(#[]++c.args.map a.eval ++ #[]:Array Value) = #[a.eval x,a.eval i,a.eval y]:=by rw[hargs];simp
   rw[e0]
   simp [callFunc,go_sem,hf,hbody];simpa using hname
  rw[hrun]
  refine⟨(fun h=>by rw[hF.depth] at h;cases h), ?_⟩
  have k3:CallsIn F 0 P g #[a.eval x,a.eval i,a.eval y] w (zB4 Γ P μ M w r M'):=by rcases hF with rfl | ⟨l,rfl⟩ <;> exact hcalls
  exact zE0l
 simp only[zA1] at h
 split at h
 ·-- the executor's own way
  rename_i id off n st' hx
  split at h
  ·rename_i id2 off2 m cap2 st2 hy
   split at h
   ·rename_i new old ii str cs cs2 hnew hold hii hgx hgy
    cases hcond:(Nat.beq ti.size st'&&Nat.beq ti.size st2&&Nat.blt 0 m&&Nat.blt 0 ti.size&&Nat.ble ii n&&Nat.ble ((n+m)*ti.bytes) 140737488355328&&Nat.ble (n+m) 140737488355328 && !(Nat.beq id id2)&&Nat.ble M.size 140737488355328&&old.all oneA&&new.all oneA) with
    | false=>rw[hcond] at h;cases h
    | true =>
     rw[hcond] at h
     simp only at h
     simp only[Bool.and_eq_true] at hcond
     obtain⟨⟨⟨⟨⟨⟨⟨⟨⟨⟨c1,c2⟩,c3⟩,c4⟩,c5⟩,c6⟩,c7⟩,c8⟩,c9⟩,c10⟩,c11⟩:=hcond
     have c1:=Nat.eq_of_beq_eq_true c1
     have c2:=Nat.eq_of_beq_eq_true c2
     have c3:=(zAB _ _).1 c3
     have c4:=(zAB _ _).1 c4
     have c5:=Nat.le_of_ble_eq_true c5
     have c6:=Nat.le_of_ble_eq_true c6
     have c7:=Nat.le_of_ble_eq_true c7
     have c8:id≠id2:=Nat.ne_of_beq_eq_false (by simpa using c8)
     have c9:=Nat.le_of_ble_eq_true c9
     subst c1 c2
     have gid:=Mem.get_lt hgx
     have gid2:=Mem.get_lt hgy
     split at h
     ·rename_i M1 hput
      split at h
      ·rename_i k M2' hnewr
       cases h
       obtain⟨_,hszM1,hgetM1,_,_⟩:=Mem.put_spec hput
       obtain⟨rfl,hszM',_,_,_,_⟩:=Mem.new_spec hnewr
       have hfr0:μ M.size=none:=hfr M.size (Nat.le_refl _) (by omega)
       -- what is put,and what was there
       have hn2:off2+m*ti.size≤cs2.length∧new=slot cs2 off2 (m*ti.size):=by
        simp only[cellsOf,zBA hgy] at hnew
        split at hnew
        ·rename_i hb;exact⟨Nat.le_of_ble_eq_true hb,by cases hnew;rfl⟩
        ·cases hnew
       have hn1:off+n*ti.size≤cs.length∧old=slot cs off (n*ti.size):=by
        simp only[cellsOf,zBA hgx] at hold
        split at hold
        ·rename_i hb;exact⟨Nat.le_of_ble_eq_true hb,by cases hold;rfl⟩
        ·cases hold
       obtain⟨hl2,rfl⟩:=hn2
       obtain⟨hl1,rfl⟩:=hn1
       have hiv:zA2 t i = .sc (.int .i64 (ii:Int)):=by
        unfold zK8 at hii
        split at hii
        ·rename_i q hq;cases hii;exact hq
        ·cases hii
       rw[hx] at Hx
       rw[hy] at Hy
       rw[hiv] at Hi
       have hin:n*ti.size=ii*ti.size+(n - ii)*ti.size:=by rw[← Nat.add_mul];congr 1;omega
       have eT:(slot cs off (n*ti.size)).take (ii*ti.size)++slot cs2 off2 (m*ti.size)++(slot cs off (n*ti.size)).drop (ii*ti.size) =
         slot cs off (ii*ti.size)++(slot cs2 off2 (m*ti.size)++slot cs (off+ii*ti.size) ((n - ii)*ti.size)):=by
        rw[zLC (by omega),zLB,List.append_assoc]
        congr 4;omega
       rw[eT] at hnewr
       -- the rows in the world
       obtain⟨p,hp⟩:=zLA Hx
       obtain⟨py,hpy⟩:=zLA Hy
       obtain⟨hc0,he0,hfz,r1,r2,r3,r4,r5,r6,r7⟩:=row_of R gid hp hgx
       obtain⟨_,_,_,_,_,_,_,y5,_,_⟩:=row_of R gid2 hpy hgy
       have hT:=(r5.slot off (ii*ti.size)).append ((y5.slot off2 (m*ti.size)).append (r5.slot (off+ii*ti.size) ((n - ii)*ti.size)))
       have lA:(slot cs off (ii*ti.size)).length=ii*ti.size:=zAZ (by omega)
       have lN:(slot cs2 off2 (m*ti.size)).length=m*ti.size:=zAZ hl2
       have lT:(slot cs (off+ii*ti.size) ((n - ii)*ti.size)).length=(n - ii)*ti.size:=zAZ (by omega)
       have hTl:(slot cs off (ii*ti.size)++(slot cs2 off2 (m*ti.size)++slot cs (off+ii*ti.size) ((n - ii)*ti.size))).length=(n+m)*ti.size:=by
        simp only[List.length_append,lA,lN,lT]
        rw[Nat.add_mul];omega
       have oc:(slot cs (off+ii*ti.size) ((n - ii)*ti.size)).all oneA=true:=by
        have:=zLK c10 (ii*ti.size) ((n - ii)*ti.size)
        rwa [zC2 (by omega)] at this
       have hlive:live M.get id:=zB8 hgx rfl
       have hrm:Rm M:=Rm.of_new hgx hput hnewr
       refine wrap ?_
       -- the real capacity
       have hcap:∃ cc,n≤cc∧VRel μ (.sl id off n (some cc) ti.size) (a.eval x)∧(0<cc→a.eval x = .slice (some ⟨p.b,p.o+off,none⟩) n cc∧p.o+off+cc*ti.size≤p.sz):=by
        generalize a.eval x=vx at Hx
        cases Hx with
        | sl e k1 =>
         rename_i cc pp
         rw[hp] at e;cases e
         exact⟨cc,k1.1,.sl hp ⟨rfl,k1.1,k1.2.1⟩,fun _=>⟨rfl,k1.2.1⟩⟩
        | sl0 e k1 =>
         rename_i xx pp
         exact⟨0,Nat.le_refl _,.sl0 e rfl,fun h=>by omega⟩
       obtain⟨cc,hncc,hXr,hXv⟩:=hcap
       by_cases hroom:n+m≤cc
       ·-- in place
        obtain⟨hvx,hpsz⟩:=hXv (by omega)
        have hcapn:n*ti.size≤cc*ti.size:=zB0 hncc
        have hcc:cc*ti.size=n*ti.size+(cc - n)*ti.size:=by rw[← Nat.add_mul];congr 1;omega
        obtain⟨ext,hext⟩:∃ ext,ext=((hc0.toList.drop (p.o+off+n*ti.size)).take ((cc - n)*ti.size)):=⟨_,rfl⟩
        have lext:ext.length=(cc - n)*ti.size:=by rw[hext];simp;omega
        have l0:(slot cs off (n*ti.size)).length=n*ti.size:=zAZ hl1
        have hcl:(slot cs off (n*ti.size)++ext.map AV.sc).length=cc*ti.size:=by rw[List.length_append,List.length_map,l0,lext];omega
        obtain⟨Mx,hMx⟩:=Mem.new_ok (M:=M1) (hrm.put hput) (.row str (slot cs off (n*ti.size)++ext.map AV.sc))
        have hok:zCK P μ (.row str (slot cs off (n*ti.size)++ext.map AV.sc)) ⟨p.b,p.o+off,cc*ti.size,p.sz⟩ w:=by
         refine⟨hc0,he0,hfz,r1,r2,hcl,hpsz, ?_,r6,r7⟩
         show VRels μ _ ((hc0.toList.drop (p.o+off)).take (cc*ti.size))
         rw[hcc,List.take_add,List.drop_drop]
         refine VRels.append ?_ (hext ▸ VRels.scs _)
         have:=r5.slot off (n*ti.size)
         rw[List.drop_take,List.take_take,List.drop_drop,Nat.min_eq_left (by omega)] at this
         exact this
        have hres:=Res.move (W:=(· < M.size)) (D:=(· < M.size)) (P:=P) (r:=zA6) (v:=undef) hput hMx hfr0 hp gid gid R hlive ⟨p.b,p.o+off,cc*ti.size,p.sz⟩ (.inl ⟨rfl,rfl⟩) (fun _ _ _=>rfl) rfl rfl rfl (hok.mono (Inj.le_upd hfr0) rfl) (.sc _)
        have Rx:RelOn Γ P (· < Mx.size) (μ.upd M.size ⟨p.b,p.o+off,cc*ti.size,p.sz⟩) Mx.get w:=Res.step (W:=fun _=>True) hres
        have hMx':=hMx
        obtain⟨hk1,hszx,holdx,hnewx,_,_⟩:=Mem.new_spec hMx
        rw[hszM1] at hMx hszx holdx hnewx
        have lex:=Inj.le_upd (p:=(⟨p.b,p.o+off,cc*ti.size,p.sz⟩:Pl)) hfr0
        have hXx:VRel (μ.upd M.size ⟨p.b,p.o+off,cc*ti.size,p.sz⟩) (.sl M.size 0 n (some cc) ti.size) (a.eval x):=by
         rw[hvx]
         exact .sl (p:=⟨p.b,p.o+off,cc*ti.size,p.sz⟩) (off:=0) (Inj.upd_same ..) ⟨rfl,hncc,hpsz⟩
        have hg2x:Mx.get id2=some (.row false cs2):=by rw[holdx _ gid2,hgetM1,if_neg (fun e=>c8 e.symm),hgy]
        have s1:slot (slot cs off (n*ti.size)++ext.map AV.sc) 0 (n*ti.size)=slot cs off (n*ti.size):=by
         show List.take (n*ti.size) (List.drop 0 (slot cs off (n*ti.size)++ext.map AV.sc))=_
         rw[List.drop_zero,List.take_left' l0]
        have s2:slot (slot cs off (n*ti.size)++ext.map AV.sc) 0 (ii*ti.size)=slot cs off (ii*ti.size):=by
         have:slot (slot (slot cs off (n*ti.size)++ext.map AV.sc) 0 (n*ti.size)) 0 (ii*ti.size)=slot (slot cs off (n*ti.size)++ext.map AV.sc) 0 (ii*ti.size):=by rw[zC2 (by omega)]
         rw[← this,s1,zC2 (by omega)];rfl
        have s3:slot (slot cs off (n*ti.size)++ext.map AV.sc) (ii*ti.size) ((n - ii)*ti.size)=slot cs (off+ii*ti.size) ((n - ii)*ti.size):=by
         have:slot (slot (slot cs off (n*ti.size)++ext.map AV.sc) 0 (n*ti.size)) (ii*ti.size) ((n - ii)*ti.size)=slot (slot cs off (n*ti.size)++ext.map AV.sc) (ii*ti.size) ((n - ii)*ti.size):=by rw[zC2 (by omega),Nat.zero_add]
         rw[← this,s1,zC2 (by omega)]
        have H:InsHyp Mx M.size id2 off2 n m cc ii ti.size ti.bytes str (slot cs off (n*ti.size)++ext.map AV.sc) cs2 :=
         ⟨hnewx,hg2x,hcl,hl2,hncc,c5,c3,c4,by omega,c6,c7,(hrm.put hput).new hMx',by rw[s1];exact c10,c11⟩
        have fin:∀ (rest:List AV) (M3:Mem),M3.size=Mx.size→(∀ j,j≠M.size→M3.get j=Mx.get j) →
          M3.get M.size=some (.row str ((slot cs off (ii*ti.size)++(slot cs2 off2 (m*ti.size)++slot cs (off+ii*ti.size) ((n - ii)*ti.size)))++rest)) →
          ∀ u w2 μ2,Seg Γ P (μ.upd M.size ⟨p.b,p.o+off,cc*ti.size,p.sz⟩) Mx w μ2 M3 w2→VRel μ2 (.sl M.size 0 (n+m) (some cc) ti.size) u→zB4 Γ P μ M w (.sl M1.size 0 (n+m) none ti.size) M' (.returned u) w2:=by
         intro rest M3 hs3 hk3 hg3 u w2 μ2 S hu
         have hq2:μ2 M.size=some ⟨p.b,p.o+off,cc*ti.size,p.sz⟩:=S.ext.sub _ _ (Inj.upd_same ..)
         exact⟨u,_,rfl,zOX (k:=M1.size) (kk:=M.size) (qx:=⟨p.b,p.o+off,cc*ti.size,p.sz⟩) R hfr0 hp hlive hput (by rw[hszM1];exact hMx) rfl rfl S (fun j hj=>by rw[hk3 j (by omega),holdx j hj]) (Nat.le_refl _) hq2 hg3 (.inl rfl) (.inl rfl) hT hTl (by omega) hu hnewr⟩
        have hIx:VRel (μ.upd M.size ⟨p.b,p.o+off,cc*ti.size,p.sz⟩) (.sc (.int .i64 (ii:Int))) (a.eval i):=Hi.mono lex
        have hYx:=Hy.mono lex
        by_cases hend:ii=n
        ·subst hend
         obtain⟨M3,hrun,hput3⟩:=zGC (P:=P) (call:=zF3) (g:=g') (e:=e) (z:=z) (cap2:=cap2) hO H hroom
         obtain⟨_,hs3,hg3,_,_⟩:=Mem.put_spec hput3
         refine zDW hf hbody hInsIn hcomp Rx hXx hIx hYx (fun i h1 h2=>by omega) hrun fun u w2 μ2 S hu=>fin (((slot cs off (ii*ti.size)++ext.map AV.sc).drop (ii*ti.size+m*ti.size))) M3 hs3 (fun j hj=>by rw[hg3,if_neg hj]) ?_ u w2 μ2 S hu
         rw[hg3,if_pos rfl]
         have z0:slot cs (off+ii*ti.size) ((ii - ii)*ti.size)=[]:=by rw[Nat.sub_self,Nat.zero_mul,zGS]
         rw[z0,List.append_nil]
         unfold lay
         rw[List.take_left' l0,lN]
        ·obtain⟨M3,rest,hrun,hs3,hk3,hg3⟩:=zGF (P:=P) (call:=zF3) (g:=g') (e:=e) (z:=z) (cap2:=cap2) hO H (by rw[s3];exact oc) (by omega) hroom
         rw[s2,s3] at hg3
         exact zDW hf hbody hInsIn hcomp Rx hXx hIx hYx (fun i h1 h2=>by omega) hrun fun u w2 μ2 S hu=>fin rest M3 hs3 hk3 hg3 u w2 μ2 S hu
       ·-- a new row
        have H:InsHypG M id id2 off off2 n m cc ii ti.size ti.bytes str cs cs2 :=
         ⟨hgx,hgy,hl1,hl2,hncc,c5,c3,c4,c8,c6,c7,hrm,c10,c11⟩
        have fin:∀ (M3:Mem),M3.size=M.size+1→(∀ j,j<M.size→M3.get j=M.get j) →
          M3.get M.size=some (.row false (slot cs off (ii*ti.size)++(slot cs2 off2 (m*ti.size)++slot cs (off+ii*ti.size) ((n - ii)*ti.size)))) →
          ∀ u w2 μ2,Seg Γ P μ M w μ2 M3 w2→VRel μ2 (.sl M.size 0 (n+m) none ti.size) u→zB4 Γ P μ M w (.sl M1.size 0 (n+m) none ti.size) M' (.returned u) w2:=by
         intro M3 hs3 hk3 hg3 u w2 μ2 S hu
         obtain⟨μ',hres⟩:=zGD R hfr0 hlive hput S hs3 hk3 hg3 hT hTl (by omega) hu hnewr
         exact⟨u,μ',rfl,hres⟩
        have hfr3:∀ (M3:Mem),M3.size=M.size+1 → ∀ i,M.size≤i→i<M3.size→μ i=none:=fun M3 h3 i h1 h2=>by
         have:i=M.size:=by omega
         rw[this];exact hfr0
        by_cases hend:ii=n
        ·subst hend
         obtain⟨M3,hrun,hnew3⟩:=zGB (P:=P) (call:=zF3) (g:=g') (e:=e) (z:=z) (cap2:=cap2) hO H (by omega)
         obtain⟨_,hs3,hk3,hg3,_,_⟩:=Mem.new_spec hnew3
         refine zDW hf hbody hInsIn hcomp R hXr Hi Hy (hfr3 M3 hs3) hrun fun u w2 μ2 S hu=>fin M3 hs3 hk3 ?_ u w2 μ2 S hu
         rw[hg3]
         have z0:slot cs (off+ii*ti.size) ((ii - ii)*ti.size)=[]:=by rw[Nat.sub_self,Nat.zero_mul,zGS]
         rw[z0,List.append_nil]
        ·obtain⟨M3,hrun,hs3,hk3,hg3⟩:=zGE (P:=P) (call:=zF3) (g:=g') (e:=e) (z:=z) (cap2:=cap2) hO H hz oc (by omega) (by omega)
         exact zDW hf hbody hInsIn hcomp R hXr Hi Hy (hfr3 M3 hs3) hrun fun u w2 μ2 S hu=>fin M3 hs3 hk3 hg3 u w2 μ2 S hu
      ·cases h
     ·cases h
   ·cases h
  ·cases h
 ·-- by the code
  rename_i hne
  refine wrap ?_
  exact(hc.fn g [zA2 t x,zA2 t i,zA2 t y] M r M' h μ w #[a.eval x,a.eval i,a.eval y] R (.cons Hx (.cons Hi (.cons Hy .nil))) hfr).2
theorem zML (hov:zJ8 P)(hip:zGW P):zGV Γ P:=fun o=>zR1 hov hip o
def zHJ:List AOper→List Oper
 | []=>[]
 | o::l=>match o.op with
  | .pur q=>q::zHJ l
  | _=>zHJ l
def zDS:ACode→List Oper
 | .region ops _=>zHJ ops
 | .seq a b=>zDS a++zDS b
 | .cond _ a b=>zDS a++zDS b
 | .block _ b=>zDS b
 | .loop b=>zDS b
 | .scope b=>zDS b
 | _=>[]
def zFA (P:Program)(g:Nat)(n:Nat):Oper:=match P.funcs[g]? with
 | some fn=>match fn.body with
  | some c=>nth default (zDS (zA7 P c)) n
  | none=>default
 | none=>default
def zNX (P:Program)(fn:Func):Bool:=match fn.body with
 | some c=>zBQ P c
 | none=>true
theorem zRZ {z:Value}{s:Nat}(h1:(scs z).all oneA=true)(h2:(scs z).length=s):∀ q,(zA5 z q).all oneA=true∧(zA5 z q).length=q*s:=by
 intro q
 induction q with
 | zero=>exact⟨rfl,by simp [zA5]⟩
 | succ q ih =>
  refine⟨?_, ?_⟩
  ·simp only[zA5,List.all_append,h1,ih.1,Bool.and_self]
  ·simp only[zA5,List.length_append,h2,ih.2];rw[Nat.add_mul];omega
set_option maxRecDepth 100000
section
variable {fuel : Nat} {fs : Nat → Option AFunc} {call : Tg → List AV → Mem → Option (AV × Mem)} {M : Mem} {n : Nat}
end
def SlP {α:Type}(M:Mem)(st:Nat)(T:List AV→α→Prop)(a:AV)(l:List α):Prop :=
 (a = .sc (.slice none 0 0)∧l=[]) ∨ ∃ (id:Nat) (rows:List (List AV)) (rest:List AV),a = .sl id 0 rows.length none st∧M.get id=some (.row false (rows.flatten++rest))∧All2 T rows l∧(∀ r∈rows,r.length=st)
section
variable {α : Type} {M N : Mem} {st : Nat} {T : List AV → α → Prop} {a : AV} {l : List α}
theorem SlP.nil:SlP M st T (.sc (.slice none 0 0)) ([]:List α):=.inl ⟨rfl,rfl⟩
theorem SlP.one (h:SlP M st T a l):oneA a=true:=by rcases h with⟨rfl,_⟩ | ⟨_,_,_,rfl,_⟩ <;> rfl
theorem SlP.cells (h:SlP M st T a l):cellsA a=[a]:=by rcases h with⟨rfl,_⟩ | ⟨_,_,_,rfl,_⟩ <;> rfl
theorem SlP.len (h:SlP M st T a l)(N:Mem):lenO N a=some (.sc (.int .i64 l.length),N):=by
 rcases h with⟨rfl,rfl⟩ | ⟨_,rows,_,rfl,_,hA,_⟩
 ·rfl
 ·rw[← hA.length_eq];rfl
theorem SlP.keep (h:SlP M st T a l)(k:∀ id,rowOf a=some id→N.get id=M.get id):SlP N st T a l:=by
 rcases h with h | ⟨id,rows,rest,rfl,hg,h⟩
 ·exact .inl h
 ·exact .inr ⟨id,rows,rest,rfl,(k id rfl).trans hg,h⟩
theorem SlP.lt (h:SlP M st T a l):∀ id,rowOf a=some id→id<M.size:=by
 rcases h with⟨rfl,_⟩ | ⟨i,rows,rest,rfl,hg,_⟩
 ·intro id h;cases h
 ·intro id h;cases h;exact Mem.get_lt hg
theorem SlP.rows (h:SlP M st T a l){m:Nat}(hm:M.size≤m):((rowsOf a).all fun i=>Nat.blt i m)=true:=by
 rcases h with⟨rfl,_⟩ | ⟨i,rows,rest,rfl,hg,_⟩
 ·rfl
 ·have:=Mem.get_lt hg
  simp only[rowsOf,List.all_cons,List.all_nil,Bool.and_true]
  exact Nat.blt_eq ▸ (show i<m by omega)
theorem SlP.at (h:SlP M st T a l){i:Nat}(hi:i<l.length):∃ id cs r,rowOf a=some id∧id<M.size∧M.get id=some (.row false cs)∧(∀ N,iadO N st a (some i)=some (.ptr id (i*st),N))∧T r l[i]∧r.length=st∧part cs (i*st) st true=some (.agg r):=by
 rcases h with⟨rfl,rfl⟩ | ⟨id,rows,rest,rfl,hg,hA,hr⟩
 ·exact absurd hi (by simp)
 ·have hl:=hA.length_eq
  have hfl:=zAE hr
  have hri':i<rows.length:=by omega
  have hrl:=hr rows[i] (List.getElem_mem hri')
  have hle:i*st+st≤rows.flatten.length:=by rw[hfl,← Nat.succ_mul];exact Nat.mul_le_mul_right _ (by omega)
  have hsl0:slot rows.flatten (i*st) st=rows[i]:=by
   rw[slot,zC0 i hr,List.drop_eq_getElem_cons hri',List.flatten_cons,List.take_append_of_le_length (by omega),List.take_of_length_le (by omega)]
  have hsl:slot (rows.flatten++rest) (i*st) st=rows[i]:=by
   rw[← hsl0]
   simp only[slot]
   rw[List.drop_append_of_le_length (by omega),List.take_append_of_le_length (by rw[List.length_drop];omega)]
  have e:=zL0 (off:=0) (n:=st) (ag:=true) hsl (by rw[List.length_append];omega) (by omega)
  rw[Nat.add_zero] at e
  refine⟨id,_,rows[i],rfl,Mem.get_lt hg,hg,fun N=>by rw[zHZ (by omega)];simp,hA.get hri' hi,hrl, ?_⟩
  rw[e]
  exact zPJ (ag:=true) hrl (by simp)
end
def SlN {α:Type}(M:Mem)(st:Nat)(T:List AV→α→Prop)(a:AV)(l:List α):Prop :=
 (l=[]∧(a = .sc (.slice none 0 0) ∨ ∃ id,a = .sl id 0 0 (some 0) st∧M.get id=some (.row false []))) ∨
 (l≠[] ∧ ∃ (id:Nat) (rows:List (List AV)),a = .sl id 0 rows.length none st∧M.get id=some (.row false rows.flatten)∧All2 T rows l ∧ ∀ r∈rows,r.length=st)
section
variable {fuel : Nat} {fs : Nat → Option AFunc} {call : Tg → List AV → Mem → Option (AV × Mem)} {M N X : Mem} {d : Nat} {t : List AV} {Q : AV → Mem → Prop}
variable {α : Type} {st : Nat} {T : List AV → α → Prop} {a o : AV} {l : List α}
def insO (call:Tg→List AV→Mem→Option (AV × Mem))(M:Mem)(g:FuncId)(st bytes:Nat)(x i y:AV):Option (AV × Mem) :=
 match x with
 | .sl id off len none st'=>match y with
  | .sl id' off' n cap' st''=>match cellsOf M (.sl id' off' n cap' st''),cellsOf M (.sl id off len none st'),zK8 i,M.get id,M.get id' with
   | some new,some old,some i,some (.row str _),some (.row false _) =>
    match Nat.beq st st'&&Nat.beq st st''&&Nat.blt 0 n&&Nat.blt 0 st&&Nat.ble i len&&Nat.ble ((len+n)*bytes) 140737488355328&&Nat.ble (len+n) 140737488355328 && !(Nat.beq id id')&&Nat.ble M.size 140737488355328&&old.all oneA&&new.all oneA with
    | true=>match M.put id .dead with
     | some M=>match M.new (.row str (old.take (i*st)++new++old.drop (i*st))) with
      | some (id,M)=>some (.sl id 0 (len+n) none st,M)
      | none=>none
     | none=>none
    | false=>none
   | _,_,_,_,_=>none
  | _=>none
 | x=>call (.fn g) [x,i,y] M
theorem SlN.ins {bytes g:Nat}{r:List AV}{x:α}(wf:Wf X)(h:SlN X st T o l)(hn:l≠[])(hT:Cel T)(hx:T r x)(hr:r.length=st)(hs:0<st){i:Nat}(hi:i≤l.length)(hb1:(l.length+1)*bytes≤140737488355328)(hb2:l.length+1≤140737488355328)(hsz:X.size+1≤140737488355328)
  (k:∀ o' M',SlM M' st T o' (l.take i++[x]++l.drop i)→Wf M'→X.size≤M'.size→(∀ j,j<X.size→rowOf o≠some j→M'.get j=X.get j)→(∀ id,rowOf o'=some id→X.size≤id)→Q o' M') :
  W3 (insO call (X.add (.row false r)) g st bytes o (I64 i) (.sl X.size 0 1 (some 1) st)) Q:=by
 rcases h with⟨rfl,_⟩ | ⟨_,id,rows,rfl,hg,hA,hrs⟩
 ·exact absurd rfl hn
 have hl:=hA.length_eq
 have hfl:=zAE hrs
 have hid:=Mem.get_lt hg
 have wX:=wf.add (.row false r)
 have hg':(X.add (.row false r)).get id=some (.row false rows.flatten):=(zBJ wf _ _ hid).trans hg
 have hgn:(X.add (.row false r)).get X.size=some (.row false r):=zAN wf _ _ (Nat.le_refl _) (Nat.lt_succ_self _)
 have hcell:cellsOf (X.add (.row false r)) (.sl X.size 0 1 (some 1) st)=some r:=zCB (cs:=r) (n:=1) (st:=st) hgn (by omega)
 have hcl:cellsOf (X.add (.row false r)) (.sl id 0 rows.length none st)=some rows.flatten:=zCB hg' hfl
 have hro:r.all oneA=true:=by
  rw[List.all_eq_true]
  exact fun y hy=>(hT r x hx y hy).1
 have hrf:rows.flatten.all oneA=true:=hT.all hA
 have hsp:(rows.flatten).take (i*st)++r++(rows.flatten).drop (i*st)=(rows.take i++[r]++rows.drop i).flatten:=by
  rw[zC0 i hrs]
  have:rows.flatten.take (i*st)=(rows.take i).flatten:=by
   have h2:rows.flatten=(rows.take i).flatten++(rows.drop i).flatten:=by rw[← List.flatten_append,List.take_append_drop]
   have h3:(rows.take i).flatten.length=i*st:=by
    rw[zAE fun q hq=>hrs q (List.mem_of_mem_take hq),List.length_take,Nat.min_eq_left (by omega)]
   rw[h2,List.take_append_of_le_length (by omega),List.take_of_length_le (by omega)]
  rw[this]
  simp
 refine⟨.sl (X.size+1) 0 (rows.length+1) none st,((X.add (.row false r)).upd id .dead).add (.row false ((rows.take i++[r]++rows.drop i).flatten)), ?_,k _ _ (.inr ⟨X.size+1,rows.take i++[r]++rows.drop i,none, ?_,.inl rfl, ?_, ?_, ?_⟩) ((wX.upd _ _).add _) (by simp only[zAK,zAX];omega) (fun j hj hne=>?_) (fun id h=>by cases h;omega)⟩
 ·unfold insO
  have hne:Nat.beq id X.size=false:=by
   cases hb:Nat.beq id X.size with
   | false=>rfl
   | true=>have:=Nat.eq_of_beq_eq_true hb;omega
  have e1:zK8 (I64 i)=some i:=by simp [zK8]
  simp only[hcell,hcl,hg',hgn,e1,Nat.beq_refl,hne,hro,hrf,Nat.ble_eq_true_of_le (show i≤rows.length by omega),Nat.ble_eq_true_of_le (show (rows.length+1)*bytes≤140737488355328 by rw[hl];omega),Nat.ble_eq_true_of_le (show rows.length+1≤140737488355328 by omega),Nat.ble_eq_true_of_le hsz,show Nat.blt 0 1=true from rfl,(zAB 0 st).2 hs,Bool.and_self,Bool.not_false,zC8 wX (show id<(X.add (.row false r)).size by rw[zAK];omega),zBO (wX.upd id .dead),zAX,zAK,hsp]
 ·have:(rows.take i++[r]++rows.drop i).length=rows.length+1:=by simp;omega
  rw[this]
 ·rw[zAN (wX.upd _ _) _ _ (by simp only[zAX,zAK];omega) (by simp only[zAX,zAK];omega)]
 ·exact((zG4 i hA).append (.cons hx .nil)).append (zG3 i hA)
 ·intro q hq
  rcases List.mem_append.1 hq with hq | hq
  ·rcases List.mem_append.1 hq with hq | hq
   ·exact hrs q (List.mem_of_mem_take hq)
   ·rw[List.mem_singleton] at hq;subst hq;exact hr
  ·exact hrs q (List.mem_of_mem_drop hq)
 ·rw[zBJ (wX.upd _ _) _ _ (by simp only[zAX,zAK];omega),zB5 wX _ _ _ (fun e=>hne (by rw[e];rfl)),zBJ wf _ _ hj]
def SlQ {α:Type}(M:Mem)(st:Nat)(T:List AV→α→Prop)(a:AV)(l:List α)(m:Nat):Prop :=
 ∃ (id:Nat) (rows:List (List AV)) (rest:List AV),a = .sl id 0 rows.length none st∧M.get id=some (.row false (rows.flatten++rest))∧All2 T rows l∧(∀ r∈rows,r.length=st)∧rest.length=m*st
theorem SlQ.one {m:Nat}(h:SlQ M st T a l m):oneA a=true:=by obtain⟨_,_,_,rfl,_⟩:=h;rfl
theorem SlQ.cells {m:Nat}(h:SlQ M st T a l m):cellsA a=[a]:=by obtain⟨_,_,_,rfl,_⟩:=h;rfl
theorem SlQ.lt {m:Nat}(h:SlQ M st T a l m):∀ id,rowOf a=some id→id<M.size:=by
 obtain⟨i,_,_,rfl,hg,_⟩:=h
 intro id h;cases h;exact Mem.get_lt hg
theorem SlQ.rl {m:Nat}(h:SlQ M st T a l m){k:Nat}(hk:M.size≤k):((rowsOf a).all fun i=>Nat.blt i k)=true:=by
 obtain⟨i,_,_,rfl,hg,_⟩:=h
 have:=Mem.get_lt hg
 simp only[rowsOf,List.all_cons,List.all_nil,Bool.and_true]
 exact Nat.blt_eq ▸ (show i<k by omega)
theorem SlQ.keep {m:Nat}(h:SlQ M st T a l m)(k:∀ id,rowOf a=some id→N.get id=M.get id):SlQ N st T a l m:=by
 obtain⟨i,rows,rest,rfl,hg,hh⟩:=h
 exact⟨i,rows,rest,rfl,(k i rfl).trans hg,hh⟩
theorem SlQ.app {m bytes:Nat}{y:AV}{rows':List (List AV)}{l':List α}(wf:Wf X)(h:SlQ X st T o l m)(hy:cellsOf X y=some rows'.flatten)(hly:lenA y=some rows'.length)(hA':All2 T rows' l')(hr':∀ r∈rows',r.length=st)(hT:Cel T)(hm:l'.length≤m)(hb1:(l.length+l'.length)*bytes≤140737488355328)(hb2:l.length+l'.length≤140737488355328)
  (k:∀ o' M',SlQ M' st T o' (l++l') (m - l'.length)→Wf M'→M'.size=X.size→(∀ j,rowOf o≠some j→M'.get j=X.get j)→rowOf o'=rowOf o→M'.wm=X.wm→((∀ j,rowOf o=some j→X.wm≤j)→M'.dirty=X.dirty)→Q o' M'):W3 (appO X st bytes o y) Q:=by
 obtain⟨id,rows,rest,rfl,hg,hA,hr,hl⟩:=h
 have hid:=Mem.get_lt hg
 have hfl:=zAE hr
 have hfl':=zAE hr'
 have e1:=hA.length_eq
 have e2:=hA'.length_eq
 have hcl:cellsOf X (.sl id 0 rows.length none st)=some rows.flatten:=by
  have hb:Nat.ble (0+rows.length*st) (rows.flatten++rest).length=true:=Nat.ble_eq_true_of_le (by rw[List.length_append];omega)
  have hsl:slot (rows.flatten++rest) 0 (rows.length*st)=rows.flatten:=by
   simp only[slot,List.drop_zero]
   rw[List.take_append_of_le_length (by omega),List.take_of_length_le (by omega)]
  simp only[cellsOf,zBA hg,hb,hsl]
 have hmul:l'.length*st≤m*st:=Nat.mul_le_mul_right _ hm
 by_cases hz:rows'.length=0
 ·obtain rfl:=List.eq_nil_of_length_eq_zero hz
  have:l'=[]:=List.eq_nil_of_length_eq_zero (by omega)
  subst this
  refine⟨.sl id 0 rows.length none st,X, ?_,k _ _ ⟨id,rows,rest,rfl,hg,by rw[List.append_nil];exact hA,hr,by rw[List.length_nil,Nat.sub_zero];exact hl⟩ wf rfl (fun _ _=>rfl) rfl rfl (fun _=>rfl)⟩
  unfold appO
  simp only[hy,hly,hcl]
  rfl
 ·have hb0:Nat.beq rows'.length 0=false:=by
   cases hb:Nat.beq rows'.length 0 with
   | false=>rfl
   | true=>exact absurd (Nat.eq_of_beq_eq_true hb) hz
  have hro:rows'.flatten.all oneA=true:=hT.all hA'
  have hrb:Nat.beq rows'.flatten.length (rows'.length*st)=true:=by rw[hfl'];exact Nat.beq_refl _
  have hcb:Nat.ble (0+(rows.length+rows'.length)*st) (rows.flatten++rest).length=true:=Nat.ble_eq_true_of_le (by rw[List.length_append,hfl,hl,Nat.zero_add,Nat.add_mul,e2];omega)
  refine⟨.sl id 0 (rows.length+rows'.length) none st,X.upd id (.row false (lay (rows.flatten++rest) (0+rows.length*st) rows'.flatten)), ?_,k _ _ ⟨id,rows++rows',rest.drop (l'.length*st),by rw[List.length_append], ?_,hA.append hA',fun r h=>(List.mem_append.1 h).elim (hr r) (hr' r), ?_⟩ (wf.upd _ _) rfl (fun j hj=>zB5 wf _ _ _ (fun e=>hj (by rw[e];rfl))) rfl rfl (fun hw=>by
   show (X.dirty || Nat.blt id X.wm)=X.dirty
   have:=hw id rfl
   cases hb:Nat.blt id X.wm with
   | false=>simp
   | true=>have:=(zAB _ _).1 hb;omega)⟩
  ·unfold appO
   simp only[hy,hly,hcl]
   unfold zAM
   simp only[hb0,hro,hrb,Bool.and_self,Nat.ble_eq_true_of_le (show (rows.length+rows'.length)*bytes≤140737488355328 by rw[e1,e2];omega),Nat.ble_eq_true_of_le (show rows.length+rows'.length≤140737488355328 by omega),Nat.beq_refl,hg,hcb,zC8 wf hid]
  ·rw[zDE wf _ _ hid]
   congr 2
   unfold lay
   rw[Nat.zero_add,hfl',List.flatten_append,List.take_append_of_le_length (by omega),List.take_of_length_le (by omega),← hfl,List.drop_length_add_append,e2]
  ·rw[List.length_drop,hl,Nat.sub_mul]
theorem zL5 (z:Value):∀ n,(zA5 z n).length=n*(scs z).length
 | 0=>by simp [zA5]
 | n+1=>by rw[zA5,List.length_append,zL5 z n,Nat.succ_mul];omega
theorem SlQ.fresh {n:Nat}{z:Value}(wf:Wf X)(hl:(scs z).length=st):SlQ (X.add (.row false (zA5 z n))) st T (.sl X.size 0 0 none st) ([]:List α) n :=
 ⟨X.size,[],zA5 z n,rfl,zAN wf _ _ (Nat.le_refl _) (Nat.lt_succ_self _),.nil,⟨fun r h=>absurd h (by simp),by rw[zL5,hl]⟩⟩
end
variable {fuel : Nat} {fs : Nat → Option AFunc} {M : Mem}
section
variable {α : Type} {T : List AV → α → Prop} {st : Nat} {ag : Bool} {a : AV} {l : List α}
end
section
variable {Q : AV → Mem → Prop}
variable {α : Type} {T : List AV → α → Prop} {st : Nat} {ag : Bool} {a o : AV} {l : List α}
def SlZ {α:Type}(M:Mem)(st:Nat)(T:List AV→α→Prop)(a:AV)(l:List α):Prop :=
 (a = .sc (.slice none 0 0)∧l=[]) ∨ ∃ (id:Nat) (rows:List (List AV)) (rest:List AV) (cap:Option Nat),a = .sl id 0 rows.length cap st∧M.get id=some (.row false (rows.flatten++rest))∧All2 T rows l∧(∀ r∈rows,r.length=st)∧(∀ y∈rest,∃ v,y = .sc v)
theorem SlZ.one {N:Mem}(h:SlZ N st T a l):oneA a=true:=by rcases h with⟨rfl,_⟩ | ⟨_,_,_,_,rfl,_⟩ <;> rfl
theorem SlZ.cells {N:Mem}(h:SlZ N st T a l):cellsA a=[a]:=by rcases h with⟨rfl,_⟩ | ⟨_,_,_,_,rfl,_⟩ <;> rfl
theorem SlZ.lt {N:Mem}(h:SlZ N st T a l):∀ id,rowOf a=some id→id<N.size:=by
 rcases h with⟨rfl,_⟩ | ⟨i,_,_,_,rfl,hg,_⟩
 ·intro id h;cases h
 ·intro id h;cases h;exact Mem.get_lt hg
theorem SlZ.rl {N:Mem}(h:SlZ N st T a l){k:Nat}(hk:N.size≤k):((rowsOf a).all fun i=>Nat.blt i k)=true:=by
 rcases h with⟨rfl,_⟩ | ⟨i,_,_,_,rfl,hg,_⟩
 ·rfl
 ·have:=Mem.get_lt hg
  simp only[rowsOf,List.all_cons,List.all_nil,Bool.and_true]
  exact Nat.blt_eq ▸ (show i<k by omega)
theorem SlZ.keep {N N':Mem}(h:SlZ N st T a l)(k:∀ id,rowOf a=some id→N'.get id=N.get id):SlZ N' st T a l:=by
 rcases h with h | ⟨i,rows,rest,cap,rfl,hg,hh⟩
 ·exact .inl h
 ·exact .inr ⟨i,rows,rest,cap,rfl,(k i rfl).trans hg,hh⟩
end
variable {N M2 : Mem}
def Mem.app (M M2:Mem):Mem:=⟨M.t++(zCM M2).map (shO M.size),M.size+M2.size,M.wm,M.dirty⟩
theorem zLX (M M2:Mem):(M.app M2).size=M.size+M2.size:=Eq.trans rfl rfl
theorem zSG (h:Wf M):Wf (M.app M2):=by
 unfold Wf at *
 simp [Mem.app,h,zCI]
theorem zG2:∀ {k:Nat} {l:List AObj} {M:Mem},Wf M→zBV k l M=some ⟨M.t++l.map (shO k),M.size+l.length,M.wm,M.dirty⟩:=by
 intro k l
 induction l with
 | nil=>intro M h;simp [zBV]
 | cons o l ih =>
  intro M h
  simp only[zBV,zBO h]
  rw[ih (h.add _)]
  simp [Mem.add,Nat.add_comm,Nat.add_left_comm]
theorem zIM {i:Nat}(h:Wf M)(hi:i<M.size):(M.app M2).get i=M.get i:=by
 have:=zG2 (k:=M.size) (l:=zCM M2) h
 have h2:=(zC5 this).2.1 i hi
 rw[← h2]
 simp only[Mem.app,zCI]
theorem zIL {i:Nat}{o:AObj}(h:Wf M)(ho:M2.get i=some o):(M.app M2).get (i+M.size)=some (shO M.size o):=by
 have:=zG2 (k:=M.size) (l:=zCM M2) h
 have h2:=(zC5 this).2.2.1 i o (by rw[zF5 (Mem.get_lt ho),ho];rfl)
 rw[Nat.add_comm,← h2]
 simp only[Mem.app,zCI]
theorem zLW (h:Wf M):Kept M (M.app M2):=⟨zSG h,by rw[zLX];omega,fun j hj=>zIM h hj,rfl,rfl⟩
def zGX (P:Program)(fs:Nat→Option AFunc)(fuel n:Nat)(f:FuncId)(args:List AV)(R:AV→Mem→Prop):Prop :=
 ∃ r M2,R r M2 ∧ ∀ M args0 M0,icyL (icy 12) M args0=some (args,M0)→Wf M→zAY P fs fuel (n+1) (.fn f) args0 M=some (shA M.size r,M.app M2)
theorem zGX.use {n:Nat}{f:FuncId}{args args0:List AV}{R:AV→Mem→Prop}{M0:Mem}{Q:AV→Mem→Prop}(h:zGX P fs fuel n f args R)(hz:icyL (icy 12) M args0=some (args,M0))(wf:Wf M)
  (k:∀ r M2,R r M2→Q (shA M.size r) (M.app M2)):W3 (zAY P fs fuel (n+1) (.fn f) args0 M) Q:=by
 obtain⟨r,M2,hR,hc⟩:=h
 exact⟨_,_,hc M args0 M0 hz wf,k r M2 hR⟩
theorem zGX.mono {n:Nat}{f:FuncId}{args:List AV}{R R':AV→Mem→Prop}(h:zGX P fs fuel n f args R)(k:∀ r M,R r M→R' r M):zGX P fs fuel n f args R':=by
 obtain⟨r,M2,hR,hc⟩:=h
 exact⟨r,M2,k _ _ hR,hc⟩
theorem zR0 {k:Nat}:∀ (n:Nat) (a:AV) (M M':Mem),icy n M a=some (a,M')→shA k a=a:=by
 intro n
 induction n with
 | zero=>intro a M M' h;simp [icy] at h
 | succ n ih =>
  have hl:∀ (l r:List AV) (M M':Mem),icyL (icy n) M l=some (r,M')→r=l→shL k l=l:=by
   intro l
   induction l with
   | nil=>intros;simp [shL]
   | cons x l ihl =>
    intro r M M' h e
    simp only[icyL] at h
    split at h
    ·rename_i y M1 h1
     split at h
     ·rename_i r' M2 h2
      simp only[Option.some.injEq,Prod.mk.injEq] at h
      obtain⟨rfl,rfl⟩:=h
      simp only[List.cons.injEq] at e
      obtain⟨rfl,e⟩:=e
      simp only[shL,ih _ _ _ h1,ihl _ _ _ h2 e]
     ·cases h
    ·cases h
  intro a M M' h
  cases a with
  | sc v=>simp [shA]
  | pv=>simp [shA]
  | cp=>simp [shA]
  | agg l =>
   simp only[icy] at h
   split at h
   ·rename_i r M1 h1
    simp only[Option.some.injEq,Prod.mk.injEq,AV.agg.injEq] at h
    simp only[shA,hl _ _ _ _ h1 h.1]
   ·cases h
  | tup l =>
   simp only[icy] at h
   split at h
   ·rename_i r M1 h1
    simp only[Option.some.injEq,Prod.mk.injEq,AV.tup.injEq] at h
    simp only[shA,hl _ _ _ _ h1 h.1]
   ·cases h
  | fn f a b =>
   simp only[icy] at h
   split at h
   ·rename_i r M1 h1
    split at h
    ·rename_i r' M2 h2
     simp only[Option.some.injEq,Prod.mk.injEq,AV.fn.injEq] at h
     simp only[shA,hl _ _ _ _ h1 h.1.2.1,hl _ _ _ _ h2 h.1.2.2]
    ·cases h
   ·cases h
  | sl id off len cap st =>
   exfalso
   simp only[icy] at h
   split at h
   ·split at h
    ·split at h
     ·split at h
      ·simp at h
      ·split at h
       ·simp at h
       ·cases h
      ·cases h
     ·cases h
    ·cases h
   ·cases h
  | _=>simp [icy] at h
theorem Fz.sh {a:AV}(h:Fz a)(k:Nat):shA k a=a:=zR0 1 a mem0 mem0 (h.icy mem0 1 (by omega))
theorem zK4 {r:List AV}(h:∀ y∈r,Fz y)(k:Nat):shL k r=r:=by
 induction r with
 | nil=>simp [shL]
 | cons x r ih=>simp only[shL,(h x (by simp)).sh k,ih fun y hy=>h y (by simp [hy])]
theorem zFU (k:Nat):∀ a b:List AV,shL k (a++b)=shL k a++shL k b
 | [],b=>by simp [shL]
 | x::a,b=>by simp [shL,zFU k a b]
theorem zFR:∀ a b:List AV,purL (a++b)=(purL a&&purL b)
 | [],b=>by simp [purL]
 | x::a,b=>by simp [purL,zFR a b,Bool.and_assoc]
theorem zID (k:Nat):∀ rows:List (List AV),shL k rows.flatten=(rows.map (shL k)).flatten
 | []=>by simp [shL]
 | r::rows=>by simp [zFU,zID k rows]
theorem zS5 (k:Nat):shA k NIL=NIL:=by simp [shA]
theorem zIE (k:Nat)(a:AV):rowOf (shA k a)=(rowOf a).map (· + k):=by cases a <;> simp [shA,rowOf]
theorem zS6 (k:Nat)(a:AV):oneA (shA k a)=oneA a:=by
 cases a <;> simp only[shA,oneA]
theorem zNG {k:Nat}{a:AV}(h:cellsA a=[a])(h1:oneA a=true):cellsA (shA k a)=[shA k a]:=by
 cases a with
 | sc v=>simp only[shA];exact h
 | agg l=>simp [oneA] at h1
 | _=>simp [shA,cellsA]
def Sh (k:Nat)(M2 N:Mem):Prop:=∀ i o,M2.get i=some o→N.get (i+k)=some (shO k o)
theorem zS4 (h:Wf M):Sh M.size M2 (M.app M2):=fun _ _ ho=>zIL h ho
theorem All2.map2 {α β α' β':Type}{R:α→β→Prop}{R':α'→β'→Prop}{g:α→α'}{f:β→β'}(h:∀ a b,R a b→R' (g a) (f b)):∀ {l:List α} {m:List β},All2 R l m→All2 R' (l.map g) (m.map f)
 | _,_,.nil => .nil
 | _,_,.cons a t => .cons (h _ _ a) (All2.map2 h t)
theorem zGN:∀ {rows:List (List AV)},(∀ r∈rows,purL r=true)→purL rows.flatten=true
 | [],_=>by simp [purL]
 | r::rows,h=>by rw[List.flatten_cons,zFR,h r (by simp),zGN fun q hq=>h q (by simp [hq])];rfl
theorem All2.left {α β:Type}{R:α→β→Prop}{p:α→Prop}:∀ {l:List α} {m:List β},All2 R l m→(∀ a b,R a b→b∈m→p a) → ∀ a∈l,p a
 | _,_,.nil,_,_,ha=>by cases ha
 | _,_,.cons a t,h,x,hx=>by
  rcases List.mem_cons.1 hx with rfl | hx
  ·exact h _ _ a (by simp)
  ·exact All2.left t (fun a b r hb=>h a b r (by simp [hb])) x hx
theorem SlM.pur {α:Type}{st:Nat}{T:List AV→α→Prop}{a:AV}{l:List α}(h:SlM M st T a l):purA a=true:=by
 rcases h with⟨rfl,rfl⟩ | ⟨id,rows,cap,rfl,_⟩ <;> simp [purA]
theorem SlM.shG {α β:Type}{st k:Nat}{T:List AV→α→Prop}{T':List AV→β→Prop}{g:α→β}{a:AV}{l:List α}(h:SlM M2 st T a l)(hp:∀ r x,T r x→x∈l→purL r=true)(hT:∀ r x,T r x→T' (shL k r) (g x))(hs:Sh k M2 N):SlM N st T' (shA k a) (l.map g):=by
 rcases h with⟨rfl,rfl⟩ | ⟨id,rows,cap,rfl,hc,hg,hA,hr⟩
 ·exact .inl ⟨zS5 k,rfl⟩
 ·refine .inr ⟨id+k,rows.map (shL k),cap,by simp [shA],by simpa using hc, ?_,hA.map2 hT,fun r hr'=>?_⟩
  ·simp only[hs _ _ hg,shO,zGN (hA.left hp),zID]
  ·obtain⟨q,hq,rfl⟩:=List.mem_map.1 hr'
   rw[zFV]
   exact hr q hq
theorem SlM.sh {α:Type}{st k:Nat}{T:List AV→α→Prop}{a:AV}{l:List α}(h:SlM M2 st T a l)(hp:∀ r x,T r x→purL r=true)(hT:FzT T)(hs:Sh k M2 N):SlM N st T (shA k a) l:=by
 have:=h.shG (fun r x hx _=>hp r x hx) (g:=id) (T':=T) (fun r x hx=>by rw[zK4 (hT r x hx)];exact hx) hs
 rwa [List.map_id] at this
namespace NK
variable {α β : Type} {K : NK α β}
theorem ND.sh {o:AV}{l:List α}{k:Nat}(h:K.ND M2 0 o l)(hH:∀ x,purL (K.H x)=true)(hp:∀ r x,K.T r x→purL r=true)(hs:Sh k M2 N):K.ND N k (shA k o) l:=by
 obtain⟨lr,rfl,h2,h3,h4,h5,h6⟩:=h
 have hr:∀ (a:AV) j,rowOf (shA k a)=some j → ∃ i,rowOf a=some i∧j=i+k:=fun a j hj=>by
  rw[zIE] at hj
  cases ha:rowOf a with
  | none=>rw[ha] at hj;cases hj
  | some i=>rw[ha] at hj;cases hj;exact⟨i,rfl,rfl⟩
 refine⟨lr.map fun x=>(x.1,shA k x.2),by simp,h2.shG (fun r x hx hm=>?_) (fun r x hx=>?_) hs,fun x hx=>?_,fun j hj=>?_,fun x hx j hj=>?_, ?_⟩
 ·rw[hx.1,zFR,hH]
  simp [purL,(h3 x hm).1.pur]
 ·obtain⟨rfl,h1,hc⟩:=hx
  refine⟨?_,by rw[zS6];exact h1,zNG hc h1⟩
  rw[zFU,zK4 (K.hz x.1)]
  simp [shL]
 ·obtain⟨y,hy,rfl⟩:=List.mem_map.1 hx
  obtain⟨q1,q2,q3⟩:=h3 y hy
  exact⟨q1.sh hp K.ft hs,fun j hj=>by obtain⟨i,_,rfl⟩:=hr _ _ hj;omega,q3⟩
 ·obtain⟨i,_,rfl⟩:=hr _ _ hj;omega
 ·obtain⟨y,hy,rfl⟩:=List.mem_map.1 hx
  obtain⟨i,hi,rfl⟩:=hr _ _ hj
  intro e
  obtain⟨i',hi',e'⟩:=hr _ _ e
  obtain rfl:i'=i:=by omega
  exact h5 y hy i' hi hi'
 ·rw[List.pairwise_map]
  refine h6.imp fun {a b} hab j hj e=>?_
  obtain⟨i,hi,rfl⟩:=hr _ _ hj
  obtain⟨i',hi',e'⟩:=hr _ _ e
  obtain rfl:i'=i:=by omega
  exact hab i' hi hi'
theorem ND.put {B:Nat}{o:AV}{l:List α}(h:K.ND M B o l){i:Nat}(hi:i<l.length):∃ id cs ra,rowOf o=some id∧B≤id∧id<M.size∧M.get id=some (.row false cs)∧(∀ N,iadO N K.st o (some i)=some (.ptr id (i*K.st),N))∧slot cs (i*K.st) K.st=K.H l[i]++[ra]∧(i+1)*K.st≤cs.length∧K.InN M B (l[i],ra)∧rowOf ra≠some id ∧
  ∀ (N:Mem) (y:α) (rb:AV),M.size≤N.size→K.InN N M.size (y,rb)→oneA rb=true→cellsA rb=[rb]→(∀ j,B≤j→j<M.size→rowOf ra≠some j→j≠id→N.get j=M.get j)→N.get id=some (.row false (lay cs (i*K.st) (K.H y++[rb])))→B≤M.size→K.ND N B o (l.set i y):=by
 obtain⟨lr,rfl,h2,h3,h4,h5,h6⟩:=h
 have hi':i<lr.length:=by simpa using hi
 rcases h2 with⟨rfl,rfl⟩ | ⟨id,rows,cap,rfl,hc,hg,hA,hr⟩
 ·exact absurd hi' (by simp)
 ·have hlen:=hA.length_eq
  have hfl:=zAE hr
  have hri:i<rows.length:=by omega
  have hn:=hA.get hri hi'
  have hrl:=hr rows[i] (List.getElem_mem hri)
  have hmem:=List.getElem_mem hi'
  have hle:(i+1)*K.st≤rows.flatten.length:=by rw[hfl];exact Nat.mul_le_mul_right _ (by omega)
  refine⟨id,rows.flatten,lr[i].2,rfl,h4 id rfl,Mem.get_lt hg,hg,fun N=>by rw[zHZ (by omega)];simp, ?_,hle, ?_,h5 _ hmem id rfl, ?_⟩
  ·exact zE0q
  ·simpa using h3 _ hmem
  ·intro N y rb hsz hin ho hcl hk hgn hB
   have hlH:(K.H y++[rb]).length=K.st:=by rw[List.length_append,List.length_singleton];exact K.hl y
   have hlay:lay rows.flatten (i*K.st) (K.H y++[rb])=(rows.set i (K.H y++[rb])).flatten:=by
    rw[lay,List.set_eq_take_append_cons_drop,if_pos hri,List.flatten_append,List.flatten_cons,hlH]
    have e1:rows.flatten.take (i*K.st)=(rows.take i).flatten:=by
     have:=zEY (st:=K.st) i hr
     simpa using this
    have e2:rows.flatten.drop (i*K.st+K.st)=(rows.drop (i+1)).flatten:=by
     rw[show i*K.st+K.st=(i+1)*K.st by rw[Nat.succ_mul]]
     exact zC0 (i+1) hr
    rw[e1,e2,List.append_assoc]
   have hother:∀ j (hj:j<lr.length),j≠i→K.InN N B lr[j]:=fun j hj e=>by
    have hmj:=List.getElem_mem hj
    refine(h3 _ hmj).keep fun q hq=>hk q ((h3 _ hmj).2.1 q hq) ((h3 _ hmj).lt q hq) (fun hrow=>?_) (fun e=>h5 _ hmj id rfl (by rw[hq,e]))
    rcases Nat.lt_or_gt_of_ne e with e' | e'
    ·exact List.pairwise_iff_getElem.1 h6 j i hj hi' e' q hq hrow
    ·exact List.pairwise_iff_getElem.1 h6 i j hi' hj e' q hrow hq
   refine⟨lr.set i (y,rb),by rw[List.map_set],.inr ⟨id,rows.set i (K.H y++[rb]),cap,by simp,by simpa using hc,by rw[← hlay];exact hgn,hA.set2 i ⟨rfl,ho,hcl⟩,fun r hr'=>?_⟩,fun x hx=>?_,h4,fun x hx=>?_, ?_⟩
   ·rcases List.mem_or_eq_of_mem_set hr' with h | rfl
    ·exact hr r h
    ·exact hlH
   ·obtain⟨j,hj,rfl⟩:=List.getElem_of_mem hx
    rw[List.length_set] at hj
    by_cases e:i=j
    ·subst e
     rw[List.getElem_set_self]
     exact hin.mono hB
    ·rw[List.getElem_set_ne e]
     exact hother j hj (fun h=>e h.symm)
   ·rcases List.mem_or_eq_of_mem_set hx with hx' | rfl
    ·exact h5 x hx'
    ·exact fun j hj e=>by cases hj;have:=hin.2.1 id e;have:=Mem.get_lt hg;omega
   ·rw[List.pairwise_iff_getElem]
    intro p q hp hq hpq
    rw[List.length_set] at hp hq
    intro j hj e
    by_cases e1:i=p
    ·subst e1
     rw[List.getElem_set_self] at hj
     rw[List.getElem_set_ne (by omega)] at e
     have a:=hin.2.1 j hj
     have b:=(h3 _ (List.getElem_mem hq)).lt j e
     omega
    ·rw[List.getElem_set_ne e1] at hj
     by_cases e2:i=q
     ·subst e2
      rw[List.getElem_set_self] at e
      have a:=hin.2.1 j e
      have b:=(h3 _ (List.getElem_mem hp)).lt j hj
      omega
     ·rw[List.getElem_set_ne e2] at e
      exact List.pairwise_iff_getElem.1 h6 p q hp hq hpq j hj e
end NK
theorem zPG {k:Nat}:ownV M (k+1) NIL=true:=by simp [ownV]
theorem SlM.own {α:Type}{st k:Nat}{T:List AV→α→Prop}{a:AV}{l:List α}(h:SlM M st T a l)(hT:∀ r x,T r x→r.all (ownV M k)=true):ownV M (k+1) a=true:=by
 rcases h with⟨rfl,rfl⟩ | ⟨id,rows,cap,rfl,hc,hg,hA,hr⟩
 ·exact zPG
 ·simp only[ownV,zBA hg]
  rw[List.all_flatten,List.all_eq_true]
  exact fun r hr'=>hA.left (fun a b h _=>hT a b h) r hr'
def RowR {α:Type}(H:List AV)(T:List AV→α→Prop)(l:List α)(r:AV)(M:Mem):Prop:=∃ a,r = .agg (H++[a])∧SlM M 1 T a l
theorem zGX.row {α:Type}{H:List AV}{T:List AV→α→Prop}{l:List α}{n:Nat}{f:FuncId}{args args0:List AV}{M0:Mem}{Q:AV→Mem→Prop}(h:zGX P fs fuel n f args (RowR H T l))(hz:icyL (icy 12) M args0=some (args,M0))(wf:Wf M)(hH:∀ y∈H,Fz y)(hp:∀ r x,T r x→purL r=true)(hT:FzT T)
  (k:∀ a N,Kept M N→SlM N 1 T a l→(∀ j,rowOf a=some j→M.size≤j)→Q (.agg (H++[a])) N):W3 (zAY P fs fuel (n+1) (.fn f) args0 M) Q:=by
 refine h.use hz wf fun r M2 hr=>?_
 obtain⟨a,rfl,hs⟩:=hr
 have e:shA M.size (.agg (H++[a])) = .agg (H++[shA M.size a]):=by
  simp only[shA,zFU,zK4 hH,shL]
 rw[e]
 refine k _ _ (zLW wf) (hs.sh hp hT (zS4 wf)) fun j hj=>?_
 rw[zIE] at hj
 cases ha:rowOf a with
 | none=>rw[ha] at hj;cases hj
 | some i=>rw[ha] at hj;simp only[Option.map_some,Option.some.injEq] at hj;omega
end Go.Ax
