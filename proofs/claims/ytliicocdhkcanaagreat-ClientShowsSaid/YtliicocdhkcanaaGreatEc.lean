/-
 The executor on abstract memory, part 3: what it is, and that what it finds is so of the program.
-/
import Derived.Test.YtliicocdhkcanaaGreatEb
import Derived.RangeFuncNested
import Derived.RangeFuncRecord
set_option linter.unusedSimpArgs false
set_option linter.unusedVariables false
namespace Go.Ax
open Go
variable {Γ : Glob}
variable {P : Program} {W D : Nat -> Prop} {μ : Inj} {M M' : Mem} {w : World} {r : AV} {t : List AV} {a : Act} {o : Oper} {call : Tg->List AV->Mem->Option (AV × Mem)}
def Fen (F:Fence):Prop:=F=Fence.wide ∨ ∃ l,F=Fence.wide.inRound l
theorem Fen.fn {F:Fence}(h:Fen F)(f:FuncId):F.fn f:=by rcases h with rfl | ⟨l,rfl⟩ <;> trivial
theorem Fen.depth {F:Fence}(h:Fen F):F.depth=none:=by rcases h with rfl | ⟨l,rfl⟩ <;> rfl
def OpWp (Γ:Glob)(P:Program)(W D:Nat->Prop)(o:Oper)(a:Act)(μ:Inj)(M:Mem)(w:World)(r:AV)(M':Mem):Prop :=
 ∀ (F:Fence),Fen F -> ∀ (K:Act->World->Prop) (Q:Exit->Act->World->Prop),(∀ v w' μ',Res Γ P W D μ M w r M' v w' μ'->K (a.put o.dst v) w')->o.wpIn F 0 P a w K Q
theorem zAN.wp (h:zAN Γ P o W D a μ M w r M')(hd:∀ c,o.op ≠ .defer c):OpWp Γ P W D o a μ M w r M':=by
 intro F hF K Q hK
 obtain⟨v,w',μ',hr,hres⟩:=h
 refine⟨fun f _=>hF.fn f, ?_⟩
 rw[Oper.semAt_eq _ _ _ hd]
 rcases hr with hr | ⟨hr,rfl⟩
 ·rw[hr];exact hK v w' μ' hres
 ·rw[hr];exact hK undef w' μ' hres
def zCM (Γ:Glob)(P:Program)(μ:Inj)(M:Mem)(w:World)(r:AV)(M':Mem)(e:Ending)(w':World):Prop :=
 ∃ v μ',e = .returned v/\Res Γ P (· < M.size) (· < M.size) μ M w r M' v w' μ'
structure CallOK (Γ:Glob) (P:Program) (call:Tg->List AV->Mem->Option (AV × Mem)):Prop where
 le:∀ tg args M r M',call tg args M=some (r,M')->MemLe M M'
 fn:∀ f args M r M',call (.fn f) args M=some (r,M') -> ∀ (μ:Inj) (w:World) (vs:Array Value),RelOn Γ P (· < M.size) μ M.get w->VRels μ args vs.toList->(∀ i,M.size<=i->i<M'.size->μ i=none) ->
  (callFunc f vs).run P w = .ok (.enter f vs) w/\CallsIn Fence.wide 0 P f vs w (zCM Γ P μ M w r M')
 yl:∀ id args M r M',call (.yl id) args M=some (r,M') -> ∀ (μ:Inj) (w:World) (vs:Array Value) (p:Pl),μ id=some p->RelOn Γ P (· < M.size) μ M.get w->VRels μ args vs.toList->(∀ i,M.size<=i->i<M'.size->μ i=none) ->
  ∃ fn tmps assign body,(Instr.yield p.b vs).run P w = .ok (.round p.b fn tmps assign body) w/\RoundIn Fence.wide 0 P p.b fn tmps assign body w (zCM Γ P μ M w r M')
def zKY (Γ:Glob)(P:Program)(o:Oper):Prop :=
 (∀ (call:Tg->List AV->Mem->Option (AV × Mem)),CallOK Γ P call -> ∀ (g:FuncId) (e:TypeId) (st bytes:Nat) (x i y:Operand),zBE P o = .ins g e st bytes x i y ->
  ∀ (t:List AV) (M:Mem) (r:AV) (M':Mem) (μ:Inj) (w:World) (a:Act),RelOn Γ P (· < M.size) μ M.get w->(∀ q∈o.op.operands,VRel μ (zA5 t q) (a.eval q))->(∀ k,M.size<=k->k<M'.size->μ k=none) ->
   zA6 P call t M (.ins g e st bytes x i y)=some (r,M')->OpWp Γ P (· < M.size) (· < M.size) o a μ M w r M') /\
 ∀ (call:Tg->List AV->Mem->Option (AV × Mem)) (st:Nat) (x y:Operand),zBE P o = .ovl st x y ->
  ∀ (t:List AV) (M:Mem) (r:AV) (M':Mem) (μ:Inj) (w:World) (a:Act),RelOn Γ P (· < M.size) μ M.get w->(∀ q∈o.op.operands,VRel μ (zA5 t q) (a.eval q)) ->
   zA6 P call t M (.ovl st x y)=some (r,M')->OpWp Γ P (· < M.size) (· < M.size) o a μ M w r M'
def zMZ (Γ:Glob)(P:Program):Prop:=∀ o,zKY Γ P o
def zI4 (Γ:Glob)(P:Program):Code->Prop
 | .region _ ops _ => ∀ o∈ops,zKY Γ P o
 | .seq a b=>zI4 Γ P a/\zI4 Γ P b
 | .cond _ a b=>zI4 Γ P a/\zI4 Γ P b
 | .block _ b=>zI4 Γ P b
 | .loop b=>zI4 Γ P b
 | .scope b=>zI4 Γ P b
 | _=>True
theorem zMZ.code {P:Program}(h:zMZ Γ P):∀ c,zI4 Γ P c:=by
 intro c
 induction c with
 | region id ops d=>exact fun o _=>h o
 | seq a b iha ihb=>exact⟨iha,ihb⟩
 | cond c a b iha ihb=>exact⟨iha,ihb⟩
 | block id b ih=>exact ih
 | loop b ih=>exact ih
 | scope b ih=>exact ih
 | _=>trivial
theorem zcA (hc:CallOK Γ P call){f:Operand}{l:List Operand}(ho:zBE P o = .call f l)(R:RelOn Γ P (· < M.size) μ M.get w)(H:∀ q∈o.op.operands,VRel μ (zA5 t q) (a.eval q))(hfr:∀ k,M.size<=k->k<M'.size->μ k=none)
  (h:zA6 P call t M (.call f l)=some (r,M')):OpWp Γ P (· < M.size) (· < M.size) o a μ M w r M':=by
 obtain⟨c,hop,hcal,rfl⟩:=zTX ho
 have Hf:VRel μ (zA5 t f) (a.eval f):=H f (by rw[hop];simp only[Op.operands,Call.operands,hcal];exact Array.mem_append_left _ (by simp))
 have Ha:∀ x∈c.args.toList,VRel μ (zA5 t x) (a.eval x):=fun x hx=>H x (by rw[hop];simp only[Op.operands,Call.operands];exact Array.mem_append_right _ (by simpa using hx))
 have Hargs:=zGR _ Ha
 intro F hF K Q hK
 refine⟨fun f _=>hF.fn f, ?_⟩
 rw[Oper.semAt_eq _ _ _ (fun c' e=>by rw[hop] at e;cases e)]
 simp only[zA6] at h
 generalize hv:a.eval f=fv at Hf
 split at h
 ·rename_i g first cap hx
  rw[hx] at Hf
  cases Hf with
  | fn h1 h2 =>
   rename_i l' m'
   obtain⟨k1,k2⟩:=hc.fn _ _ _ _ _ h μ w (l'++c.args.map a.eval++m') R (by
    simp only[Array.toList_append,Array.toList_map]
    exact(h1.append Hargs).append h2) hfr
   have hrun:(execOp a.eval o).run P w = .ok (.enter g (l'++c.args.map a.eval++m')) w:=by
    simp only[execOp,hop,resolve,hcal,hv,Deferred.ofValue,Sem.run_bind,Sem.run_pure,Result.andThen_ok,invoke]
    exact k1
   rw[hrun]
   refine⟨(fun h=>by rw[hF.depth] at h;cases h), ?_⟩
   have k3:CallsIn F 0 P g (l'++c.args.map a.eval++m') w (zCM Γ P μ M w r M'):=by rcases hF with rfl | ⟨l,rfl⟩ <;> exact k2
   exact zE0n
 ·rename_i id hx
  rw[hx] at Hf
  cases Hf with
  | yl e =>
   rename_i p
   obtain⟨fn,tmps,assign,body,k1,k2⟩:=hc.yl _ _ _ _ _ h μ w (c.args.map a.eval) p e R (by simp only[Array.toList_map];exact Hargs) hfr
   have hrun:(execOp a.eval o).run P w = .ok (.round p.b fn tmps assign body) w:=by
    simp only[execOp,hop,resolve,hcal,hv,Deferred.ofValue,Sem.run_bind,Sem.run_pure,Result.andThen_ok,invoke]
    simpa using k1
   rw[hrun]
   refine⟨(fun h=>by rw[hF.depth] at h;cases h), ?_⟩
   have k3:RoundIn F 0 P p.b fn tmps assign body w (zCM Γ P μ M w r M'):=by rcases hF with rfl | ⟨l,rfl⟩ <;> exact k2
   exact zE0n
 ·cases h
theorem zQL {ao:AOp}(h:∀ rd wr,zAQ t ao ≠ .acc rd wr):(∃ f l,ao = .call f l)∨(∃ g e st b x i y,ao = .ins g e st b x i y)∨(∃ st x y,ao = .ovl st x y) ∨ ∃ s,ao = .bad s:=by
 cases ao
 case call f l=>exact .inl ⟨_,_,rfl⟩
 case ins=>exact .inr (.inl ⟨_,_,_,_,_,_,_,rfl⟩)
 case ovl=>exact .inr (.inr (.inl ⟨_,_,_,rfl⟩))
 case bad=>exact .inr (.inr (.inr ⟨_,rfl⟩))
 all_goals exact absurd rfl (h _ _)
theorem zdT (hc:∀ tg args M r M',call tg args M=some (r,M')->MemLe M M'){ao:AOp}(h:zA6 P call t M ao=some (r,M')):MemLe M M':=by
 by_cases hf:∃ rd wr,zAQ t ao = .acc rd wr
 ·obtain⟨rd,wr,hf⟩:=hf
  exact(zHY hf h).le
 ·rcases zQL (t:=t) (ao:=ao) (fun rd wr e=>hf ⟨rd,wr,e⟩) with⟨f,l,rfl⟩ | ⟨g,e',st,b,x,i,y,rfl⟩ | ⟨st,x,y,rfl⟩ | ⟨s,rfl⟩
  ·simp only[zA6] at h
   split at h
   ·exact hc _ _ _ _ _ h
   ·exact hc _ _ _ _ _ h
   ·cases h
  ·simp only[zA6] at h
   split at h
   ·repeat' split at h
    all_goals first
     | (cases h;done)
     | (cases h;exact(MemLe.put (by assumption)).trans (.new (by assumption)))
   ·exact hc _ _ _ _ _ h
  ·simp only[zA6] at h
   repeat' split at h
   all_goals first
    | (cases h;done)
    | (cases h;exact .refl _)
  ·simp [zA6] at h
theorem zaY (hc:CallOK Γ P call)(hi:zKY Γ P o)(hf:∀ rd wr,zAQ t (zBE P o) ≠ .acc rd wr)(R:RelOn Γ P (· < M.size) μ M.get w)(H:∀ q∈o.op.operands,VRel μ (zA5 t q) (a.eval q))(hfr:∀ k,M.size<=k->k<M'.size->μ k=none)
  (h:zA6 P call t M (zBE P o)=some (r,M')):OpWp Γ P (· < M.size) (· < M.size) o a μ M w r M':=by
 rcases zQL hf with⟨f,l,e⟩ | ⟨g,e',st,b,x,i,y,e⟩ | ⟨st,x,y,e⟩ | ⟨s,e⟩
 ·rw[e] at h
  exact zcA hc e R H hfr h
 ·rw[e] at h
  exact hi.1 call hc g e' st b x i y e t M r M' μ w a R H hfr h
 ·rw[e] at h
  exact hi.2 call st x y e t M r M' μ w a R H h
 ·rw[e] at h;simp [zA6] at h
theorem zaX {rd wr:List Nat}(hf:zAQ t (zBE P o) = .acc rd wr)(hD:∀ i,i∈rd∨i∈wr->D i)(hW:∀ i∈wr,W i)(R:RelOn Γ P D μ M.get w)(H:∀ q∈o.op.operands,VRel μ (zA5 t q) (a.eval q))(hfr:M.size<M'.size->μ M.size=none)
  (h:zA6 P call t M (zBE P o)=some (r,M')):OpWp Γ P W D o a μ M w r M':=by
 refine(zZT R H hfr ?_ h).wp (zZJ fun e=>by rw[e] at hf;cases hf).1
 rw[hf];exact⟨fun i hi=>hD i (.inl hi),fun i hi=>⟨hD i (.inr hi),hW i hi⟩⟩
variable {call : Tg -> List AV -> Mem -> Option (AV × Mem)}
theorem zG6 {o:AOper}{t:List AV}{M M':Mem}{f:FP}{v:AV}(h:zBJ P call o t M=some (f,v,M')) :
  (zBQ t o.guard=false/\f = .pure/\v=zA3/\M'=M) ∨
  (zBQ t o.guard=true /\ ∃ rd wr,zAQ t o.op = .acc rd wr/\(∀ i,i∈rd∨i∈wr->i<M.size)/\zA6 P call t M o.op=some (v,M')/\((f = .pure/\rd=[]/\wr=[]/\M.size=M'.size)∨f = .acc rd wr)) ∨
  (zBQ t o.guard=true/\(∀ rd wr,zAQ t o.op ≠ .acc rd wr) /\ ∃ M1,zA6 P call t ⟨M.t,M.size,M.size,false⟩ o.op=some (v,M1)/\M'=⟨M1.t,M1.size,M.wm,M.dirty || M1.dirty⟩/\((f = .wrs (chgF M M1 M.size)/\M1.dirty=true)∨(f = .quiet/\M1.dirty=false))):=by
 unfold zBJ at h
 split at h
 ·rename_i hw
  cases h
  exact .inl ⟨hw,rfl,rfl,rfl⟩
 ·rename_i hw
  split at h
  ·rename_i rd wr hf
   split at h
   ·rename_i hb
    simp only[Bool.and_eq_true,List.all_eq_true] at hb
    split at h
    ·rename_i v1 M1 he
     refine .inr (.inl ⟨hw,rd,wr,hf,fun i hi=>hi.elim (fun h=>(zAJ _ _).1 (hb.1 i h)) (fun h=>(zAJ _ _).1 (hb.2 i h)), ?_⟩)
     split at h
     ·rename_i hc
      cases h
      simp only[Bool.and_eq_true,List.isEmpty_iff] at hc
      exact⟨he,.inl ⟨rfl,hc.1.1,hc.1.2,Nat.eq_of_beq_eq_true hc.2⟩⟩
     ·cases h;exact⟨he,.inr rfl⟩
    ·cases h
   ·cases h
  ·rename_i hf
   split at h
   ·rename_i v1 M1 he
    cases h
    refine .inr (.inr ⟨hw,fun rd wr e=>hf rd wr e,M1,he,rfl, ?_⟩)
    cases M1.dirty
    ·exact .inr ⟨rfl,rfl⟩
    ·exact .inl ⟨rfl,rfl⟩
   ·cases h
def chg (f:FP)(n n' id:Nat):Bool:=match f with
 | .pure=>false
 | .acc _ w=>w.contains id || (Nat.ble n id&&Nat.blt id n')
 | .quiet=>Nat.ble n id&&Nat.blt id n'
 | .any=>Nat.blt id n'
 | .wrs w=>w.contains id || (Nat.ble n id&&Nat.blt id n')
theorem zDI {M:Mem}{i:Nat}(h:¬ i<M.size):M.get i=none:=by
 cases hg:M.get i with
 | none=>rfl
 | some o=>exact absurd (Mem.get_lt hg) h
theorem zMQ (hp:∀ tg args M r M',call tg args M=some (r,M')->MemLe M M'){o:AOper}{t:List AV}{M M':Mem}{f:FP}{v:AV}(h:zBJ P call o t M=some (f,v,M')) :
  MemLe M M' /\ ∀ id,chg f M.size M'.size id=false->M'.get id=M.get id:=by
 rcases zG6 h with⟨_,rfl,rfl,rfl⟩ | ⟨_,rd,wr,hf,_,he,hc⟩ | ⟨_,hf,M1,he,rfl,hc⟩
 ·exact⟨.refl _,fun _ _=>rfl⟩
 ·have ht:=zHY hf he
  refine⟨ht.le,fun id hid=>?_⟩
  rcases hc with⟨rfl,rfl,rfl,hs⟩ | rfl
  ·by_cases hi:id<M.size
   ·exact ht.keeps id hi (by simp)
   ·rw[zDI hi,zDI (by omega)]
  ·simp only[chg,Bool.or_eq_false_iff,Bool.and_eq_false_iff] at hid
   by_cases hi:id<M.size
   ·exact ht.keeps id hi (by simpa using hid.1)
   ·exact zE0p
 ·have hl:=zdT hp he
  have hg:∀ id,(⟨M1.t,M1.size,M.wm,M.dirty || M1.dirty⟩:Mem).get id=M1.get id:=fun _=>rfl
  have hl1:M.size<=M1.size:=hl.le
  refine⟨⟨hl1,rfl,fun hw hd=>?_⟩,fun id hid=>?_⟩
  ·simp only[Bool.or_eq_false_iff] at hd
   obtain⟨_,h2⟩:=hl.dirt (Nat.le_refl _) hd.2
   exact⟨hd.1,fun i hi=>(hg i).trans (h2 i (Nat.lt_of_lt_of_le hi hw))⟩
  ·rw[hg]
   rcases hc with⟨rfl,hd⟩ | ⟨rfl,hd⟩
   ·simp only[chg,Bool.or_eq_false_iff,Bool.and_eq_false_iff] at hid
    by_cases hi:id<M.size
    ·exact zIS hi (by simpa using hid.1)
    ·exact zE0p
   ·simp only[chg,Bool.and_eq_false_iff] at hid
    obtain⟨_,h2⟩:=hl.dirt (Nat.le_refl _) hd
    by_cases hi:id<M.size
    ·exact h2 id hi
    ·rw[zDI hi]
     rcases hid with h1 | h1
     ·exact absurd (Nat.ble_eq_true_of_le (by omega:M.size<=id)) (by rw[h1];simp)
     ·exact zDI ((zCE _ _).1 h1)
section sets
variable {L : List AOper} {t' : List AV} (R : Run P call L t M t' M')
def TS (S:Nat->Bool):Nat->List AV
 | 0=>R.T 0
 | k+1=>match S k,L[k]? with
  | true,some o=>putA (TS S k) o.dst (R.V k)
  | _,_=>TS S k
def ES (S:Nat->Bool):Nat->Cont
 | 0=>(R.Ms 0).get
 | k+1=>fun id=>if S k&&chg (R.F k) (R.Ms k).size (R.Ms (k+1)).size id then (R.Ms (k+1)).get id else ES S k id
def addS (S:Nat->Bool)(i:Nat):Nat->Bool:=fun j=>S j || j == i
theorem zQ6 {S:Nat->Bool}{id:Nat}(hk:∀ k,k<L.length->chg (R.F k) (R.Ms k).size (R.Ms (k+1)).size id=false->(R.Ms (k+1)).get id=(R.Ms k).get id){i:Nat}(hi:i<=L.length)
  (h1:∀ j,j<i->S j=false->chg (R.F j) (R.Ms j).size (R.Ms (j+1)).size id=false) (h2:∀ j,i<=j->j<L.length->S j=true->chg (R.F j) (R.Ms j).size (R.Ms (j+1)).size id=false) :
  ES R S L.length id=(R.Ms i).get id:=by
 have a:∀ k,k<=i->ES R S k id=(R.Ms k).get id:=by
  intro k
  induction k with
  | zero=>intro _;rfl
  | succ k ih =>
   intro hle
   simp only[ES]
   split
   ·rfl
   ·rename_i hc
    rw[ih (by omega),hk k (by omega)]
    cases hs:S k with
    | false=>exact h1 k (by omega) hs
    | true=>simpa [hs] using hc
 have b:∀ d,i+d<=L.length->ES R S (i+d) id=(R.Ms i).get id:=by
  intro d
  induction d with
  | zero=>intro _;exact a i (Nat.le_refl _)
  | succ d ih =>
   intro hle
   show ES R S (i+d+1) id=_
   simp only[ES]
   split
   ·rename_i hc
    simp only[Bool.and_eq_true] at hc
    rw[h2 (i+d) (by omega) (by omega) hc.1] at hc
    exact absurd hc.2 (by simp)
   ·exact ih (by omega)
 have:=b (L.length - i) (by omega)
 rwa [show i+(L.length - i)=L.length by omega] at this
theorem zRX {S:Nat->Bool}{i id:Nat}(h:chg (R.F i) (R.Ms i).size (R.Ms (i+1)).size id=false):∀ k,ES R (addS S i) k id=ES R S k id:=by
 intro k
 induction k with
 | zero=>rfl
 | succ k ih =>
  simp only[ES,addS]
  by_cases hk:k=i
  ·subst hk;simp only[h,Bool.and_false,if_false,Bool.false_eq_true];exact ih
  ·simp only[beq_eq_false_iff_ne.2 hk,Bool.or_false]
   split
   ·rfl
   ·exact ih
theorem zfA {S:Nat->Bool}{i id:Nat}(hi:i<L.length)(h:chg (R.F i) (R.Ms i).size (R.Ms (i+1)).size id=true)(h2:∀ j,i<j->j<L.length->S j=true->chg (R.F j) (R.Ms j).size (R.Ms (j+1)).size id=false) :
  ES R (addS S i) L.length id=(R.Ms (i+1)).get id:=by
 have b:∀ d,i+1+d<=L.length->ES R (addS S i) (i+1+d) id=(R.Ms (i+1)).get id:=by
  intro d
  induction d with
  | zero=>intro _;simp [ES,addS,h]
  | succ d ih =>
   intro hle
   show ES R (addS S i) (i+1+d+1) id=_
   simp only[ES]
   split
   ·rename_i hc
    simp only[Bool.and_eq_true,addS,Bool.or_eq_true,beq_iff_eq] at hc
    have hs:=hc.1.resolve_right (by omega)
    rw[h2 (i+1+d) (by omega) (by omega) hs] at hc
    exact absurd hc.2 (by simp)
   ·exact ih (by omega)
 have:=b (L.length - (i+1)) (by omega)
 rwa [show i+1+(L.length - (i+1))=L.length by omega] at this
theorem zGF (t:List AV)(d:Option Nat)(v:AV):(putA t d v).length=t.length:=by
 cases d with
 | none=>rfl
 | some d=>simp [putA,zCT]
theorem zH4 (t:List AV)(d:Option Nat)(v:AV)(u:Nat):(putA t d v)[u]? = if d=some u/\u<t.length then some v else t[u]? := by
 cases d with
 | none=>simp [putA]
 | some d =>
  simp only[putA,zCT,List.getElem?_set]
  by_cases h:d=u
  ·subst h
   by_cases h2:d<t.length
   ·simp [h2]
   ·simp [h2]
  ·simp [h]
theorem zXG:∀ k,k<=L.length->(R.T k).length=(R.T 0).length:=by
 intro k
 induction k with
 | zero=>intro _;rfl
 | succ k ih =>
  intro h
  have hk:L[k]? = some L[k]:=by simp
  rw[(R.step k _ hk).2,zGF,ih (by omega)]
theorem zTB (S:Nat->Bool):∀ k,(TS R S k).length=(R.T 0).length:=by
 intro k
 induction k with
 | zero=>rfl
 | succ k ih =>
  simp only[TS]
  split
  ·rw[zGF,ih]
  ·exact ih
def wtmp (L:List AOper)(k u:Nat):Prop:=∃ o,L[k]? = some o/\o.dst=some u
theorem zQ7 {S:Nat->Bool}{u i:Nat}(hi:i<=L.length)(h1:∀ j,j<i->S j=false -> ¬ wtmp L j u)(h2:∀ j,i<=j->j<L.length->S j=true -> ¬ wtmp L j u) :
  (TS R S L.length)[u]? = (R.T i)[u]? := by
 have a:∀ k,k<=i->(TS R S k)[u]? = (R.T k)[u]? := by
  intro k
  induction k with
  | zero=>intro _;rfl
  | succ k ih =>
   intro hle
   have hk:L[k]? = some L[k]:=by simp
   rw[(R.step k _ hk).2]
   simp only[TS,hk]
   cases hs:S k with
   | true =>
    simp only
    rw[zH4,zH4,ih (by omega),zTB,zXG R k (by omega)]
   | false =>
    simp only
    rw[zH4,ih (by omega),if_neg]
    rintro⟨h,_⟩
    exact h1 k (by omega) hs ⟨_,hk,h⟩
 have b:∀ d,i+d<=L.length->(TS R S (i+d))[u]? = (R.T i)[u]? := by
  intro d
  induction d with
  | zero=>intro _;exact a i (Nat.le_refl _)
  | succ d ih =>
   intro hle
   show (TS R S (i+d+1))[u]? = _
   have hk:L[i+d]? = some L[i+d]:=by simp
   simp only[TS,hk]
   cases hs:S (i+d) with
   | true =>
    simp only
    rw[zH4,ih (by omega),if_neg]
    rintro⟨h,_⟩
    exact h2 (i+d) (by omega) (by omega) hs ⟨_,hk,h⟩
   | false=>exact ih (by omega)
 have:=b (L.length - i) (by omega)
 rwa [show i+(L.length - i)=L.length by omega] at this
theorem zfC {S:Nat->Bool}{i:Nat}{o:AOper}(ho:L[i]? = some o)(hs:S i=false)(h2:∀ j u,i<j->j<L.length->S j=true->o.dst=some u -> ¬ wtmp L j u) :
  TS R (addS S i) L.length=putA (TS R S L.length) o.dst (R.V i):=by
 have hi:i<L.length:=(List.getElem?_eq_some_iff.1 ho).1
 have a:∀ k,k<=i->TS R (addS S i) k=TS R S k:=by
  intro k
  induction k with
  | zero=>intro _;rfl
  | succ k ih =>
   intro hle
   simp only[TS,addS,beq_eq_false_iff_ne.2 (show k≠i by omega),Bool.or_false]
   rw[ih (by omega)]
 have b:∀ d,i+1+d<=L.length->TS R (addS S i) (i+1+d)=putA (TS R S (i+1+d)) o.dst (R.V i):=by
  intro d
  induction d with
  | zero =>
   intro _
   simp only[Nat.add_zero,TS,addS,hs,beq_self_eq_true,Bool.or_true,ho]
   rw[a i (Nat.le_refl _)]
  | succ d ih =>
   intro hle
   show TS R (addS S i) (i+1+d+1)=putA (TS R S (i+1+d+1)) o.dst (R.V i)
   have hk:L[i+1+d]? = some L[i+1+d]:=by simp
   have e:addS S i (i+1+d)=S (i+1+d):=by simp only[addS,beq_eq_false_iff_ne.2 (show i+1+d≠i by omega),Bool.or_false]
   simp only[TS,hk,e]
   cases hs':S (i+1+d) with
   | false=>exact ih (by omega)
   | true =>
    simp only
    rw[ih (by omega)]
    apply List.ext_getElem?
    intro u
    simp only[zH4,zGF]
    by_cases h3:o.dst=some u
    ·have:=h2 (i+1+d) u (by omega) (by omega) hs' h3
     have h4:¬ (L[i+1+d].dst=some u):=fun h=>this ⟨_,hk,h⟩
     simp [h4]
    ·simp [h3]
 have:=b (L.length - (i+1)) (by omega)
 rwa [show i+1+(L.length - (i+1))=L.length by omega] at this
end sets
theorem FP.apart_symm (f g:FP)(h:FP.apart f g=true):FP.apart g f=true:=by
 cases f <;> cases g <;> simp_all [FP.apart,disj,FP.reads,FP.writes]
 rename_i r w r' w'
 obtain⟨⟨h1,h2⟩,h3⟩:=h
 exact⟨⟨fun x hx hy=>h3 x hy hx,fun x hx hy=>h2 x hy hx⟩,fun x hx hy=>h1 x hy hx⟩
def rel (f:FP)(n id:Nat):Prop:=match f with
 | .pure=>False
 | .acc r w=>id∈r∨id∈w
 | _=>id<n
theorem zIJ {f g:FP}{n m m' id:Nat}(h:FP.apart f g=true)(hr:rel f n id)(hc:chg g m m' id=true):m<=id/\id<m':=by
 cases g with
 | pure=>simp [chg] at hc
 | acc r' w' =>
  simp only[chg,Bool.or_eq_true,Bool.and_eq_true] at hc
  rcases hc with hc | hc
  ·exfalso
   have hc:id∈w':=by simpa using hc
   cases f with
   | pure=>exact hr
   | acc r w =>
    simp only[FP.apart,FP.reads,FP.writes,Bool.and_eq_true,disj,List.all_eq_true] at h
    rcases hr with hr | hr
    ·have:=h.2 id hr;simp at this;exact this hc
    ·have:=h.1.2 id hr;simp at this;exact this hc
   | quiet=>simp [FP.apart,FP.writes] at h;rw[h] at hc;simp at hc
   | any=>simp [FP.apart] at h
   | wrs w=>simp [FP.apart] at h;rw[h.1] at hc;simp at hc
  ·exact⟨Nat.le_of_ble_eq_true hc.1,(zAJ _ _).1 hc.2⟩
 | quiet =>
  simp only[chg,Bool.and_eq_true] at hc
  exact⟨Nat.le_of_ble_eq_true hc.1,(zAJ _ _).1 hc.2⟩
 | any =>
  exfalso
  cases f with
  | pure=>exact hr
  | _=>simp [FP.apart] at h
 | wrs w' =>
  simp only[chg,Bool.or_eq_true,Bool.and_eq_true] at hc
  rcases hc with hc | hc
  ·exfalso
   have hc:id∈w':=by simpa using hc
   cases f with
   | pure=>exact hr
   | acc r w =>
    simp only[FP.apart,Bool.and_eq_true,disj,List.all_eq_true,List.isEmpty_iff] at h
    rcases hr with hr | hr
    ·have:=h.2 id hc;simp at this;exact this hr
    ·rw[h.1] at hr;simp at hr
   | quiet=>simp [FP.apart,FP.writes] at h;rw[h] at hc;simp at hc
   | any=>simp [FP.apart] at h
   | wrs w=>simp [FP.apart] at h;rw[h.2] at hc;simp at hc
  ·exact⟨Nat.le_of_ble_eq_true hc.1,(zAJ _ _).1 hc.2⟩
section
variable {L : List AOper} {t' : List AV} (R : Run P call L t M t' M')
structure DInv (Γ:Glob) (S:Nat->Bool) (μ0:Inj) (w0:World) (a0 a:Act) (w:World) (μ:Inj):Prop where
 tm:VRels μ (TS R S L.length) a.tmps.toList
 df:a.defers=a0.defers
 on:RelOn Γ P (· < (R.Ms L.length).size) μ (ES R S L.length) w
 fr:∀ j,j<L.length->S j=false -> ∀ id,(R.Ms j).size<=id->id<(R.Ms (j+1)).size->μ id=none
 ext:Ext (· < M.size) μ0 M.size M.get w0 μ (R.Ms L.length).size (ES R S L.length) w
theorem zc1 (hl:∀ k,k<L.length->(R.Ms k).size<=(R.Ms (k+1)).size):∀ i j,i<=j->j<=L.length->(R.Ms i).size<=(R.Ms j).size:=by
 intro i j hij hj
 obtain⟨d,rfl⟩:∃ d,j=i+d:=⟨j - i,by omega⟩
 clear hij
 induction d with
 | zero=>exact Nat.le_refl _
 | succ d ih=>exact Nat.le_trans (ih (by omega)) (hl (i+d) (by omega))
theorem Ext.step {n0 n n' N:Nat}{μ0 μ μ':Inj}{E0 E E₀ E₁ E':Cont}{w0 w w':World}{W:Nat->Prop}(X:Ext (· < n0) μ0 n0 E0 w0 μ N E w)(Y:Ext W μ n E₀ w μ' n' E₁ w')(h0:n0<=n)(hN:n'<=N)
  (hfr:∀ i,n0<=i->i<N->μ0 i=none) (hE:∀ i p,W i->i<n->μ i=some p->E₀ i=E i) (hE':∀ i p,i<n0->μ i=some p->(E' i=E i∨(W i/\E' i=E₁ i))) (hEn:∀ i,i<n0->μ i=none->E' i=E i∨(E₀ i=E i/\E' i=E₁ i)) (hW1:∀ i p,W i->i<n->μ i=some p->E' i=E₁ i) :
  Ext (· < n0) μ0 n0 E0 w0 μ' N E' w':=by
 have dead:∀ i q,i<n0->μ i=some q -> ¬ live E i -> ¬ live E' i:=fun i q hi hq hd=>by
  rcases hE' i q hi hq with h | ⟨hw,h⟩
  ·rw[zBP h];exact hd
  ·rw[zBP h];exact Y.gone i (by omega) (by rw[zBP (hE i q hw (by omega) hq)];exact hd)
 have moved:∀ b,(∃ i q,W i/\i<n/\μ i=some q/\q.b=b/\live E₀ i /\ ¬ live E₁ i)->w0.heap.size<=b ∨ ∃ i q,i<n0/\i<n0/\μ0 i=some q/\q.b=b/\live E0 i /\ ¬ live E' i:=by
  rintro b ⟨i,q,hi,hn,hq,hb,hl,hd⟩
  by_cases hin:i<n0
  ·cases hμi:μ0 i with
   | some q' =>
    have e:=X.sub _ _ hμi
    rw[hq] at e;cases e
    refine .inr ⟨i,q,hin,hin,hμi,hb,Classical.byContradiction fun e=>?_,by rw[zBP (hW1 i q hi hn hq)];exact hd⟩
    have:=X.gone i hin e
    rw[<- zBP (hE i q hi hn hq)] at this
    exact this hl
   | none=>exact absurd (X.new i q hq hμi).1 (by omega)
  ·have hμi:μ0 i=none:=by
    by_cases hiN:i<N
    ·exact hfr i (by omega) hiN
    ·cases hμi:μ0 i with
     | none=>rfl
     | some q'=>exact absurd (by have:=Y.le;omega:i<N) hiN
   obtain⟨x',y',z'⟩:=X.new i q hq hμi
   rcases z' with z' | ⟨i',q',hi',hn',hq',hb',hl',hd'⟩
   ·exact .inl (hb ▸ z')
   ·exact .inr ⟨i',q',hi',hn',hq',hb'.trans hb,hl',dead i' q' hn' (X.sub _ _ hq') hd'⟩
 refine⟨Inj.le_trans X.sub Y.sub,fun id p h1 h2=>?_,fun b x h1 h2=>?_,X.le,Nat.le_trans X.hs Y.hs,fun b hb hf=>?_,fun i hi hw=>absurd hi hw,fun i hi hd=>?_,Y.os.trans X.os,Y.tape.trans X.tape,Y.output.trans X.output⟩
 ·cases hμ:μ id with
  | some p' =>
   have hp:=Y.sub _ _ hμ
   rw[h1] at hp;cases hp
   obtain⟨x,y,z⟩:=X.new id p hμ h2
   refine⟨x,y,z.imp (fun z=>z) ?_⟩
   rintro⟨i,q,hi,hn,hq,hb,hl,hd⟩
   exact⟨i,q,hi,hn,hq,hb,hl,dead i q hn (X.sub _ _ hq) hd⟩
  | none =>
   obtain⟨x,y,z⟩:=Y.new id p h1 hμ
   refine⟨by omega,by omega, ?_⟩
   rcases z with z | z
   ·exact .inl (Nat.le_trans X.hs z)
   ·exact moved _ z
 ·cases hf:μ.f b with
  | some x' =>
   refine(X.fnew b x' hf h2).imp (fun z=>z) ?_
   rintro⟨i,q,hi,hn,hq,hb,hl,hd⟩
   exact⟨i,q,hi,hn,hq,hb,hl,dead i q hn (X.sub _ _ hq) hd⟩
  | none =>
   rcases Y.fnew b x h1 hf with z | z
   ·exact .inl (Nat.le_trans X.hs z)
   ·exact moved _ z
 ·rw[Y.frame b (Nat.lt_of_lt_of_le hb X.hs) ?_]
  ·exact X.frame b hb hf
  ·intro i q hi hn hq hl e
   by_cases hin:i<n0
   ·cases hμi:μ0 i with
    | some q' =>
     have e':=X.sub _ _ hμi
     rw[hq] at e';cases e'
     refine hf i q hin hin hμi (Classical.byContradiction fun e=>?_) e
     have:=X.gone i hin e
     rw[<- zBP (hE i q hi hn hq)] at this
     exact this hl
    | none=>exact absurd (X.new i q hq hμi).1 (by omega)
   ·have hμi:μ0 i=none:=hfr i (by omega) (by have:=Y.le;omega)
    obtain⟨x,y,z⟩:=X.new i q hq hμi
    rcases z with z | ⟨i',q',hi',hn',hq',hb',hl',hd'⟩
    ·omega
    ·exact hf i' q' hi' hn' hq' hl' (hb'.trans e)
 ·have hd':=X.gone i hi hd
  have he:=X.dead i hi hd
  cases hμ:μ i with
  | some p =>
   rcases hE' i p hi hμ with h | ⟨hw,h⟩
   ·exact h.trans he
   ·have e1:=hE i p hw (by omega) hμ
    exact h.trans ((Y.dead i (by omega) (by rw[zBP e1];exact hd')).trans (e1.trans he))
  | none =>
   rcases hEn i hi hμ with h | ⟨h1,h2⟩
   ·exact h.trans he
   ·exact h2.trans ((Y.dead i (by omega) (by rw[zBP h1];exact hd')).trans (h1.trans he))
end
section
variable {L : List AOper} {t' : List AV} (R : Run P call L t M t' M')
theorem zK0 (hl:∀ k,k<L.length->(R.Ms k).size<=(R.Ms (k+1)).size)(hk:∀ k,k<L.length -> ∀ id,chg (R.F k) (R.Ms k).size (R.Ms (k+1)).size id=false->(R.Ms (k+1)).get id=(R.Ms k).get id)
  {S:Nat->Bool} {μ0:Inj} {w0:World} {a0 a:Act} {w:World} {μ:Inj} (inv:DInv R Γ S μ0 w0 a0 a w μ) (hfr0:∀ i,M.size<=i->i<M'.size->μ0 i=none) {i:Nat} {o:AOper} (ho:L[i]? = some o) (hSi:S i=false)
  {W Dr:Nat->Prop} {v:Value} {w':World} {μ':Inj} (res:Res Γ P W Dr μ (R.Ms i) w (R.V i) (R.Ms (i+1)) v w' μ') (hW:∀ id,W id->id<(R.Ms i).size/\Dr id)
  (hag:∀ id p,W id->μ id=some p->(R.Ms i).get id=ES R S L.length id)
  (hag0:∀ id,id<M.size->chg (R.F i) (R.Ms i).size (R.Ms (i+1)).size id=true->(R.Ms i).get id=ES R S L.length id)
  (hchg:∀ id,chg (R.F i) (R.Ms i).size (R.Ms (i+1)).size id=true->W id∨((R.Ms i).size<=id/\id<(R.Ms (i+1)).size))
  (hlater:∀ id,(W id∨((R.Ms i).size<=id/\id<(R.Ms (i+1)).size))->chg (R.F i) (R.Ms i).size (R.Ms (i+1)).size id=true -> ∀ j,i<j->j<L.length->S j=true->chg (R.F j) (R.Ms j).size (R.Ms (j+1)).size id=false)
  (htmp:∀ j u,i<j->j<L.length->S j=true->o.dst=some u -> ¬ wtmp L j u) (hnew:∀ id,(R.Ms i).size<=id->id<(R.Ms (i+1)).size->(R.Ms i).get id≠(R.Ms (i+1)).get id->chg (R.F i) (R.Ms i).size (R.Ms (i+1)).size id=true) :
  DInv R Γ (addS S i) μ0 w0 a0 (a.put o.dst v) w' μ':=by
 have hi:i<L.length:=(List.getElem?_eq_some_iff.1 ho).1
 have hle:=zc1 R hl
 have hN:(R.Ms (i+1)).size<=(R.Ms L.length).size:=hle _ _ (by omega) (Nat.le_refl _)
 have h0:M.size<=(R.Ms i).size:=by have:=hle 0 i (by omega) (by omega);rwa [R.m0] at this
 have hM':M'=R.Ms L.length:=R.m1.symm
 have hfri:=inv.fr i hi hSi
 -- contents behind
 have same:∀ id,chg (R.F i) (R.Ms i).size (R.Ms (i+1)).size id=false->ES R (addS S i) L.length id=ES R S L.length id:=fun id h=>zRX R h _
 have turned:∀ id,(W id∨((R.Ms i).size<=id/\id<(R.Ms (i+1)).size))->chg (R.F i) (R.Ms i).size (R.Ms (i+1)).size id=true->ES R (addS S i) L.length id=(R.Ms (i+1)).get id:=fun id hw h =>
  zfA R hi h (hlater id hw h)
 have newS:∀ id,W id->id<(R.Ms i).size:=fun id h=>(hW id h).1
 have e1:∀ id p,(W id∨(R.Ms i).size<=id/\id<(R.Ms (i+1)).size)->μ' id=some p->ES R (addS S i) L.length id=(R.Ms (i+1)).get id:=fun id p hw hp=>by
  cases hc:chg (R.F i) (R.Ms i).size (R.Ms (i+1)).size id with
  | true=>exact turned id hw hc
  | false =>
   rcases hw with hw | hw
   ·rw[same id hc,hk i hi id hc]
    cases hμ:μ id with
    | some q=>exact(hag id q hw hμ).symm
    | none=>exact absurd (res.ext.new id p hp hμ).1 (by have:=newS id hw;omega)
   ·-- a new number that is not there: the world says otherwise
    obtain⟨_,obj,h2,_⟩:=res.on.ok id p (.inr hw) hp
    have hn:(R.Ms i).get id=none:=zDI (by omega)
    have:=hnew id hw.1 hw.2 (by rw[hn,h2];simp)
    rw[hc] at this;cases this
 have e2:∀ id p,id<(R.Ms L.length).size -> ¬ W id -> ¬ ((R.Ms i).size<=id/\id<(R.Ms (i+1)).size)->μ id=some p->ES R (addS S i) L.length id=ES R S L.length id:=fun id p _ hw hn _=>by
  cases hc:chg (R.F i) (R.Ms i).size (R.Ms (i+1)).size id with
  | true=>exact absurd (hchg id hc) (fun h=>h.elim hw hn)
  | false=>exact same id hc
 refine⟨?_, ?_, ?_, ?_, ?_⟩
 ·rw[zfC R ho hSi htmp]
  exact zPR (t:=TS R S L.length) (inv.tm.mono res.ext.sub) o.dst res.rel
 ·cases hd:o.dst <;> exact inv.df
 ·have:=inv.on.extend (W:=W) (n:=(R.Ms i).size) (n':=(R.Ms (i+1)).size) (E₀:=(R.Ms i).get) (E₁:=(R.Ms (i+1)).get) (E':=ES R (addS S i) L.length) newS (fun id p h _=>by have:=newS id h;have:=hl i hi;omega)
   res.ext hag e2 e1 (res.on.sub fun id h=>h.elim (fun h => .inl (hW id h).2) .inr) (fun id h1 h2=>hfri id h1 h2)
  exact this.sub fun id h => .inl h
 ·intro j hj hS id h1 h2
  simp only[addS,Bool.or_eq_false_iff,beq_eq_false_iff_ne] at hS
  have hμ:=inv.fr j hj hS.1 id h1 h2
  cases hμ':μ' id with
  | none=>rfl
  | some p =>
   obtain⟨k1,k2,_⟩:=res.ext.new id p hμ' hμ
   rcases Nat.lt_or_ge j i with h | h
   ·have:=hle (j+1) i (by omega) (by omega);omega
   ·have:=hle (i+1) j (by omega) (by omega);omega
 ·refine Ext.step inv.ext res.ext h0 hN (fun id h1 h2=>hfr0 id h1 (by rw[hM'];exact h2)) (fun id p h _ hp=>hag id p h hp) (fun id p h hp=>?_) (fun id h hp=>?_) (fun id p h _ hp=>e1 id p (.inl h) (res.ext.sub _ _ hp))
  ·by_cases hw:W id
   ·exact .inr ⟨hw,e1 id p (.inl hw) (res.ext.sub _ _ hp)⟩
   ·exact .inl (e2 id p (by have:=hl i hi;omega) hw (by omega) hp)
  ·cases hc:chg (R.F i) (R.Ms i).size (R.Ms (i+1)).size id with
   | false=>exact .inl (same id hc)
   | true=>exact .inr ⟨hag0 id h hc,turned id (hchg id hc) hc⟩
end
theorem zCX {ops:Array Oper}{i:Nat}{o:Oper}(h:ops[i]? = some o) :
  (zAW P ops)[i]? = some { dst:=o.dst,op:=zBE P o,guard:=o.guard.map fun (j,w)=>(((ops[j]?).bind (·.dst)).getD 1000000,w),unord:=zDD ops i }:=by
 have hi:i<ops.size:=(Array.getElem?_eq_some_iff.1 h).1
 have e:ops[i]=o:=(Array.getElem?_eq_some_iff.1 h).2
 subst e
 simp [zAW,hi]
theorem zE0 (ops:Array Oper):(zAW P ops).length=ops.size:=by simp [zAW]
theorem zKM {l l':List AV}{u:Nat}(h:l[u]? = l'[u]?):nth zA3 l u=nth zA3 l' u:=by rw[zG2,zG2,h]
theorem zHS {μ:Inj}{ts:List AV}{a:Act}{ops:Array Oper}{o:Oper}(h:VRels μ ts a.tmps.toList)(hg:∀ j w,o.guard=some (j,w)->((ops[j]?).bind (·.dst)).isSome=true) :
  Region.wanted o (yielded ops a.tmps)=zBQ ts (o.guard.map fun (j,w)=>(((ops[j]?).bind (·.dst)).getD 1000000,w)):=by
 cases hgd:o.guard with
 | none=>simp [Region.wanted,hgd,zBQ]
 | some jw =>
  obtain⟨j,want⟩:=jw
  have hs:=hg j want hgd
  cases hd:(ops[j]?).bind (·.dst) with
  | none=>rw[hd] at hs;cases hs
  | some d =>
   simp only[Region.wanted,hgd,Option.map_some,zBQ,hd,Option.getD_some,yielded,Option.bind_some,zG2]
   cases ht:ts[d]? with
   | none =>
    have:a.tmps[d]? = none:=by
     have:=h.length
     rw[List.getElem?_eq_none_iff] at ht
     rw[Array.getElem?_eq_none_iff,<- Array.length_toList];omega
    rw[this]
    simp [zA3,undef]
   | some x =>
    obtain⟨v,hv,hr⟩:=h.get d ht
    rw[Array.getElem?_toList] at hv
    rw[hv]
    simp only[Option.getD_some]
    cases hr with
    | sc v=>cases v <;> simp
    | _=>simp
section
variable {ops : Array Oper} {t' : List AV}
theorem zU9 (hc:CallOK Γ P call)(hins:∀ o∈ops,zKY Γ P o)(hreg:zO1 P ops=true)(R:Run P call (zAW P ops) t M t' M'){S:Nat->Bool}{μ0:Inj}{w0:World}{a0 a:Act}{w:World}{μ:Inj}
  (inv:DInv R Γ S μ0 w0 a0 a w μ) (hfr0:∀ i,M.size<=i->i<M'.size->μ0 i=none) (hcl:Closed ops (fun j=>S j=true)) {i:Nat} (hi:i<ops.size) (hSi:S i=false)
  (hready:∀ o,ops[i]? = some o -> ∀ e∈o.after.toList,Region.binds .any e=true->S e.on=true) (F:Fence) (hF:Fen F) (K:Act->World->Prop) (Q:Exit->Act->World->Prop)
  (hK:∀ a' w' μ',DInv R Γ (addS S i) μ0 w0 a0 a' w' μ'->K a' w'):wpOpIn F 0 P ops Q i K a w:=by
 have hlen:=zE0 (P:=P) ops
 -- what zO1 says
 unfold zO1 at hreg
 simp only[Bool.and_eq_true,List.all_eq_true,List.mem_range] at hreg
 obtain⟨_,hreg⟩:=hreg
 have hreg':∀ k o,ops[k]? = some o->(∀ e∈o.after.toList,Region.binds .any e=true->e.on<k)/\(∀ j∈zDD ops k,∃ q,ops[j]? = some q/\o.apart ops q=true)/\(∀ j w,o.guard=some (j,w)->((ops[j]?).bind (·.dst)).isSome=true):=by
  intro k o hk
  have h:=hreg k (Array.getElem?_eq_some_iff.1 hk).1
  simp only[hk,Bool.and_eq_true] at h
  obtain⟨⟨h1,h2⟩,h3⟩:=h
  refine⟨fun e he hb=>?_,fun j hj=>?_,fun j w hg=>?_⟩
  ·rw[Array.all_eq_true'] at h1
   have:=h1 e (by simpa using he)
   simp only[hb,Bool.not_true,Bool.false_or] at this
   exact(zAJ _ _).1 this
  ·have:=List.all_eq_true.1 h2 j hj
   split at this
   ·rename_i q hq;exact⟨q,hq,this⟩
   ·cases this
  ·rw[hg] at h3;exact h3
 have hback:Back ops:=fun k o hk=>(hreg' k o hk).1
 have ho:ops[i]? = some ops[i]:=by simp
 generalize hoi:ops[i]=o at ho
 have hLi:=zCX (P:=P) ho
 -- sizes,and what is kept
 have hsl:∀ k,k<(zAW P ops).length->MemLe (R.Ms k) (R.Ms (k+1)) /\ ∀ id,chg (R.F k) (R.Ms k).size (R.Ms (k+1)).size id=false->(R.Ms (k+1)).get id=(R.Ms k).get id:=fun k hk=>by
  have hk':(zAW P ops)[k]? = some (zAW P ops)[k]:=by simp
  exact zMQ hc.le (R.step k _ hk').1
 have hl:∀ k,k<(zAW P ops).length->(R.Ms k).size<=(R.Ms (k+1)).size:=fun k hk=>(hsl k hk).1.le
 have hle:=zc1 R hl
 -- operations that have no order
 have un1:∀ j,j<i->S j=false->j∈zDD ops i/\i∈zDD ops j:=fun j hj hs=>by
  have n1:¬ Rch ops i j:=fun h=>by have:=h.ready hcl hready;rw[hs] at this;cases this
  have n2:¬ Rch ops j i:=fun h=>by have:=h.lt hback;omega
  exact⟨zFT hi (by omega) (by omega) n1 n2,zFT (by omega) hi (by omega) n2 n1⟩
 have un2:∀ j,i<j->j<ops.size->S j=true->j∈zDD ops i/\i∈zDD ops j:=fun j hj hjn hs=>by
  have n1:¬ Rch ops i j:=fun h=>by have:=h.lt hback;omega
  have n2:¬ Rch ops j i:=fun h=>by have:=h.closed hcl hs;rw[hSi] at this;cases this
  exact⟨zFT hi hjn (by omega) n1 n2,zFT hjn hi (by omega) n2 n1⟩
 have ap:∀ j k,k<j->j<ops.size->k∈zDD ops j->zBS (R.F j) (R.F k,(R.Ms k).size,(R.Ms (k+1)).size)=true:=fun j k hkj hj hu=>by
  have hj':ops[j]? = some ops[j]:=by simp
  exact R.apart j _ (zCX hj') k hkj hu
 have ap1:∀ j,j<i->S j=false->FP.apart (R.F i) (R.F j)=true:=fun j hj hs=>by
  have:=ap i j hj hi (un1 j hj hs).1
  simp only[zBS,Bool.and_eq_true] at this
  exact this.1.1
 have ap2:∀ j,i<j->j<ops.size->S j=true->FP.apart (R.F i) (R.F j)=true /\ ∀ id,id∈(R.F j).reads∨id∈(R.F j).writes -> ¬ ((R.Ms i).size<=id/\id<(R.Ms (i+1)).size):=fun j hj hjn hs=>by
  have:=ap j i hj hjn (un2 j hj hjn hs).2
  simp only[zBS,Bool.and_eq_true,List.all_eq_true] at this
  refine⟨FP.apart_symm _ _ this.1.1,fun id hid hb=>?_⟩
  have h1:(Nat.ble (R.Ms i).size id&&Nat.blt id (R.Ms (i+1)).size)=true:=by
   rw[Bool.and_eq_true];exact⟨Nat.ble_eq_true_of_le hb.1,(zAJ _ _).2 hb.2⟩
  rcases hid with hid | hid
  ·have:=this.1.2 id hid;rw[h1] at this;cases this
  ·have:=this.2 id hid;rw[h1] at this;cases this
 -- contents and temporaries at i
 have agree:∀ id,rel (R.F i) (R.Ms i).size id->id<(R.Ms i).size->((∃ p,μ id=some p)∨id<M.size)->ES R S (zAW P ops).length id=(R.Ms i).get id:=fun id hr hlt hm=>by
  refine zQ6 R (fun k hk=>(hsl k hk).2 id) (by omega) (fun j hj hs=>?_) (fun j hj hjn hs=>?_)
  ·cases hcg:chg (R.F j) (R.Ms j).size (R.Ms (j+1)).size id with
   | false=>rfl
   | true =>
    have hb:=zIJ (ap1 j hj hs) hr hcg
    rcases hm with⟨p,hp⟩ | hm
    ·rw[inv.fr j (by omega) hs id hb.1 hb.2] at hp;cases hp
    ·have h0:=hle 0 j (by omega) (by omega);rw[R.m0] at h0;omega
  ·have hne:j≠i:=fun e=>by subst e;rw[hSi] at hs;cases hs
   cases hcg:chg (R.F j) (R.Ms j).size (R.Ms (j+1)).size id with
   | false=>rfl
   | true =>
    have hb:=zIJ (ap2 j (by omega) (by omega) hs).1 hr hcg
    have:=hle i j (by omega) (by omega);omega
 have later:∀ id,(rel (R.F i) (R.Ms i).size id/\id<(R.Ms i).size∨((R.Ms i).size<=id/\id<(R.Ms (i+1)).size))->chg (R.F i) (R.Ms i).size (R.Ms (i+1)).size id=true -> ∀ j,i<j->j<(zAW P ops).length->S j=true->chg (R.F j) (R.Ms j).size (R.Ms (j+1)).size id=false:=fun id hid hci j hj hjn hs=>by
  rw[hlen] at hjn
  obtain⟨k1,k2⟩:=ap2 j hj hjn hs
  have hsz:=hle (i+1) j (by omega) (by omega)
  have hsz':=hl i (by omega)
  cases hcg:chg (R.F j) (R.Ms j).size (R.Ms (j+1)).size id with
  | false=>rfl
  | true =>
   rcases hid with⟨hr,hlt⟩ | hn
   ·have hb:=zIJ k1 hr hcg;omega
   ·exfalso
    cases hfj:R.F j with
    | pure=>rw[hfj] at hcg;simp [chg] at hcg
    | acc r' w' =>
     exact zE0e
    | quiet=>rw[hfj] at hcg;simp only[chg,Bool.and_eq_true] at hcg;have:=Nat.le_of_ble_eq_true hcg.1;omega
    | wrs w' =>
     exact zE0e
    | any =>
     rw[hfj] at k1
     cases hfi:R.F i with
     | pure=>rw[hfi] at hci;simp [chg] at hci
     | _=>rw[hfi] at k1;simp [FP.apart] at k1
 have tmpA:∀ u,u∈o.looksAt ops->(TS R S (zAW P ops).length)[u]? = (R.T i)[u]? := fun u hu=>by
  refine zQ7 R (by omega) (fun j hj hs=>?_) (fun j hj hjn hs=>?_)
  ·rintro⟨q,hq,hd⟩
   obtain⟨q',hq',ha⟩:=(hreg' i o ho).2.1 j (un1 j hj hs).1
   rw[zCX hq'] at hq;cases hq
   exact(Oper.apart_spec ha).2.2 u hd hu
  ·rintro⟨q,hq,hd⟩
   have hne:j≠i:=fun e=>by subst e;rw[hSi] at hs;cases hs
   obtain⟨q',hq',ha⟩:=(hreg' i o ho).2.1 j (un2 j (by omega) (by omega) hs).1
   rw[zCX hq'] at hq;cases hq
   exact(Oper.apart_spec ha).2.2 u hd hu
 have tmpB:∀ j u,i<j->j<(zAW P ops).length->S j=true->o.dst=some u -> ¬ wtmp (zAW P ops) j u:=fun j u hj hjn hs hd=>by
  rintro⟨q,hq,hdq⟩
  obtain⟨q',hq',ha⟩:=(hreg' i o ho).2.1 j (un2 j (by omega) (by omega) hs).1
  rw[zCX hq'] at hq;cases hq
  exact(Oper.apart_spec ha).2.1 u hd hdq
 have evalE:∀ x∈o.op.operands,zA5 (R.T i) x=zA5 (TS R S (zAW P ops).length) x:=fun x hx=>by
  cases x with
  | tmp u =>
   simp only[zA5]
   refine zKM (tmpA u ?_).symm
   simp only[Oper.looksAt,List.mem_append,List.mem_filterMap]
   exact .inl ⟨.tmp u,by simpa using hx,rfl⟩
  | _=>rfl
 have H:∀ x∈o.op.operands,VRel μ (zA5 (R.T i) x) (a.eval x):=fun x hx=>by
  rw[evalE x hx];exact zFM inv.tm x
 have hguard:∀ j w,o.guard=some (j,w)->((ops[j]?).bind (·.dst)).isSome=true:=(hreg' i o ho).2.2
 have hwant:Region.wanted o (yielded ops a.tmps)=zBQ (R.T i) (o.guard.map fun (j,w)=>(((ops[j]?).bind (·.dst)).getD 1000000,w)):=by
  rw[zHS inv.tm hguard]
  cases hgd:o.guard with
  | none=>rfl
  | some jw =>
   obtain⟨j,want⟩:=jw
   simp only[Option.map_some,zBQ]
   rw[zKM (tmpA _ ?_)]
   have hs:=hguard j want hgd
   cases hd:(ops[j]?).bind (·.dst) with
   | none=>rw[hd] at hs;cases hs
   | some d =>
    simp only[Oper.looksAt,hgd,hd,Option.getD_some,List.mem_append]
    right;simp
 have hstep:=(R.step i _ hLi).1
 have hnewc:∀ id,(R.Ms i).size<=id->id<(R.Ms (i+1)).size->(R.Ms i).get id≠(R.Ms (i+1)).get id->chg (R.F i) (R.Ms i).size (R.Ms (i+1)).size id=true:=fun id _ _ hne=>by
  cases hcg:chg (R.F i) (R.Ms i).size (R.Ms (i+1)).size id with
  | true=>rfl
  | false=>exact absurd ((hsl i (by omega)).2 id hcg).symm hne
 unfold wpOpIn
 rw[ho]
 simp only
 rcases zG6 hstep with⟨hw,hf,hv,hM⟩ | ⟨hw,rd,wr,hft,hlt,hex,hcs⟩ | ⟨hw,hft,M1,hex,hM1,hcs⟩
 ·-- not wanted
  rw[if_neg (by rw[hwant,hw];simp)]
  refine⟨fun f _=>hF.fn f,hK _ _ μ ?_⟩
  refine zK0 R hl (fun k hk=>(hsl k hk).2) inv hfr0 hLi hSi (W:=fun _=>False) (Dr:=fun _=>False) (v:=undef) (w':=w) (μ':=μ) ?_ (fun _ h=>h.elim) (fun _ _ h=>h.elim) (fun id _ h=>by rw[hf] at h;simp [chg] at h) (fun id h=>by rw[hf] at h;simp [chg] at h) (fun id h hc=>by rw[hf] at hc;simp [chg] at hc) tmpB hnewc
  rw[hv,hM]
  exact⟨.sc _,Ext.refl ..,⟨fun id p h=>absurd h (fun h=>h.elim (fun h=>h) (fun h=>by omega)),fun i j p q h=>absurd h (fun h=>h.elim (fun h=>h) (fun h=>by omega)),inv.on.fz,fun b x i p _ h=>absurd h (fun h=>h.elim (fun h=>h) (fun h=>by omega)),inv.on.gl⟩⟩
 ·-- told
  rw[if_pos (by rw[hwant,hw])]
  have Ron:RelOn Γ P (fun id=>id∈rd∨id∈wr) μ (R.Ms i).get w:=by
   have hN:∀ id,id∈rd∨id∈wr->id<(R.Ms (zAW P ops).length).size:=fun id h=>by have:=hlt id h;have:=hle i (zAW P ops).length (by omega) (Nat.le_refl _);omega
   have hag:∀ id p,id∈rd∨id∈wr->μ id=some p->ES R S (zAW P ops).length id=(R.Ms i).get id:=fun id p h hp=>by
    rcases hcs with⟨hf,rfl,rfl,_⟩ | hf
    ·simp at h
    ·exact agree id (by rw[hf];exact h) (hlt id h) (.inl ⟨p,hp⟩)
   exact zE05
  have hop:=zaX (P:=P) (o:=o) (a:=a) (W:=(· ∈ wr)) hft (fun _ h=>h) (fun _ h=>h) Ron H (fun h=>inv.fr i (by omega) hSi _ (Nat.le_refl _) h) hex
  refine hop F hF K Q fun v w' μ' res=>hK _ _ μ' ?_
  have relW:∀ id,id∈wr->rel (R.F i) (R.Ms i).size id/\id<(R.Ms i).size:=fun id h=>by
   rcases hcs with⟨hf,rfl,rfl,_⟩ | hf
   ·simp at h
   ·exact⟨by rw[hf];exact .inr h,hlt id (.inr h)⟩
  have chgW:∀ id,chg (R.F i) (R.Ms i).size (R.Ms (i+1)).size id=true->id∈wr∨((R.Ms i).size<=id/\id<(R.Ms (i+1)).size):=fun id h=>by
   rcases hcs with⟨hf,rfl,rfl,_⟩ | hf
   ·rw[hf] at h;simp [chg] at h
   ·rw[hf] at h
    simp only[chg,Bool.or_eq_true,Bool.and_eq_true] at h
    rcases h with h | h
    ·exact .inl (by simpa using h)
    ·exact .inr ⟨Nat.le_of_ble_eq_true h.1,(zAJ _ _).1 h.2⟩
  refine zK0 R hl (fun k hk=>(hsl k hk).2) inv hfr0 hLi hSi res (fun id h=>⟨hlt id (.inr h),.inr h⟩) (fun id p h hp=>(agree id (relW id h).1 (relW id h).2 (.inl ⟨p,hp⟩)).symm) (fun id h0 h=>?_) chgW (fun id h=>later id (h.imp (relW id) fun h=>h)) tmpB hnewc
  rcases chgW id h with hw' | hn
  ·exact(agree id (relW id hw').1 (relW id hw').2 (.inr h0)).symm
  ·have:=hle 0 i (by omega) (by omega);rw[R.m0] at this;omega
 ·-- calls
  rw[if_pos (by rw[hwant,hw])]
  have hMget:(R.Ms (i+1)).get=M1.get:=by rw[hM1];rfl
  have hMsz:(R.Ms (i+1)).size=M1.size:=by rw[hM1]
  have relA:∀ id,id<(R.Ms i).size->rel (R.F i) (R.Ms i).size id:=fun id h=>by
   rcases hcs with⟨hf,_⟩ | ⟨hf,_⟩ <;> rw[hf] <;> exact h
  have Ron:RelOn Γ P (· < (R.Ms i).size) μ (R.Ms i).get w:=by
   have hN:∀ id,id<(R.Ms i).size->id<(R.Ms (zAW P ops).length).size:=fun id h=>by have:=hle i (zAW P ops).length (by omega) (Nat.le_refl _);omega
   have hag:∀ id p,id<(R.Ms i).size->μ id=some p->ES R S (zAW P ops).length id=(R.Ms i).get id:=fun id p h hp=>agree id (relA id h) h (.inl ⟨p,hp⟩)
   exact zE05
  have hop:=zaY (P:=P) (o:=o) (a:=a) (M:=⟨(R.Ms i).t,(R.Ms i).size,(R.Ms i).size,false⟩) hc (hins o (Array.mem_of_getElem? (by assumption))) hft Ron H (fun k h1 h2=>inv.fr i (by omega) hSi k h1 (by rw[hMsz];exact h2)) hex
  refine hop F hF K Q fun v w' μ' res=>hK _ _ μ' ?_
  have res':Res Γ P (· < (R.Ms i).size) (· < (R.Ms i).size) μ (R.Ms i) w (R.V i) (R.Ms (i+1)) v w' μ':=by
   refine⟨res.rel, ?_, ?_⟩
   ·have:=res.ext;rw[hMget,hMsz];exact this
   ·have:=res.on;rw[hMget,hMsz];exact this
  have chgW:∀ id,chg (R.F i) (R.Ms i).size (R.Ms (i+1)).size id=true->id<(R.Ms i).size∨((R.Ms i).size<=id/\id<(R.Ms (i+1)).size):=fun id h=>by
   rcases hcs with⟨hf,_⟩ | ⟨hf,_⟩
   ·rw[hf] at h
    simp only[chg,Bool.or_eq_true,Bool.and_eq_true] at h
    rcases h with h | h
    ·exact .inl (zOQ (by simpa using h))
    ·exact .inr ⟨Nat.le_of_ble_eq_true h.1,(zAJ _ _).1 h.2⟩
   ·rw[hf] at h;simp only[chg,Bool.and_eq_true] at h;exact .inr ⟨Nat.le_of_ble_eq_true h.1,(zAJ _ _).1 h.2⟩
  refine zK0 R hl (fun k hk=>(hsl k hk).2) inv hfr0 hLi hSi res' (fun id h=>⟨h,h⟩) (fun id p h hp=>(agree id (relA id h) h (.inl ⟨p,hp⟩)).symm) (fun id h0 h=>?_) chgW (fun id h=>later id (h.imp (fun h=>⟨relA id h,h⟩) fun h=>h)) tmpB hnewc
  have h1:id<(R.Ms i).size:=by have:=hle 0 i (by omega) (by omega);rw[R.m0] at this;omega
  exact(agree id (relA id h1) h1 (.inr h0)).symm
theorem zJO {ops:Array Oper}{listed:Array Bool}(hs:listed.size=ops.size){i:Nat}:i∈Region.ready .any ops listed ↔
  i<ops.size/\listed.getD i false=false /\ ∀ o,ops[i]? = some o -> ∀ e∈o.after.toList,Region.binds .any e=true->listed.getD e.on false=true:=by
 unfold Region.ready
 simp only[List.mem_filter,List.mem_range,Bool.and_eq_true,Bool.not_eq_true']
 constructor
 ·rintro⟨hi,h1,h2⟩
  have hg:listed[i]? = some listed[i]:=by simp [hs,hi]
  refine⟨hi,by rw[Array.getD_eq_getD_getElem?,hg] at h1 ⊢;exact h1,fun o ho e he hb=>?_⟩
  simp only[ho,Option.map_some,Option.getD_some] at h2
  rw[Array.all_eq_true'] at h2
  have:=h2 e (by simpa using he)
  simpa [hb] using this
 ·rintro⟨hi,h1,h2⟩
  have hg:listed[i]? = some listed[i]:=by simp [hs,hi]
  have ho:ops[i]? = some ops[i]:=by simp
  refine⟨hi,by rw[Array.getD_eq_getD_getElem?,hg] at h1 ⊢;exact h1, ?_⟩
  simp only[ho,Option.map_some,Option.getD_some]
  rw[Array.all_eq_true']
  intro e he
  cases hb:Region.binds .any e with
  | false=>simp
  | true=>simpa using h2 _ ho e (by simpa using he) hb
theorem setB {listed:Array Bool}{i j:Nat}(hi:i<listed.size):(listed.setIfInBounds i true).getD j false=(listed.getD j false || j == i):=by
 rw[Array.getD_eq_getD_getElem?,Array.getD_eq_getD_getElem?,Array.getElem?_setIfInBounds]
 by_cases h:i=j
 ·subst h;simp [hi]
 ·have:(j == i)=false:=by simp;exact fun e=>h e.symm
  simp [h,this]
theorem zYB (hc:CallOK Γ P call)(hins:∀ o∈ops,zKY Γ P o)(hreg:zO1 P ops=true)(R:Run P call (zAW P ops) t M t' M'){μ0:Inj}{w0:World}{a0:Act}(hfr0:∀ i,M.size<=i->i<M'.size->μ0 i=none)
  (F:Fence) (hF:Fen F) (Q:Exit->Act->World->Prop)
  (hQ:∀ a w μ,TRel μ t' a.tmps->a.defers=a0.defers->Ext (· < M.size) μ0 M.size M.get w0 μ M'.size M'.get w->RelOn Γ P (· < M'.size) μ M'.get w->Q .normal a w) :
  ∀ (fuel:Nat) (listed:Array Bool) (a:Act) (w:World) (μ:Inj),listed.size=ops.size->((List.range ops.size).filter fun j => !listed.getD j false).length<=fuel->Closed ops (fun j=>listed.getD j false=true) ->
   DInv R Γ (fun j=>listed.getD j false) μ0 w0 a0 a w μ->wpAnyIn F 0 P .any ops Q fuel listed a w:=by
 have hlen:=zE0 (P:=P) ops
 have hback:Back ops:=fun k o hk e he hb=>by
  unfold zO1 at hreg
  simp only[Bool.and_eq_true,List.all_eq_true,List.mem_range] at hreg
  have h:=hreg.2 k (Array.getElem?_eq_some_iff.1 hk).1
  simp only[hk,Bool.and_eq_true] at h
  rw[Array.all_eq_true'] at h
  have:=h.1.1 e (by simpa using he)
  simp only[hb,Bool.not_true,Bool.false_or] at this
  exact(zAJ _ _).1 this
 have done:∀ (listed:Array Bool) (a:Act) (w:World) (μ:Inj),(∀ j,j<ops.size->listed.getD j false=true)->DInv R Γ (fun j=>listed.getD j false) μ0 w0 a0 a w μ->Q .normal a w:=by
  intro listed a w μ hall inv
  have hES:ES R (fun j=>listed.getD j false) (zAW P ops).length=M'.get:=funext fun id=>by
   have hsl:∀ k,k<(zAW P ops).length->chg (R.F k) (R.Ms k).size (R.Ms (k+1)).size id=false->(R.Ms (k+1)).get id=(R.Ms k).get id:=fun k hk h=>by
    have hk':(zAW P ops)[k]? = some (zAW P ops)[k]:=by simp
    exact(zMQ hc.le (R.step k _ hk').1).2 id h
   refine(zQ6 R hsl (Nat.le_refl _) (fun j hj hs=>by have:=hall j (by omega);have hs:listed.getD j false=false:=hs;rw[this] at hs;cases hs) (fun j hj hjn _=>by omega)).trans ?_
   rw[R.m1]
  have hTS:TS R (fun j=>listed.getD j false) (zAW P ops).length=t':=by
   apply List.ext_getElem?
   intro u
   refine(zQ7 R (Nat.le_refl _) (fun j hj hs=>by have:=hall j (by omega);have hs:listed.getD j false=false:=hs;rw[this] at hs;cases hs) (fun j hj hjn _=>by omega)).trans ?_
   rw[R.t1]
  have hsz:(R.Ms (zAW P ops).length).size=M'.size:=by rw[R.m1]
  have h1:=inv.tm;have h2:=inv.ext;have h3:=inv.on
  rw[hTS] at h1;rw[hES,hsz] at h2 h3
  exact hQ a w μ h1 inv.df h2 h3
 have notyet:∀ (listed:Array Bool),listed.size=ops.size->Region.ready .any ops listed=[] -> ∀ j,j<ops.size->listed.getD j false=true:=by
  intro listed hs hr j
  induction j using Nat.strongRecOn with
  | _ j ih =>
   intro hj
   cases hb:listed.getD j false with
   | true=>rfl
   | false =>
    have:j∈Region.ready .any ops listed:=(zJO hs).2 ⟨hj,hb,fun o ho e he hbd=>by
     have h1:=hback j o ho e he hbd
     exact ih _ h1 (by omega)⟩
    rw[hr] at this;simp at this
 intro fuel
 induction fuel with
 | zero =>
  intro listed a w μ hs hf hcl inv
  have hall:∀ j,j<ops.size->listed.getD j false=true:=fun j hj=>by
   cases hb:listed.getD j false with
   | true=>rfl
   | false =>
    have hm:j∈(List.range ops.size).filter fun j => !listed.getD j false:=by rw[List.mem_filter,hb];exact⟨List.mem_range.2 hj,rfl⟩
    have he:((List.range ops.size).filter fun j => !listed.getD j false)=[]:=List.eq_nil_of_length_eq_zero (by omega)
    rw[he] at hm
    simp at hm
  refine⟨?_,done listed a w μ hall inv⟩
  cases hr:Region.ready .any ops listed with
  | nil=>rfl
  | cons i l =>
   have:=(zJO hs).1 (by rw[hr];exact List.mem_cons_self:i∈Region.ready .any ops listed)
   rw[hall i this.1] at this
   cases this.2.1
 | succ fuel ih =>
  intro listed a w μ hs hf hcl inv
  refine⟨fun hr=>done listed a w μ (notyet listed hs hr) inv,fun i hi=>?_⟩
  obtain⟨hin,hib,hrd⟩:=(zJO hs).1 hi
  refine zU9 hc hins hreg R inv hfr0 hcl hin hib hrd F hF _ Q fun a' w' μ' inv'=>?_
  have e:(fun j=>(listed.setIfInBounds i true).getD j false)=addS (fun j=>listed.getD j false) i:=funext fun j=>setB (by omega)
  refine ih _ a' w' μ' (by simpa using hs) ?_ ?_ (by rw[e];exact inv')
  ·have hlt:((List.range ops.size).filter fun j => !(listed.setIfInBounds i true).getD j false).length<((List.range ops.size).filter fun j => !listed.getD j false).length:=by
    have e2:((List.range ops.size).filter fun j => !(listed.setIfInBounds i true).getD j false)=((List.range ops.size).filter fun j => !listed.getD j false).filter fun j => !(j == i):=by
     rw[List.filter_filter]
     apply List.filter_congr
     intro j _
     rw[setB (by omega)]
     cases listed.getD j false <;> cases (j == i) <;> rfl
    rw[e2]
    exact List.length_filter_lt_length_iff_exists.2 ⟨i,by rw[List.mem_filter,hib];exact⟨List.mem_range.2 hin,rfl⟩,by simp⟩
   omega
  ·intro k o hk ho e' he hb
   simp only[setB (show i<listed.size by omega),Bool.or_eq_true] at hk ⊢
   rcases hk with hk | hk
   ·exact .inl (hcl k o hk ho e' he hb)
   ·have:=eq_of_beq hk;subst this
    exact .inl (hrd o ho e' he hb)
end
theorem Res.step {W:Nat->Prop}{μ μ':Inj}{M M':Mem}{w w':World}{r:AV}{v:Value}(h:Res Γ P (· < M.size) (· < M.size) μ M w r M' v w' μ'):RelOn Γ P (· < M'.size) μ' M'.get w' :=
 h.on.sub fun i hi=>by
  by_cases h:i<M.size
  ·exact .inl h
  ·exact .inr ⟨by omega,hi⟩
theorem zhW (hc:CallOK Γ P call){o:Oper}(hins:zKY Γ P o){t:List AV}{M M1:Mem}{r:AV}{μ:Inj}{w:World}{a:Act}(hf:zCD M.size (zAQ t (zBE P o))=true)(R:RelOn Γ P (· < M.size) μ M.get w)
  (H:TRel μ t a.tmps) (hfr:∀ k,M.size<=k->k<M1.size->μ k=none) (h:zA6 P call t M (zBE P o)=some (r,M1)):OpWp Γ P (· < M.size) (· < M.size) o a μ M w r M1:=by
 by_cases hx:∃ rd wr,zAQ t (zBE P o) = .acc rd wr
 ·obtain⟨rd,wr,hx⟩:=hx
  rw[hx] at hf
  simp only[zCD,Bool.and_eq_true,List.all_eq_true] at hf
  exact zaX hx (fun i hi=>hi.elim (fun h=>(zAJ _ _).1 (hf.1 i h)) (fun h=>(zAJ _ _).1 (hf.2 i h))) (fun i hi=>(zAJ _ _).1 (hf.2 i hi)) R (fun q _=>zFM H q) (fun h=>hfr _ (Nat.le_refl _) h) h
 ·exact zaY hc hins (fun rd wr e=>hx ⟨rd,wr,e⟩) R (fun q _=>zFM H q) hfr h
theorem zKB (hc:∀ tg args M r M',call tg args M=some (r,M')->MemLe M M'):∀ (L:List AOper) (t:List AV) (M:Mem) (t':List AV) (M':Mem),zAR P call L t M=some (t',M')->MemLe M M':=by
 intro L
 induction L with
 | nil=>intro t M t' M' h;simp [zAR] at h;obtain⟨_,rfl⟩:=h;exact .refl _
 | cons o L ih =>
  intro t M t' M' h
  simp only[zAR] at h
  split at h
  ·split at h
   ·split at h
    ·rename_i v M1 he
     exact(zdT hc he).trans (ih _ _ _ _ h)
    ·cases h
   ·cases h
  ·exact ih _ _ _ _ h
theorem zP0 (hc:∀ tg args M r M',call tg args M=some (r,M')->MemLe M M'):∀ (L:List AOper) (log:List (FP × Nat × Nat)) (t:List AV) (M:Mem) (t':List AV) (M':Mem),zAK P call L log t M=some (t',M')->MemLe M M':=by
 intro L
 induction L with
 | nil=>intro log t M t' M' h;simp [zAK] at h;obtain⟨_,rfl⟩:=h;exact .refl _
 | cons o L ih =>
  intro log t M t' M' h
  simp only[zAK] at h
  split at h
  ·rename_i f v M1 hs
   split at h
   ·exact(zMQ hc hs).1.trans (ih _ _ _ _ _ h)
   ·cases h
  ·cases h
theorem zeJ (hc:CallOK Γ P call){ops:Array Oper}(hins:∀ o∈ops,zKY Γ P o)(hg:gOK ops=true)(F:Fence)(hF:Fen F)(Q:Exit->Act->World->Prop){t':List AV}{M':Mem} :
  ∀ (m k:Nat),k+m=ops.size -> ∀ (t:List AV) (M:Mem) (μ:Inj) (a:Act) (w:World),zAR P call ((zAW P ops).drop k) t M=some (t',M')->RelOn Γ P (· < M.size) μ M.get w->TRel μ t a.tmps ->
   (∀ i,M.size<=i->i<M'.size->μ i=none) ->
   (∀ a' w' μ',TRel μ' t' a'.tmps->a'.defers=a.defers->Ext (· < M.size) μ M.size M.get w μ' M'.size M'.get w'->RelOn Γ P (· < M'.size) μ' M'.get w'->Q .normal a' w') ->
   wpOpsIn F 0 P ops Q (List.range' k m) a w:=by
 have hlen:=zE0 (P:=P) ops
 intro m
 induction m with
 | zero =>
  intro k hk t M μ a w h R H hfr hQ
  rw[List.drop_eq_nil_of_le (by omega)] at h
  simp only[zAR,Option.some.injEq,Prod.mk.injEq] at h
  obtain⟨rfl,rfl⟩:=h
  exact hQ a w μ H rfl (Ext.refl ..) R
 | succ m ih =>
  intro k hk t M μ a w h R H hfr hQ
  have ho:ops[k]? = some (ops[k]'(by omega)):=by simp
  generalize hoi:ops[k]'(by omega)=o at ho
  have hL:=zCX (P:=P) ho
  have hgd:∀ j w,o.guard=some (j,w)->((ops[j]?).bind (·.dst)).isSome=true:=fun j w hgd=>by
   unfold gOK at hg
   rw[Array.all_eq_true'] at hg
   have:=hg o (by rw[<- hoi];exact Array.getElem_mem _)
   rw[hgd] at this;exact this
  rw[List.drop_eq_getElem_cons (by omega)] at h
  have hLk:(zAW P ops)[k]'(by omega)={ dst:=o.dst,op:=zBE P o,guard:=o.guard.map fun (j,w)=>(((ops[j]?).bind (·.dst)).getD 1000000,w),unord:=zDD ops k }:=(List.getElem?_eq_some_iff.1 hL).2
  rw[hLk] at h
  simp only[zAR] at h
  rw[List.range'_succ]
  simp only[wpOpsIn,ho]
  split at h
  ·rename_i hw
   rw[if_pos (by rw[zHS H hgd];exact hw)]
   split at h
   ·rename_i hf
    split at h
    ·rename_i v M1 he
     have h1:=zdT hc.le he
     have h2:=zKB hc.le _ _ _ _ _ h
     refine zhW hc (hins o (Array.mem_of_getElem? ho)) hf R H (fun i k1 k2=>hfr i k1 (by have:=h2.le;omega)) he F hF _ Q fun v' w' μ' res=>?_
     have hs1:M.size<=M1.size:=h1.le
     have hfr1:∀ i,M1.size<=i->i<M'.size->μ' i=none:=fun i k1 k2=>by
      cases hμ:μ' i with
      | none=>rfl
      | some p=>exact absurd (res.ext.new i p hμ (hfr i (by omega) k2)).2.1 (by omega)
     refine ih (k+1) (by omega) _ _ μ' _ w' h (Res.step (W:=fun _=>True) res) (zPR (H.mono res.ext.sub) _ res.rel) hfr1 fun a2 w2 μ2 T2 d2 X2 R2=>?_
     refine hQ a2 w2 μ2 T2 (d2.trans (by cases o.dst <;> rfl)) ?_ R2
     exact res.ext.trans X2 (fun i hi _=>hi) (fun i k1 k2=>hfr i k1 (by have:=h2.le;omega))
    ·cases h
   ·cases h
  ·rename_i hw
   rw[if_neg (by rw[zHS H hgd,hw];simp)]
   refine⟨fun f _=>hF.fn f, ?_⟩
   exact ih (k+1) (by omega) _ _ μ _ w h R (zPR H _ (.sc _)) hfr fun a2 w2 μ2 T2 d2 X2 R2=>hQ a2 w2 μ2 T2 (d2.trans (by cases o.dst <;> rfl)) X2 R2
def zXF (F:Fence)(n:Nat)(P:Program)(c:Code)(Q:Exit->Act->World->Prop)(a:Act)(w:World):Prop :=
 ∀ (b:Frame) (k:List Item) (cs:List Frame),b.roundOf=F.round->F.fn b.fn->F.room (cs.length+1+n) ->
  ∃ e a' w',Q e a' w'/\ArrivesIn (Machine.fenced P F) P (lone (b.atR a (.code c :: .inLoop c::k)) cs w) b k cs e a' w'
theorem zZC {F:Fence}{n:Nat}{c:Code}{Q:Exit->Act->World->Prop}{a:Act}{w:World}(h:c.wpIn F n P (Exit.then (fun a' w'=>zXF F n P c Q a' w') Q) a w):zXF F n P c Q a w:=by
 intro b k cs hro hb hr
 obtain⟨e,a₁,w₁,hq,harr⟩:=h b (.inLoop c::k) cs hro hb hr
 cases e with
 | normal =>
  obtain⟨e₂,a₂,w₂,hq₂,harr₂⟩:=hq b k cs hro hb hr
  exact⟨e₂,a₂,w₂,hq₂,.of_steps (StepsIn.trans harr (.one (fenced_calm hb hr rfl) stepR_inLoop)) harr₂⟩
 | exit id=>exact⟨_,a₁,w₁,hq,.pass (x:=.inLoop c) rfl (fun _ _ => .inl (by simp)) harr⟩
 | goto l=>exact⟨_,a₁,w₁,hq,.pass (x:=.inLoop c) rfl (fun _ _ => .inl (by simp)) harr⟩
 | ret=>exact⟨_,a₁,w₁,hq,.pass (x:=.inLoop c) rfl (fun _ _ => .inl (by simp)) harr⟩
 | panic ch=>exact⟨_,a₁,w₁,hq,.pass (x:=.inLoop c) rfl (fun _ _ => .inl (by simp)) harr⟩
 | outgrown=>exact⟨_,a₁,w₁,hq,.pass (x:=.inLoop c) rfl (fun _ _ => .inl (by simp)) harr⟩
theorem zMY {F:Fence}{n:Nat}{c:Code}{Q:Exit->Act->World->Prop}{a:Act}{w:World}(h:zXF F n P c Q a w):(Code.loop c).wpIn F n P Q a w:=by
 intro b k cs hro hb hr
 obtain⟨e,a',w',hq,harr⟩:=h b k cs hro hb hr
 exact⟨e,a',w',hq,.of_steps (.one (fenced_calm hb hr rfl) stepR_loop) harr⟩
theorem zCK {b:Frame}{a:Act}{k:List Item}{cs:List Frame}{w:World}{c:Code} :
  step P (lone (b.atR a (.code (.scope c)::k)) cs w) = .next (lone (b.atR a (.code c :: .inScope c::k)) cs w) :=
 step_lone_go (by simp [stepG,stepG.exec,Frame.atR])
theorem zK6 {b:Frame}{a:Act}{k:List Item}{cs:List Frame}{w:World}{c:Code} :
  step P (lone (b.atR a (.inScope c::k)) cs w) = .next (lone (b.atR a k) cs w) :=
 step_lone_go (by simp [stepG,stepG.exec,Frame.atR])
theorem zQ4 {F:Fence}{n:Nat}{c:Code}{Q:Exit->Act->World->Prop}{a:Act}{w:World}(h:c.wpIn F n P (fun e a w=>Q e a w /\ ∀ l,e ≠ .goto l) a w):(Code.scope c).wpIn F n P Q a w:=by
 intro b k cs hro hb hr
 have h0:(lone (b.atR a (.code (.scope c)::k)) cs w).fenced P F:=fenced_calm hb hr rfl
 obtain⟨e,a₁,w₁,⟨hq,hng⟩,harr⟩:=h b (.inScope c::k) cs hro hb hr
 cases e with
 | normal=>exact⟨.normal,a₁,w₁,hq,.head h0 zCK (StepsIn.trans harr (.one (fenced_calm hb hr rfl) zK6))⟩
 | exit id =>
  have hx:exitTo id (.inScope c::k)=exitTo id k:=by simp [exitTo]
  exact⟨_,a₁,w₁,hq,fun k' hk => .head h0 zCK (harr.1 k' (by rw[hx];exact hk)),
   fun hr' hk=>let ⟨k₁,h1,h2⟩:=harr.2 hr' (by rw[hx];exact hk); ⟨k₁,h1,.head h0 zCK h2⟩⟩
 | goto l=>exact absurd rfl (hng l)
 | ret=>exact⟨_,a₁,w₁,hq,.of_steps (.one h0 zCK) harr⟩
 | panic ch=>exact⟨_,a₁,w₁,hq,.of_steps (.one h0 zCK) harr⟩
 | outgrown=>exact⟨_,a₁,w₁,hq,.of_steps (b:=b) (k:=k) (cs:=cs) (e:=.outgrown) (.one h0 zCK) harr⟩
variable {fuel : Nat}
theorem zV6 {f:Fr->Mem->Option (AExit × Fr × Mem)}(hf:∀ t M e t' M',f t M=some (e,t',M')->MemLe M M'):∀ n t M e t' M',iter f n t M=some (e,t',M')->MemLe M M':=by
 intro n
 induction n with
 | zero=>intro t M e t' M' h;simp [iter] at h
 | succ n ih =>
  intro t M e t' M' h
  simp only[iter] at h
  split at h
  ·rename_i t1 M1 h1
   exact(hf _ _ _ _ _ h1).trans (ih _ _ _ _ _ h)
  ·exact hf _ _ _ _ _ h
theorem zJN (hc:∀ tg args M r M',call tg args M=some (r,M')->MemLe M M'){f:Operand}{ps:List Nat}{x y:ACode}{t:Fr}{d:Nat}{mk:List Nat}{M M':Mem}{e:AExit}{t':Fr}(h:zG3 call f ps x y t d mk M=some (e,t',M')):MemLe M M':=by
 unfold zG3 at h
 split at h
 ·rename_i id M1 h1
  split at h
  ·split at h
   ·rename_i v M2 h2
    split at h
    ·split at h
     ·cases h
     ·split at h
      ·rename_i M3 h3
       cases h
       exact(MemLe.new h1).trans ((hc _ _ _ _ _ h2).trans (.put h3))
      ·cases h
    ·cases h
   ·cases h
  ·cases h
 ·cases h
theorem zDN (hc:∀ tg args M r M',call tg args M=some (r,M')->MemLe M M')(rd:Option Nat):∀ (c:ACode) (t:Fr) (M:Mem) (e:AExit) (t':Fr) (M':Mem),zA8 P fuel call rd c t M=some (e,t',M')->MemLe M M':=by
 intro c
 induction c with
 | skip=>intro t M e t' M' h;simp [zA8] at h;obtain⟨_,_,rfl⟩:=h;exact .refl _
 | label=>intro t M e t' M' h;simp [zA8] at h;obtain⟨_,_,rfl⟩:=h;exact .refl _
 | ret=>intro t M e t' M' h;simp [zA8] at h;obtain⟨_,_,rfl⟩:=h;exact .refl _
 | exit i=>intro t M e t' M' h;simp [zA8] at h;obtain⟨_,_,rfl⟩:=h;exact .refl _
 | bad s=>intro t M e t' M' h;simp [zA8] at h
 | ext g=>intro t M e t' M' h;simp [zA8] at h
 | region ops draw =>
  intro t M e t' M' h
  simp only[zA8] at h
  split at h
  ·split at h
   ·rename_i h1;cases h;exact zP0 hc _ _ _ _ _ _ h1
   ·cases h
  ·split at h
   ·rename_i h1;cases h;exact zKB hc _ _ _ _ _ h1
   ·cases h
 | seq a b iha ihb =>
  intro t M e t' M' h
  simp only[zA8] at h
  split at h
  ·rename_i t1 M1 h1
   exact(iha _ _ _ _ _ h1).trans (ihb _ _ _ _ _ h)
  ·exact iha _ _ _ _ _ h
 | cond x a b iha ihb =>
  intro t M e t' M' h
  simp only[zA8] at h
  split at h
  ·exact iha _ _ _ _ _ h
  ·exact ihb _ _ _ _ _ h
  ·cases h
 | block i b ih =>
  intro t M e t' M' h
  simp only[zA8] at h
  split at h
  ·rename_i h1
   split at h <;> cases h <;> exact ih _ _ _ _ _ h1
  ·exact ih _ _ _ _ _ h
 | loop b ih =>
  intro t M e t' M' h
  simp only[zA8] at h
  exact zV6 (fun t M e t' M' h=>ih t M e t' M' h) _ _ _ _ _ _ h
 | scope b ih=>intro t M e t' M' h;simp only[zA8] at h;exact ih _ _ _ _ _ h
 | rangeFunc f ps x y _ _ =>
  intro t M e t' M' h
  simp only[zA8] at h
  split at h
  ·split at h
   ·exact zJN hc h
   ·cases h
  ·split at h
   ·rename_i d M1 h1
    exact(MemLe.new h1).trans (zJN hc h)
   ·cases h
structure Seg (Γ:Glob) (P:Program) (μ:Inj) (M:Mem) (w:World) (μ':Inj) (M':Mem) (w':World):Prop where
 ext:Ext (· < M.size) μ M.size M.get w μ' M'.size M'.get w'
 on:RelOn Γ P (· < M'.size) μ' M'.get w'
theorem Seg.refl {μ:Inj}{M:Mem}{w:World}(h:RelOn Γ P (· < M.size) μ M.get w):Seg Γ P μ M w μ M w:=⟨Ext.refl ..,h⟩
theorem Seg.of_res {μ μ':Inj}{M M':Mem}{w w':World}{r:AV}{v:Value}(h:Res Γ P (· < M.size) (· < M.size) μ M w r M' v w' μ'):Seg Γ P μ M w μ' M' w':=⟨h.ext,h.step (W:=fun _=>True)⟩
theorem Seg.trans {μ μ1 μ2:Inj}{M M1 M2:Mem}{w w1 w2:World}(h:Seg Γ P μ M w μ1 M1 w1)(k:Seg Γ P μ1 M1 w1 μ2 M2 w2)(hfr:∀ i,M.size<=i->i<M1.size->μ i=none):Seg Γ P μ M w μ2 M2 w2 :=
 ⟨h.ext.trans k.ext (fun i hi _=>hi) hfr,k.on⟩
theorem Seg.fresh {μ μ1:Inj}{M M1:Mem}{w w1:World}(h:Seg Γ P μ M w μ1 M1 w1){B:Nat}(hfr:∀ i,M.size<=i->i<B->μ i=none):∀ i,M1.size<=i->i<B->μ1 i=none:=fun i k1 k2=>by
 have:=h.ext.le
 cases hμ:μ1 i with
 | none=>rfl
 | some p=>exact absurd (h.ext.new i p hμ (hfr i (by omega) k2)).2.1 (by omega)
def MRel (μ:Inj)(mk:List Nat)(ds:List Deferred):Prop :=
 ds.length=mk.length /\ ∀ (i d:Nat),mk[i]? = some d -> ∃ p,μ d=some p/\ds[i]? = some ({ target:=.collected p.b,args:=#[] }:Deferred)
theorem MRel.mono {μ μ':Inj}(h:μ.le μ'){mk:List Nat}{ds:List Deferred}(k:MRel μ mk ds):MRel μ' mk ds :=
 ⟨k.1,fun i d hd=>let ⟨p,h1,h2⟩:=k.2 i d hd; ⟨p,h _ _ h1,h2⟩⟩
def InF (μ:Inj)(F:Fence):Option Nat->Prop
 | none=>F=Fence.wide
 | some l => ∃ p,μ l=some p/\F=Fence.wide.inRound p.b
theorem InF.fen {μ:Inj}{F:Fence}{rd:Option Nat}(h:InF μ F rd):Fen F:=by
 cases rd with
 | none=>exact .inl h
 | some l=>obtain⟨p,_,h⟩:=h;exact .inr ⟨_,h⟩
theorem InF.mono {μ μ':Inj}(hm:μ.le μ'){F:Fence}{rd:Option Nat}(h:InF μ F rd):InF μ' F rd:=by
 cases rd with
 | none=>exact h
 | some l=>obtain⟨p,h1,h⟩:=h;exact⟨p,hm _ _ h1,h⟩
def zSJ:AExit->Exit
 | .normal => .normal
 | .exit i => .exit i
 | .ret => .ret
def zK7 (Γ:Glob)(P:Program)(call:Tg->List AV->Mem->Option (AV × Mem))(fuel:Nat)(c:Code):Prop :=
 ∀ (rd:Option Nat) (t:Fr) (M:Mem) (e:AExit) (t':Fr) (M':Mem),zA8 P fuel call rd (zAM P c) t M=some (e,t',M') ->
  ∀ (μ:Inj) (F:Fence) (a:Act) (w:World),InF μ F rd->RelOn Γ P (· < M.size) μ M.get w->TRel μ t.t a.tmps->MRel μ t.marks a.defers->(∀ i,M.size<=i->i<M'.size->μ i=none) ->
   ∀ (Q:Exit->Act->World->Prop),(∀ a' w' μ',Seg Γ P μ M w μ' M' w'->TRel μ' t'.t a'.tmps->MRel μ' t'.marks a'.defers->Q (zSJ e) a' w')->c.wpIn F 0 P Q a w
theorem MRel.eq {μ:Inj}{mk:List Nat}{ds ds':List Deferred}(h:MRel μ mk ds)(e:ds'=ds):MRel μ mk ds':=e ▸ h
theorem zc2 {L:List AOper}{t t':List AV}{M M':Mem}(R:Run P call L t M t' M')(S:Nat->Bool)(hS:∀ j,S j=false):∀ k,TS R S k=R.T 0:=by
 intro k
 induction k with
 | zero=>rfl
 | succ k ih=>simp only[TS,hS];exact ih
theorem zTA {L:List AOper}{t t':List AV}{M M':Mem}(R:Run P call L t M t' M')(S:Nat->Bool)(hS:∀ j,S j=false):∀ k,ES R S k=(R.Ms 0).get:=by
 intro k
 induction k with
 | zero=>rfl
 | succ k ih=>simp only[ES,hS,Bool.false_and,Bool.false_eq_true,if_false];exact ih
theorem zP2:∀ (l:List AOper) (t:List AV) (M:Mem),zAR P call (nouD false l) t M=zAR P call l t M:=by
 intro l
 induction l with
 | nil=>intro t M;rfl
 | cons o l ih =>
  intro t M
  have ih':∀ t M,zAR P call (l.map fun o=>⟨o.dst,o.op,o.guard,[]⟩) t M=zAR P call l t M:=ih
  simp only[nouD,List.map_cons,zAR,ih']
theorem zVT (hc:CallOK Γ P call)(id:Nat)(ops:Array Oper)(hins:∀ o∈ops,zKY Γ P o)(draw:Bool):zK7 Γ P call fuel (.region id ops draw):=by
 intro rd t M e t' M' h μ F a w hF R H D hfr Q hQ
 simp only[zAM] at h
 split at h
 ·rename_i hg
  rw[Bool.and_eq_true] at hg
  simp only[zA8] at h
  cases draw with
  | true =>
   have hreg:zO1 P ops=true:=by simpa using hg.2
   simp only[nouD] at h
   split at h
   ·rename_i s M1 h1
    simp only[Option.some.injEq,Prod.mk.injEq] at h
    obtain⟨rfl,rfl,rfl⟩:=h
    obtain⟨RR⟩:=zN9 h1
    refine wpIn_region_any (by unfold zO1 at hreg;simp only[Bool.and_eq_true] at hreg;exact hreg.1) ?_
    have hf:∀ j,(Array.replicate ops.size false).getD j false=false:=fun j=>by
     simp only[Array.getD_eq_getD_getElem?,Array.getElem?_replicate];split <;> rfl
    have h0:(RR.Ms 0)=M:=RR.m0
    have hle:∀ k,k<(zAW P ops).length->(RR.Ms k).size<=(RR.Ms (k+1)).size:=fun k hk=>(zMQ hc.le (RR.step k _ (by simp:(zAW P ops)[k]? = some (zAW P ops)[k])).1).1.le
    have hmono:=zc1 (R:=RR) hle
    have hend:RR.Ms (zAW P ops).length=M1:=RR.m1
    refine zYB hc hins hreg RR (μ0:=μ) (w0:=w) (a0:=a) hfr F hF.fen Q (fun a' w' μ' T d X R'=>hQ a' w' μ' ⟨X,R'⟩ T ((D.mono X.sub).eq d)) ops.size _ a _ μ (by simp) (Nat.le_trans (List.length_filter_le _ _) (by simp)) ?_ ?_
    ·intro k o hk _ e' _ _;rw[hf] at hk;cases hk
    ·refine⟨?_,rfl, ?_, ?_, ?_⟩
     ·rw[zc2 RR _ hf,RR.t0];exact H
     ·rw[zTA RR _ hf,h0,hend]
      have hin:∀ i p,i<M1.size->μ i=some p->i<M.size:=fun i p k1 k2=>by
       cases Nat.lt_or_ge i M.size with
       | inl h=>exact h
       | inr h=>rw[hfr i h k1] at k2;cases k2
      exact⟨fun i p k1 k2=>(R.drawn _).ok i p (hin i p k1 k2) k2,fun i j p q k1 k2 k3 k4=>R.ex i j p q (hin i p k1 k3) (hin j q k2 k4) k3 k4,(R.drawn w.drawn).fz,fun b x i p k1 k2 k3=>R.sep b x i p k1 (hin i p k2 k3) k3,R.gl⟩
     ·intro j hj _ i h1 h2
      have a1:=hmono 0 j (Nat.zero_le _) (by omega)
      have a2:=hmono (j+1) _ (by omega) (Nat.le_refl _)
      rw[h0] at a1;rw[hend] at a2
      exact hfr i (by omega) (by omega)
     ·rw[zTA RR _ hf,h0,hend]
      have a2:=hmono 0 _ (Nat.zero_le _) (Nat.le_refl _)
      rw[h0,hend] at a2
      exact⟨Inj.le_refl μ,(fun i p k1 k2=>by rw[k1] at k2;cases k2),(fun b x k1 k2=>by rw[k1] at k2;cases k2),a2,Nat.le_refl _,fun _ _ _=>rfl,fun _ _ _=>rfl,fun _ _ _=>rfl,rfl,rfl,rfl⟩
   ·cases h
  | false =>
   simp only at h
   split at h
   ·rename_i s M1 h1
    simp only[Option.some.injEq,Prod.mk.injEq] at h
    obtain⟨rfl,rfl,rfl⟩:=h
    refine wpIn_region ?_
    rw[List.range_eq_range']
    rw[zP2] at h1
    exact zeJ hc hins hg.1 F hF.fen Q ops.size 0 (by omega) _ M μ a w (by simpa using h1) R H hfr fun a' w' μ' T d X R'=>hQ a' w' μ' ⟨X,R'⟩ T ((D.mono X.sub).eq d)
   ·cases h
 ·simp [zA8] at h
theorem zY8 (hc:CallOK Γ P call)(hrange:∀ f ps x y,zK7 Γ P call fuel (.rangeFunc f ps x y)):∀ c,zI4 Γ P c->zK7 Γ P call fuel c:=by
 have hle:=fun rd c=>zDN (P:=P) (fuel:=fuel) hc.le rd c
 intro c
 induction c with
 | skip =>
  intro hi rd t M e t' M' h μ F a w hF R H D hfr Q hQ
  simp only[zAM,zA8,Option.some.injEq,Prod.mk.injEq] at h
  obtain⟨rfl,rfl,rfl⟩:=h
  exact wpIn_skip (hQ a w μ (.refl R) H D)
 | label l =>
  intro hi rd t M e t' M' h μ F a w hF R H D hfr Q hQ
  simp only[zAM,zA8,Option.some.injEq,Prod.mk.injEq] at h
  obtain⟨rfl,rfl,rfl⟩:=h
  exact wpIn_label (hQ a w μ (.refl R) H D)
 | ret =>
  intro hi rd t M e t' M' h μ F a w hF R H D hfr Q hQ
  simp only[zAM,zA8,Option.some.injEq,Prod.mk.injEq] at h
  obtain⟨rfl,rfl,rfl⟩:=h
  exact wpIn_ret (hQ a w μ (.refl R) H D)
 | exit i =>
  intro hi rd t M e t' M' h μ F a w hF R H D hfr Q hQ
  simp only[zAM,zA8,Option.some.injEq,Prod.mk.injEq] at h
  obtain⟨rfl,rfl,rfl⟩:=h
  exact wpIn_exit (hQ a w μ (.refl R) H D)
 | goto l=>intro _ rd t M e t' M' h;simp [zAM,zA8] at h
 | refuse s=>intro _ rd t M e t' M' h;simp [zAM,zA8] at h
 | region id ops draw=>intro hi;exact zVT hc id ops hi draw
 | rangeFunc f ps x y _ _=>intro _;exact hrange f ps x y
 | seq x y ihx ihy =>
  intro hi rd t M e t' M' h μ F a w hF R H D hfr Q hQ
  simp only[zAM,zA8] at h
  refine wpIn_seq ?_
  split at h
  ·rename_i t1 M1 h1
   have l1:=hle _ _ _ _ _ _ _ h1
   have l2:=hle _ _ _ _ _ _ _ h
   have f1:∀ i,M.size<=i->i<M1.size->μ i=none:=fun i k1 k2=>hfr i k1 (by have:=l2.le;omega)
   refine ihx hi.1 rd t M _ t1 M1 h1 μ F a w hF R H D f1 _ fun a1 w1 μ1 S1 T1 D1=>?_
   refine ihy hi.2 rd t1 M1 e t' M' h μ1 F a1 w1 (hF.mono S1.ext.sub) S1.on T1 D1 (S1.fresh hfr) Q fun a2 w2 μ2 S2 T2 D2=>?_
   exact hQ a2 w2 μ2 (S1.trans S2 f1) T2 D2
  ·rename_i hne
   refine ihx hi.1 rd t M _ t' M' h μ F a w hF R H D hfr _ fun a1 w1 μ1 S1 T1 D1=>?_
   cases e with
   | normal=>exact absurd h (hne _ _)
   | exit i=>exact hQ a1 w1 μ1 S1 T1 D1
   | ret=>exact hQ a1 w1 μ1 S1 T1 D1
 | cond c x y ihx ihy =>
  intro hi rd t M e t' M' h μ F a w hF R H D hfr Q hQ
  simp only[zAM,zA8] at h
  have hv:=zFM H c
  split at h
  ·rename_i hx
   rw[hx] at hv
   generalize hg:a.eval c=v at hv
   cases hv
   exact wpIn_cond_true hg (ihx hi.1 rd t M e t' M' h μ F a w hF R H D hfr Q hQ)
  ·rename_i hx
   rw[hx] at hv
   generalize hg:a.eval c=v at hv
   cases hv
   exact wpIn_cond_false hg (ihy hi.2 rd t M e t' M' h μ F a w hF R H D hfr Q hQ)
  ·cases h
 | block id b ih =>
  intro hi rd t M e t' M' h μ F a w hF R H D hfr Q hQ
  simp only[zAM,zA8] at h
  refine wpIn_block ?_
  split at h
  ·rename_i i t1 M1 h1
   split at h
   ·rename_i hb
    simp only[Option.some.injEq,Prod.mk.injEq] at h
    obtain⟨rfl,rfl,rfl⟩:=h
    refine ih hi rd t M _ t1 M1 h1 μ F a w hF R H D hfr _ fun a1 w1 μ1 S1 T1 D1=>?_
    have e:=Nat.eq_of_beq_eq_true hb
    simp only[zSJ,Exit.inBlock,e,if_true]
    exact hQ a1 w1 μ1 S1 T1 D1
   ·rename_i hb
    simp only[Option.some.injEq,Prod.mk.injEq] at h
    obtain⟨rfl,rfl,rfl⟩:=h
    refine ih hi rd t M _ t1 M1 h1 μ F a w hF R H D hfr _ fun a1 w1 μ1 S1 T1 D1=>?_
    have e:=Nat.ne_of_beq_eq_false hb
    simp only[zSJ,Exit.inBlock,e,if_false]
    exact hQ a1 w1 μ1 S1 T1 D1
  ·rename_i hne
   refine ih hi rd t M _ t' M' h μ F a w hF R H D hfr _ fun a1 w1 μ1 S1 T1 D1=>?_
   cases e with
   | normal=>exact hQ a1 w1 μ1 S1 T1 D1
   | exit i=>exact absurd h (hne _ _ _)
   | ret=>exact hQ a1 w1 μ1 S1 T1 D1
 | loop b ih =>
  intro hi rd t M e t' M' h μ F a w hF R H D hfr Q hQ
  simp only[zAM,zA8] at h
  refine zMY ?_
  have key:∀ n t M e t' M',iter (zA8 P fuel call rd (zAM P b)) n t M=some (e,t',M') -> ∀ (μ:Inj) (a:Act) (w:World),InF μ F rd->RelOn Γ P (· < M.size) μ M.get w->TRel μ t.t a.tmps->MRel μ t.marks a.defers->(∀ i,M.size<=i->i<M'.size->μ i=none) ->
    (∀ a' w' μ',Seg Γ P μ M w μ' M' w'->TRel μ' t'.t a'.tmps->MRel μ' t'.marks a'.defers->Q (zSJ e) a' w')->zXF F 0 P b Q a w:=by
   intro n
   induction n with
   | zero=>intro t M e t' M' h;simp [iter] at h
   | succ n ihn =>
    intro t M e t' M' h μ a w hF R H D hfr hQ
    simp only[iter] at h
    refine zZC ?_
    split at h
    ·rename_i t1 M1 h1
     have l1:=hle _ _ _ _ _ _ _ h1
     have l2:=zV6 (fun t M e t' M' h=>hle rd (zAM P b) t M e t' M' h) _ _ _ _ _ _ h
     have f1:∀ i,M.size<=i->i<M1.size->μ i=none:=fun i k1 k2=>hfr i k1 (by have:=l2.le;omega)
     refine ih hi rd t M _ t1 M1 h1 μ F a w hF R H D f1 _ fun a1 w1 μ1 S1 T1 D1=>?_
     exact ihn t1 M1 e t' M' h μ1 a1 w1 (hF.mono S1.ext.sub) S1.on T1 D1 (S1.fresh hfr) fun a2 w2 μ2 S2 T2 D2=>hQ a2 w2 μ2 (S1.trans S2 f1) T2 D2
    ·rename_i hne
     refine ih hi rd t M _ t' M' h μ F a w hF R H D hfr _ fun a1 w1 μ1 S1 T1 D1=>?_
     cases e with
     | normal=>exact absurd h (hne _ _)
     | exit i=>exact hQ a1 w1 μ1 S1 T1 D1
     | ret=>exact hQ a1 w1 μ1 S1 T1 D1
  exact key _ _ _ _ _ _ h μ a w hF R H D hfr hQ
 | scope b ih =>
  intro hi rd t M e t' M' h μ F a w hF R H D hfr Q hQ
  simp only[zAM,zA8] at h
  refine zQ4 (ih hi rd t M e t' M' h μ F a w hF R H D hfr _ fun a1 w1 μ1 S1 T1 D1=>⟨hQ a1 w1 μ1 S1 T1 D1,fun l=>by cases e <;> simp [zSJ]⟩)
theorem zaG {μ:Inj}{M M1:Mem}{w:World}{id:Nat}{tm:List AV}{ps:Array Tmp}{assign body:Code}{d:Nat}{q:Pl}{fn:FuncId}{tmps:Array Value}
  (hn:M.new (.loop .ready none tm ps.toList (zAM P assign) (zAM P body) d)=some (id,M1)) (hfr:μ M.size=none) (R:RelOn Γ P (· < M.size) μ M.get w) (H:TRel μ tm tmps) (hd:μ d=some q) (hdd:d≠M.size) :
  Seg Γ P μ M w (μ.upd M.size ⟨w.heap.size,0,0,0⟩) M1 (w.alloc (.loop { state:=.ready,pending:=none,fn,tmps,params:=ps,assign,body,defers:=q.b })):=by
 have hle:μ.le (μ.upd M.size ⟨w.heap.size,0,0,0⟩):=Inj.le_upd hfr
 refine Seg.of_res (r:=zA3) (v:=undef) (Res.alloc hn hfr R ⟨w.heap.size,0,0,0⟩ rfl rfl rfl rfl rfl ?_ (.sc _))
 exact⟨_,World.alloc_heap_new w _,rfl,trivial,VRels.mono hle H,rfl,rfl,rfl,q,hle _ _ hd,rfl⟩
theorem zW9 {f:Operand}{ps:List Nat}{x y:ACode}{t:Fr}{d:Nat}{mk:List Nat}{M M':Mem}{e:AExit}{t':Fr}(h:zG3 call f ps x y t d mk M=some (e,t',M')):t'=⟨t.t,mk⟩:=by
 unfold zG3 at h
 split at h
 ·split at h
  ·split at h
   ·split at h
    ·split at h
     ·cases h
     ·split at h
      ·cases h;rfl
      ·cases h
    ·cases h
   ·cases h
  ·cases h
 ·cases h
theorem zRI (hc:CallOK Γ P call){f:Operand}{ps:Array Tmp}{assign body:Code}{t:Fr}{d:Nat}{mk:List Nat}{M M':Mem}{e:AExit}{t':Fr}
  (h:zG3 call f ps.toList (zAM P assign) (zAM P body) t d mk M=some (e,t',M')) {μ:Inj} {F:Fence} (hF:Fen F) {a a':Act} {w:World} (R:RelOn Γ P (· < M.size) μ M.get w) (H:TRel μ t.t a.tmps)
  {q:Pl} (hd:μ d=some q) (hfr:∀ i,M.size<=i->i<M'.size->μ i=none) (fn:FuncId) (Q:Exit->Act->World->Prop) (hQ:∀ w' μ',Seg Γ P μ M w μ' M' w'->Q (zSJ e) a' w') :
  ∃ (dd:Deferred) (w₁':World) (g:FuncId) (args:Array Value) (w₂:World),
   (resolve a.eval (rangeCall f w.heap.size) 0).run P (w.alloc (.loop { state:=.ready,pending:=none,fn,tmps:=a.tmps,params:=ps,assign,body,defers:=q.b })) = .ok dd w₁' /\
   (invoke dd.target dd.args).run P w₁' = .ok (.enter g args) w₂/\CallsIn F (0 - 1) P g args w₂ (rangePost F 0 P w.heap.size Q a'):=by
 unfold zG3 at h
 split at h
 ·rename_i id M1 h1
  obtain⟨rfl,hs1,hold,hnew, -, -⟩:=Mem.new_spec h1
  split at h
  ·rename_i g first cap hx
   split at h
   ·rename_i v M2 h2
    split at h
    ·rename_i st pend tm ps2 as2 bd2 dfr2 h3
     split at h
     ·cases h
     ·rename_i hst
      split at h
      ·rename_i M3 h4
       simp only[Option.some.injEq,Prod.mk.injEq] at h
       obtain⟨rfl,rfl,rfl⟩:=h
       obtain⟨hlt4,hsz4,hget4, -, -⟩:=Mem.put_spec h4
       have hle2:=hc.le _ _ _ _ _ h2
       have hfr0:μ M.size=none:=hfr _ (Nat.le_refl _) (by have:=hle2.le;omega)
       have hdd:d≠M.size:=fun e=>by rw[e,hfr0] at hd;cases hd
       have S1:=zaG (fn:=fn) (tmps:=a.tmps) h1 hfr0 R H hd hdd
       generalize hW1:w.alloc (.loop { state:=.ready,pending:=none,fn,tmps:=a.tmps,params:=ps,assign,body,defers:=q.b })=W1 at S1 ⊢
       have f1:∀ i,M.size<=i->i<M1.size->μ i=none:=fun i k1 k2=>hfr i k1 (by have:=hle2.le;omega)
       have Hf:=zFM H f
       rw[hx] at Hf
       generalize hv:a.eval f=fv at Hf
       cases Hf with
       | fn g1 g2 =>
        rename_i l' m'
        have hid:=Inj.upd_same μ M.size ⟨w.heap.size,0,0,0⟩
        obtain⟨k1,k2⟩:=hc.fn _ _ _ _ _ h2 _ W1 (l' ++ #[.func (.yield w.heap.size) #[] #[]]++m') S1.on (by
         simp only[Array.toList_append]
         exact((g1.mono S1.ext.sub).append (.cons (.yl hid) .nil)).append (g2.mono S1.ext.sub)) (S1.fresh (fun i k1 k2=>hfr i k1 (by omega)))
        refine⟨{ target:=.fn (.func g) m',args:=l' ++ #[.func (.yield w.heap.size) #[] #[]] },W1,g,l' ++ #[.func (.yield w.heap.size) #[] #[]]++m',W1, ?_, ?_, ?_⟩
        ·simp only[resolve,hv,Deferred.ofValue,Sem.run_pure]
         have:a.eval (.const (.func (.yield w.heap.size) #[] #[])) = .func (.yield w.heap.size) #[] #[]:=by simp [Act.eval]
         simp [this]
        ·simpa [invoke,Act.eval] using k1
        ·have k3:CallsIn F 0 P g (l' ++ #[.func (.yield w.heap.size) #[] #[]]++m') W1 (zCM Γ P (μ.upd M.size ⟨w.heap.size,0,0,0⟩) M1 W1 v M2):=by rcases hF with rfl | ⟨l,rfl⟩ <;> exact k2
         refine k3.mono fun e w' hp=>?_
         obtain⟨v',μ2,rfl,hres⟩:=hp
         have S2:=Seg.of_res hres
         have S12:=S1.trans S2 f1
         have hid2:=S2.ext.sub _ _ hid
         have hlt2:M.size<M2.size:=by have:=hle2.le;omega
         obtain⟨hb2,obj,ho2,hok2⟩:=S2.on.ok M.size _ hlt2 hid2
         rw[h3] at ho2;cases ho2
         obtain⟨r,hr1,hr2,hr3,hr4,hr5,hr6,hr7,q2,hr8,hr9⟩:=hok2
         have hbusy:r.state ≠ .busy:=by rw[hr2];exact fun e=>hst e
         have hrun:=run_endLoop (P:=P) hr1 hbusy
         have S3:Seg Γ P μ2 M2 w' μ2 M3 (w'.putObj w.heap.size (.loop { r with state:=.exhausted })):=by
          refine Seg.of_res (r:=zA3) (v:=undef) (Res.write h4 hid2 hlt2 hlt2 S2.on (zCH h3 rfl) (by simp) (fun k hk=>World.putObj_heap_other hk) rfl rfl rfl ?_ (.sc _))
          exact⟨_,World.putObj_heap_same hb2,rfl,hr3,hr4,hr5,hr6,hr7,q2,hr8,hr9⟩
         have S:=S12.trans S3 (fun i k1 k2=>hfr i k1 (by omega))
         refine⟨r.pending,_,hrun, ?_⟩
         have hq:=hQ _ _ S
         cases pend with
         | none =>
          cases hp:r.pending with
          | none=>rw[hp] at hq;exact hq
          | some c=>rw[hp] at hr3;exact hr3.elim
         | some x =>
          cases hp:r.pending with
          | none=>rw[hp] at hr3;cases x <;> exact hr3.elim
          | some c =>
           rw[hp] at hr3 hq
           cases x with
           | normal=>cases c <;> exact hr3.elim
           | ret =>
            cases c <;> first | exact hr3.elim | skip
            exact wpIn_ret hq
           | exit i =>
            cases c <;> first | exact hr3.elim | skip
            have:i=_:=hr3
            subst this
            exact wpIn_exit hq
      ·cases h
    ·cases h
   ·cases h
  ·cases h
 ·cases h
theorem zZO (hc:CallOK Γ P call)(f:Operand)(ps:Array Tmp)(x y:Code):zK7 Γ P call fuel (.rangeFunc f ps x y):=by
 intro rd t M e t' M' h μ F a w hF R H D hfr Q hQ
 simp only[zAM,zA8] at h
 refine wpIn_rangeFunc fun fn _=>?_
 cases rd with
 | some l =>
  simp only at h
  split at h
  ·rename_i d hg
   obtain⟨p,hp,rfl⟩:=hF
   obtain⟨_,obj,ho,hok⟩:=R.ok l p (Mem.get_lt hg) hp
   rw[hg] at ho;cases ho
   obtain⟨r,hr1,hr2,hr3,hr4,hr5,hr6,hr7,q,hr8,hr9⟩:=hok
   have ht:=zW9 h
   subst ht
   obtain⟨dd,w₁',g,args,w₂,k1,k2,k3⟩:=zRI hc h (F:=Fence.wide.inRound p.b) (.inr ⟨_,rfl⟩) (a':={ a with defers:=[]++a.defers }) R H hr8 hfr fn Q
    (fun w' μ' S=>hQ _ w' μ' S (VRels.mono S.ext.sub H) (D.mono S.ext.sub))
   rw[hr9] at k1
   exact⟨_,_,_,dd,w₁',g,args,w₂,run_enterLoop_inner hr1 _ _ _ _ _,k1,fun _ _=>trivial,k2,(fun h=>by cases h),k3⟩
  ·cases h
 | none =>
  cases hF
  simp only at h
  split at h
  ·rename_i d M1 h1
   have ht:=zW9 h
   subst ht
   obtain⟨rfl,hs1,hold,hnew, -, -⟩:=Mem.new_spec h1
   have hle:MemLe M1 M':=zJN hc.le h
   have hfr0:μ M.size=none:=hfr _ (Nat.le_refl _) (by have:=hle.le;omega)
   have S1:Seg Γ P μ M w (μ.upd M.size ⟨w.heap.size,0,0,0⟩) M1 (w.alloc (.deferred (some []))) :=
    Seg.of_res (r:=zA3) (v:=undef) (Res.alloc h1 hfr0 R ⟨w.heap.size,0,0,0⟩ rfl rfl rfl rfl rfl (World.alloc_heap_new w _) (.sc _))
   have hid:=Inj.upd_same μ M.size ⟨w.heap.size,0,0,0⟩
   obtain⟨dd,w₁',g,args,w₂,k1,k2,k3⟩:=zRI hc h (F:=Fence.wide) (.inl rfl) (a':={ a with defers:=[{ target:=.collected w.heap.size,args:=#[] }]++a.defers }) S1.on (H.mono S1.ext.sub) hid (S1.fresh hfr) fn Q
    (fun w' μ' S=>by
     have S2:=S1.trans S (fun i k1 k2=>hfr i k1 (by have:=hle.le;omega))
     refine hQ _ w' μ' S2 (VRels.mono S2.ext.sub H) ⟨by simp [D.1],fun i d hi=>?_⟩
     cases i with
     | zero =>
      simp at hi;subst hi
      exact⟨_,S.ext.sub _ _ hid,rfl⟩
     | succ i=>exact(D.mono S2.ext.sub).2 i d (by simpa using hi))
   rw[World.size_alloc] at k1 k3
   exact⟨_,_,_,dd,w₁',g,args,w₂,run_enterLoop_outer _ _ _ _ _,k1,fun _ _=>trivial,k2,(fun h=>by cases h),k3⟩
  ·cases h
theorem zQH (hc:CallOK Γ P call)(c:Code)(hins:zI4 Γ P c):zK7 Γ P call fuel c:=zY8 hc (fun f ps x y=>zZO hc f ps x y) c hins
theorem zLC (hc:CallOK Γ P call)(hins:zMZ Γ P)(c:Code):zK7 Γ P call fuel c:=zQH hc c (hins.code c)
theorem zRQ:∀ (mk:List Nat) {M M':Mem},zF3 mk M=some M' -> ∀ {μ:Inj} {w:World} {ds:List Deferred},RelOn Γ P (· < M.size) μ M.get w->MRel μ mk ds ->
  M'.size=M.size /\ ∃ w',Seg Γ P μ M w μ M' w' /\ ∀ (F:Fence) (n:Nat) (fn:Func) (tmps:Array Value) (R:Ending->World->Prop),LeavesInM F n P fn tmps R [] .returning w'->LeavesInM F n P fn tmps R ds .returning w:=by
 intro mk
 induction mk with
 | nil =>
  intro M M' h μ w ds R D
  simp only[zF3,Option.some.injEq] at h
  subst h
  have:ds=[]:=List.eq_nil_of_length_eq_zero D.1
  subst this
  exact⟨rfl,w,.refl R,fun _ _ _ _ _ h=>h⟩
 | cons d mk ih =>
  intro M M' h μ w ds R D
  simp only[zF3] at h
  split at h
  ·rename_i hg
   split at h
   ·rename_i M1 hp
    obtain⟨p,hμ,hds⟩:=D.2 0 d rfl
    obtain⟨hlt,obj,ho,hok⟩:=R.ok d p (Mem.get_lt hg) hμ
    rw[hg] at ho;cases ho
    have hb:w.heap[p.b]? = some (.deferred (some [])):=hok
    obtain⟨_,hsz,_,_,_⟩:=Mem.put_spec hp
    have S1:Seg Γ P μ M w μ M1 (w.putObj p.b (.deferred none)) :=
     Seg.of_res (r:=zA3) (v:=undef) (Res.write hp hμ (Mem.get_lt hg) (Mem.get_lt hg) R (zCH hg rfl) (by simp) (fun k hk=>World.putObj_heap_other hk) rfl rfl rfl (World.putObj_heap_same hlt) (.sc _))
    cases ds with
    | nil=>simp at hds
    | cons x ds =>
     simp at hds
     obtain⟨e2,w2,S2,k⟩:=ih h (ds:=ds) S1.on ⟨by simpa using D.1,fun i d' hi=>by simpa using D.2 (i+1) d' (by simpa using hi)⟩
     refine⟨e2.trans hsz,w2,S1.trans S2 (fun i k1 k2=>by omega),fun F n fn tmps Q hq=>⟨by simp,.inl ⟨p.b,_,by rw[hds],run_takeDeferred hb,k F n fn tmps Q hq⟩⟩⟩
   ·cases h
  ·cases h
theorem zMP:∀ (mk:List Nat) {M M':Mem},zF3 mk M=some M'->MemLe M M':=by
 intro mk
 induction mk with
 | nil=>intro M M' h;simp [zF3] at h;subst h;exact .refl _
 | cons d mk ih =>
  intro M M' h
  simp only[zF3] at h
  split at h
  ·split at h
   ·rename_i hp;exact(MemLe.put hp).trans (ih h)
   ·cases h
  ·cases h
def resF (tmps:Array Value):ResultVar->Sem Value
 | .tmp t=>pure (tmps.getD t undef)
 | .cell a t=>do loadVar t (<- asAddr (tmps.getD a undef))
def zG8 (P:Program):ResultVar->Option ARes
 | .tmp t=>some (ARes.tmp t)
 | .cell a t=>do some (.cell a (<- szOf P t) (<- zG7 P t))
theorem zCP {fn:Func}{af:AFunc}(h:zFK P fn=some af):∃ c rs,fn.body=some c/\fn.results.toList.mapM (zG8 P)=some rs/\af={ ntmps:=fn.ntmps,body:=zAM P c,results:=rs }:=by
 have h':(do let b <- fn.body;let rs <- fn.results.toList.mapM (zG8 P);some { ntmps:=fn.ntmps,body:=zAM P b,results:=rs })=some af:=h
 simp only[Option.bind_eq_bind,Option.bind_eq_some_iff,Option.some.injEq] at h'
 obtain⟨c,h1,rs,h2,rfl⟩:=h'
 exact⟨c,rs,h1,h2,rfl⟩
theorem zKT {t:List AV}{tmps:Array Value}{M:Mem}{μ:Inj}{w:World}(R:RelOn Γ P (· < M.size) μ M.get w)(H:TRel μ t tmps):∀ (l:List ResultVar) (rs:List ARes) (vs:List AV),l.mapM (zG8 P)=some rs->zAI t M rs=some vs ->
  ∃ us,(l.mapM (resF tmps)).run P w = .ok us w/\VRels μ vs us:=by
 have hnth:∀ i,VRel μ (nth zA3 t i) (tmps.getD i undef):=fun i=>zFM (a:={ tmps:=tmps,defers:=[] }) H (.tmp i)
 intro l
 induction l with
 | nil =>
  intro rs vs h1 h2
  simp at h1;subst h1
  simp [zAI] at h2;subst h2
  exact⟨[],by simp,.nil⟩
 | cons x l ih =>
  intro rs vs h1 h2
  simp only[List.mapM_cons,Option.bind_eq_bind,Option.bind_eq_some_iff,Option.pure_def,Option.some.injEq] at h1
  obtain⟨y,hy,rs',h3,rfl⟩:=h1
  cases x with
  | tmp n =>
   simp only[zG8,Option.some.injEq] at hy
   subst hy
   simp only[zAI] at h2
   split at h2
   ·rename_i vs' h4
    cases h2
    obtain⟨us,h5,h6⟩:=ih rs' vs' h3 h4
    exact⟨tmps.getD n undef::us,by simp [List.mapM_cons,resF,Sem.run_bind,Sem.run_pure,Result.andThen_ok,h5],.cons (hnth n) h6⟩
   ·cases h2
  | cell a ty =>
   simp only[zG8,Option.bind_eq_bind,Option.bind_eq_some_iff,Option.some.injEq] at hy
   obtain⟨n,hn,ag,hag,rfl⟩:=hy
   simp only[zAI] at h2
   split at h2
   ·rename_i id off hx
    split at h2
    ·rename_i cs hg
     split at h2
     ·rename_i v hv
      split at h2
      ·rename_i vs' h4
       cases h2
       obtain⟨us,h5,h6⟩:=ih rs' vs' h3 h4
       have Hp:=hnth a
       rw[hx] at Hp
       obtain⟨p,hp,hvp⟩:=zFF Hp
       obtain⟨c,e,fz,k1,k2,k3,k4,k5⟩:=zMJ R (zMI hg) hp hg
       obtain⟨m1,m2,m3⟩:=zMD k5 k3 hv
       refine⟨_::us, ?_,.cons m3 h6⟩
       simp only[List.mapM_cons,resF,Sem.run_bind,hvp]
       simp [asAddr,Sem.run_bind,Sem.run_pure,Result.andThen_ok,zGG hn hag k1 (show p.o+off+n<=c.size by omega) m2,h5]
      ·cases h2
     ·cases h2
    ·cases h2
   ·cases h2
theorem zJP {fn:Func}{t:List AV}{tmps:Array Value}{M:Mem}{μ:Inj}{w:World}(R:RelOn Γ P (· < M.size) μ M.get w)(H:TRel μ t tmps){rs:List ARes}{vs:List AV}(h1:fn.results.toList.mapM (zG8 P)=some rs)(h2:zAI t M rs=some vs) :
  ∃ v,(results fn tmps).run P w = .ok v w/\VRel μ (zC6 vs) v:=by
 obtain⟨us,h3,h4⟩:=zKT R H _ _ _ h1 h2
 have e:results fn tmps=(do let vs <- fn.results.mapM (resF tmps);pure (if h:vs.size=1 then vs[0] else .tuple vs)):=rfl
 rw[e,Array.mapM_eq_mapM_toList]
 cases h4 with
 | nil=>exact⟨.tuple #[],by simp [Sem.run_bind,h3,Result.andThen_ok,Sem.run_pure],.tup .nil⟩
 | cons a b =>
  cases b with
  | nil=>exact⟨_,by simp [Sem.run_bind,h3,Result.andThen_ok,Sem.run_pure],a⟩
  | cons c d=>exact⟨_,by simp [Sem.run_bind,h3,Result.andThen_ok,Sem.run_pure];rfl,.tup (by simpa using .cons a (.cons c d))⟩
theorem zQN {g:AV->Option AV}:∀ {l r:List AV},frzL g l=some r->r.length=l.length:=by
 intro l
 induction l with
 | nil=>intro r h;simp [frzL] at h;subst h;rfl
 | cons x l ih =>
  intro r h
  simp only[frzL] at h
  split at h
  ·split at h
   ·rename_i hr;cases h;simp [ih hr]
   ·cases h
  ·cases h
theorem zFN {μ:Inj}{f':Nat->Option Obj}{g:AV->Option AV}(hg:∀ x y v,g x=some y->VRel μ x v->FRel f' y v):∀ {l r:List AV} {vs:List Value},frzL g l=some r->VRels μ l vs->FRels f' r vs:=by
 intro l
 induction l with
 | nil =>
  intro r vs h k
  simp [frzL] at h;subst h
  cases k
  exact .nil
 | cons x l ih =>
  intro r vs h k
  cases k with
  | cons a b =>
   simp only[frzL] at h
   split at h
   ·rename_i y hy
    split at h
    ·rename_i r' hr
     cases h
     exact .cons (hg x y _ hy a) (ih hr b)
    ·cases h
   ·cases h
theorem zcW {M:Mem}{mark:Nat}{μ:Inj}{w:World}{f':Nat->Option Obj}(R:RelOn Γ P (· < M.size) μ M.get w)(hf:∀ b x,μ.f b=some x->f' b=some x)
  (hb:∀ id p,mark<=id->id<M.size->μ id=some p->f' p.b=w.heap[p.b]?):∀ (k:Nat) (x y:AV) (v:Value),frz M mark k x=some y->VRel μ x v->FRel f' y v:=by
 intro k
 induction k with
 | zero=>intro x y v h;simp [frz] at h
 | succ k ih =>
  intro x y v h H
  cases x with
  | sc u=>simp only[frz,Option.some.injEq] at h;subst h;cases H;exact .sc _
  | pv cs len cap st =>
   simp only[frz,Option.some.injEq] at h;subst h
   cases H with
   | pv a b c d e g=>exact .pv (hf _ _ a) b (FRels.mono hf c) d e g
   | pv0 a=>exact .pv0 a
  | cp cs off =>
   simp only[frz,Option.some.injEq] at h;subst h
   cases H with
   | cp a b c=>exact .cp (hf _ _ a) b (FRels.mono hf c)
  | fn g a b =>
   simp only[frz] at h
   split at h
   ·rename_i r hr
    split at h
    ·rename_i r' hr'
     cases h
     cases H with
     | fn H H'=>exact .fn (zFN ih hr H) (zFN ih hr' H')
    ·cases h
   ·cases h
  | agg l =>
   simp only[frz] at h
   split at h
   ·rename_i r hr;cases h
    cases H with
    | agg H=>exact .agg (zFN ih hr H)
   ·cases h
  | tup l =>
   simp only[frz] at h
   split at h
   ·rename_i r hr;cases h
    cases H with
    | tup H=>exact .tup (zFN ih hr H)
   ·cases h
  | sl id off len cap st =>
   simp only[frz] at h
   split at h
   ·rename_i h1
    split at h
    ·rename_i cs hg
     split at h
     ·rename_i h2
      split at h
      ·rename_i r hr
       cases h
       have h1:=Nat.le_of_ble_eq_true h1
       have h2:=Nat.le_of_ble_eq_true h2
       have hl:=zQN hr
       cases H with
       | sl hp hcap =>
        rename_i c' p
        have hlt:=zMI hg
        obtain⟨c,e,fz,k1,k2,k3,k4,k5⟩:=zMJ R hlt hp hg
        have hsl:(slot r off (len*st)).length=len*st:=by unfold slot;simp;omega
        have hF:=zFN ih hr k5
        exact zE09
       | sl0 hp hcap =>
        rw[Nat.zero_mul,show slot r off 0=[] by simp [slot]]
        refine .pv0 fun c hc=>?_
        subst hc;exact hcap.symm
      ·cases h
     ·cases h
    ·cases h
   ·cases h
  | _=>simp [frz] at h
theorem ze0 {M:Mem}{mark:Nat}{μ:Inj}{w:World}{f':Nat->Option Obj}(R:RelOn Γ P (· < M.size) μ M.get w)
  (hb:∀ id p,mark<=id->id<M.size->μ id=some p->f' p.b=w.heap[p.b]?):∀ (k:Nat) (x y:AV) (v:Value),ownV M k x=true/\frz M mark k x=some y->VRel μ x v->FRel f' y v:=by
 intro k
 induction k with
 | zero=>intro x y v h;simp [frz] at h
 | succ k ih =>
  intro x y v h H
  obtain⟨ho,h⟩:=h
  have hL:∀ {l r:List AV} {vs:List Value},l.all (ownV M k)=true->frzL (frz M mark k) l=some r->VRels μ l vs->FRels f' r vs:=by
   intro l
   induction l with
   | nil=>intro r vs _ h k;simp [frzL] at h;subst h;cases k;exact .nil
   | cons x l ihl =>
    intro r vs hl h k
    rw[List.all_cons,Bool.and_eq_true] at hl
    cases k with
    | cons a b =>
     simp only[frzL] at h
     split at h
     ·rename_i y hy
      split at h
      ·rename_i r' hr;cases h;exact .cons (ih x y _ ⟨hl.1,hy⟩ a) (ihl hl.2 hr b)
      ·cases h
     ·cases h
  cases x with
  | sc u=>simp only[frz,Option.some.injEq] at h;subst h;cases H;exact .sc _
  | agg l =>
   simp only[ownV] at ho
   simp only[frz] at h
   split at h
   ·rename_i r hr;cases h
    cases H with
    | agg H=>exact .agg (hL ho hr H)
   ·cases h
  | tup l =>
   simp only[ownV] at ho
   simp only[frz] at h
   split at h
   ·rename_i r hr;cases h
    cases H with
    | tup H=>exact .tup (hL ho hr H)
   ·cases h
  | sl id off len cap st =>
   simp only[frz] at h
   split at h
   ·rename_i h1
    split at h
    ·rename_i cs hg
     simp only[ownV,hg] at ho
     split at h
     ·rename_i h2
      split at h
      ·rename_i r hr
       cases h
       have h1:=Nat.le_of_ble_eq_true h1
       have h2:=Nat.le_of_ble_eq_true h2
       have hl:=zQN hr
       cases H with
       | sl hp hcap =>
        rename_i c' p
        have hlt:=zMI hg
        obtain⟨c,e,fz,k1,k2,k3,k4,k5⟩:=zMJ R hlt hp hg
        have hsl:(slot r off (len*st)).length=len*st:=by unfold slot;simp;omega
        have hF:=hL ho hr k5
        exact zE09
       | sl0 hp hcap =>
        rw[Nat.zero_mul,show slot r off 0=[] by simp [slot]]
        refine .pv0 fun c hc=>?_
        subst hc;exact hcap.symm
      ·cases h
     ·cases h
    ·cases h
   ·cases h
  | _=>simp [ownV] at ho
theorem zZW {M:Mem}{mark:Nat}{μ:Inj}{w:World}{f':Nat->Option Obj}(R:RelOn Γ P (· < M.size) μ M.get w)
  (hb:∀ id p,mark<=id->id<M.size->μ id=some p->f' p.b=w.heap[p.b]?) {k:Nat}:∀ {l r:List AV} {vs:List Value},l.all (ownV M k)=true->frzL (frz M mark k) l=some r->VRels μ l vs->FRels f' r vs:=by
 intro l
 induction l with
 | nil=>intro r vs _ h k;simp [frzL] at h;subst h;cases k;exact .nil
 | cons x l ihl =>
  intro r vs hl h k
  rw[List.all_cons,Bool.and_eq_true] at hl
  cases k with
  | cons a b =>
   simp only[frzL] at h
   split at h
   ·rename_i y hy
    split at h
    ·rename_i r' hr;cases h;exact .cons (ze0 R hb _ x y _ ⟨hl.1,hy⟩ a) (ihl hl.2 hr b)
    ·cases h
   ·cases h
def Inj.bare (μ:Inj):Inj:=⟨fun _=>none,μ.f⟩
theorem zc5 {μ:Inj}{D:Nat->Prop}{E:Cont}{w:World}(R:RelOn Γ P D μ E w):RelOn Γ P (· < mem0.size) μ.bare mem0.get w :=
 ⟨fun id p h=>absurd h (Nat.not_lt_zero _),fun i j p q h=>absurd h (Nat.not_lt_zero _),fun b x hx=>R.fz b x hx,fun b x i p _ h=>absurd h (Nat.not_lt_zero _),R.gl⟩
theorem zcU {M M':Mem}{id:Nat}{str:Bool}{cs:List AV}{μ:Inj}{w:World}{p:Pl}(hput:M.put id (.fro cs)=some M')(hg:M.get id=some (.row str cs))(hp:μ id=some p)(R:RelOn Γ P (· < M.size) μ M.get w) :
  Ext (· < M.size) μ M.size M.get w ⟨μ.m,fun b=>if b=p.b then w.heap[p.b]? else μ.f b⟩ M'.size M'.get w/\RelOn Γ P (· < M'.size) ⟨μ.m,fun b=>if b=p.b then w.heap[p.b]? else μ.f b⟩ M'.get w/\M'.size=M.size:=by
 obtain⟨hlt,hsz,hget,_,_⟩:=Mem.put_spec hput
 have hlive:live M.get id:=zCH hg rfl
 have nof:∀ x,μ.f p.b≠some x:=fun x h=>R.sep p.b x id p h hlt hp hlive rfl
 have hgone:¬ live M'.get id:=zFA (o:=.fro cs) (by rw[hget,if_pos rfl]) rfl
 have hsub:μ.le ⟨μ.m,fun b=>if b=p.b then w.heap[p.b]? else μ.f b⟩:=⟨fun _ _ h=>h,fun b x h=>by
  show (if b=p.b then w.heap[p.b]? else μ.f b)=some x
  by_cases e:b=p.b
  ·subst e;exact absurd h (nof x)
  ·rw[if_neg e];exact h⟩
 have ne:∀ i,live M'.get i->i≠id:=fun i hl e=>hgone (e ▸ hl)
 have old:∀ i,live M'.get i->live M.get i:=fun i hl=>by
  have:=ne i hl
  rw[zBP (E':=M.get) (by rw[hget,if_neg this])] at hl
  exact hl
 refine⟨⟨hsub,fun i q h1 h2=>?_,fun b x h1 h2=>?_,by omega,Nat.le_refl _,fun _ _ _=>rfl,fun i hi hn=>absurd hi hn,fun i hi hd=>?_,rfl,rfl,rfl⟩,⟨fun i q hi hq=>?_,fun i j q r hi hj hq hr hl1 hl2 e=>?_,fun b x hx=>?_,fun b x i q hx hi hq hl e=>?_,Γ.mono _ _ hsub.fz R.gl⟩,hsz⟩
 ·have h1:μ i=some q:=h1
  rw[h2] at h1;cases h1
 ·have h1:(if b=p.b then w.heap[p.b]? else μ.f b)=some x:=h1
  by_cases e:b=p.b
  ·exact .inr ⟨id,p,hlt,hlt,hp,e.symm,hlive,hgone⟩
  ·rw[if_neg e,h2] at h1;cases h1
 ·rw[hget,if_neg (fun (e:i=id)=>hd (e ▸ hlive))]
 ·have hq:μ i=some q:=hq
  obtain⟨k1,obj,k2,k3⟩:=R.ok i q (by omega) hq
  by_cases e:i=id
  ·subst e
   rw[hp] at hq;cases hq
   rw[hg] at k2;cases k2
   obtain⟨c,e,fz,m1,m2,m3,m4,m5,_⟩:=k3
   refine⟨k1,.fro cs,by rw[hget,if_pos rfl],c,e,fz, ?_,m2,m3,m4,m5.mono hsub⟩
   show (if p.b=p.b then w.heap[p.b]? else μ.f p.b)=_
   rw[if_pos rfl,m1]
  ·exact⟨k1,obj,by rw[hget,if_neg e];exact k2,k3.mono hsub rfl⟩
 ·exact R.ex i j q r (by omega) (by omega) hq hr (old i hl1) (old j hl2) e
 ·have hx:(if b=p.b then w.heap[p.b]? else μ.f b)=some x:=hx
  by_cases e:b=p.b
  ·subst e;rw[if_pos rfl] at hx;exact hx
  ·rw[if_neg e] at hx;exact R.fz b x hx
 ·have hx:(if b=p.b then w.heap[p.b]? else μ.f b)=some x:=hx
  by_cases eb:b=p.b
  ·subst eb
   exact ne i hl (R.ex i id q p (by omega) hlt hq hp (old i hl) hlive e)
  ·rw[if_neg eb] at hx
   exact R.sep b x i q hx (by omega) hq (old i hl) e
def zfB (Γ:Glob)(P:Program)(g:Mem->AV->Option (AV × Mem)):Prop :=
 ∀ M x y M' μ v w,g M x=some (y,M')->RelOn Γ P (· < M.size) μ M.get w->VRel μ x v -> ∃ μ':Inj,Ext (· < M.size) μ M.size M.get w μ' M'.size M'.get w/\RelOn Γ P (· < M'.size) μ' M'.get w/\FRel μ'.f y v/\M'.size=M.size
theorem zGB {g:Mem->AV->Option (AV × Mem)}(hg:zfB Γ P g):∀ (l:List AV) (M:Mem) (r:List AV) (M':Mem) (μ:Inj) (vs:List Value) (w:World),icyL g M l=some (r,M')->RelOn Γ P (· < M.size) μ M.get w->VRels μ l vs ->
  ∃ μ':Inj,Ext (· < M.size) μ M.size M.get w μ' M'.size M'.get w/\RelOn Γ P (· < M'.size) μ' M'.get w/\FRels μ'.f r vs/\M'.size=M.size:=by
 intro l
 induction l with
 | nil =>
  intro M r M' μ vs w h R H
  cases H
  simp only[icyL,Option.some.injEq,Prod.mk.injEq] at h
  obtain⟨rfl,rfl⟩:=h
  exact⟨μ,Ext.refl ..,R,.nil,rfl⟩
 | cons x l ih =>
  intro M r M' μ vs w h R H
  cases H with
  | cons a b =>
   simp only[icyL] at h
   split at h
   ·rename_i y M1 h1
    split at h
    ·rename_i r' M2 h2
     cases h
     obtain⟨μ1,X1,R1,F1,e1⟩:=hg M x y M1 μ _ w h1 R a
     obtain⟨μ2,X2,R2,F2,e2⟩:=ih M1 r' M' μ1 _ w h2 R1 (b.mono X1.sub)
     exact⟨μ2,X1.trans X2 (fun i _ hi=>by omega) (fun i k1 k2=>by omega),R2,.cons (F1.mono X2.sub.fz) F2,by omega⟩
    ·cases h
   ·cases h
theorem zbA:∀ k,zfB Γ P (icy k):=by
 intro k
 induction k with
 | zero=>intro M x y M' μ v w h;simp [icy] at h
 | succ k ih =>
  intro M x y M' μ v w h R H
  cases x with
  | sc u =>
   simp only[icy,Option.some.injEq,Prod.mk.injEq] at h
   obtain⟨rfl,rfl⟩:=h
   cases H
   exact⟨μ,Ext.refl ..,R,.sc _,rfl⟩
  | pv cs len cap st =>
   simp only[icy,Option.some.injEq,Prod.mk.injEq] at h
   obtain⟨rfl,rfl⟩:=h
   cases H with
   | pv a b c d e g=>exact⟨μ,Ext.refl ..,R,.pv a b c d e g,rfl⟩
   | pv0 a=>exact⟨μ,Ext.refl ..,R,.pv0 a,rfl⟩
  | cp cs off =>
   simp only[icy,Option.some.injEq,Prod.mk.injEq] at h
   obtain⟨rfl,rfl⟩:=h
   cases H with
   | cp a b c=>exact⟨μ,Ext.refl ..,R,.cp a b c,rfl⟩
  | agg l =>
   simp only[icy] at h
   split at h
   ·rename_i r M1 h1
    cases h
    cases H with
    | agg H =>
     obtain⟨μ1,X1,R1,F1,e1⟩:=zGB ih l M r M' μ _ w h1 R H
     exact⟨μ1,X1,R1,.agg F1,e1⟩
   ·cases h
  | tup l =>
   simp only[icy] at h
   split at h
   ·rename_i r M1 h1
    cases h
    cases H with
    | tup H =>
     obtain⟨μ1,X1,R1,F1,e1⟩:=zGB ih l M r M' μ _ w h1 R H
     exact⟨μ1,X1,R1,.tup F1,e1⟩
   ·cases h
  | fn f l m =>
   simp only[icy] at h
   split at h
   ·rename_i r M1 h1
    split at h
    ·rename_i r' M2 h2
     cases h
     cases H with
     | fn H H' =>
      obtain⟨μ1,X1,R1,F1,e1⟩:=zGB ih l M r M1 μ _ w h1 R H
      obtain⟨μ2,X2,R2,F2,e2⟩:=zGB ih m M1 r' M' μ1 _ w h2 R1 (H'.mono X1.sub)
      exact⟨μ2,X1.trans X2 (fun i _ hi=>by omega) (fun i k1 k2=>by omega),R2,.fn (F1.mono X2.sub.fz) F2,by omega⟩
    ·cases h
   ·cases h
  | sl id off len cap st =>
   simp only[icy] at h
   split at h
   ·rename_i cs hg
    split at h
    ·rename_i hb
     have hb:=Nat.le_of_ble_eq_true hb
     split at h
     ·rename_i cs' M1 h1
      have hlt:=zMI hg
      obtain⟨p,hp⟩:∃ p,μ id=some p:=by cases H with | sl hp _=>exact⟨_,hp⟩ | sl0 hp _=>exact⟨_,hp⟩
      obtain⟨c,e,fz,k1,k2,k3,k4,k5⟩:=zMJ R hlt hp hg
      obtain⟨μ1,X1,R1,F1,e1⟩:=zGB ih cs M cs' M1 μ _ w h1 R k5
      have hcl:cs'.length=p.L:=by have:=F1.length;simp at this;have:=Array.length_toList (xs:=c);omega
      have hp1:=X1.sub id p hp
      -- the value,where the block is frozen
      have fin:∀ f:Nat->Option Obj,(∀ b x,μ1.f b=some x->f b=some x)->f p.b=some (.cells c e fz)->FRel f (.pv (slot cs' off (len*st)) len cap st) v:=fun f hf hfb=>by
       have hsl:(slot cs' off (len*st)).length=len*st:=by unfold slot;simp;omega
       cases H with
       | sl hp' hcap =>
        rw[hp] at hp';cases hp'
        refine .pv hfb (by rw[hsl];omega) ?_ hsl ?_ ?_
        ·rw[hsl]
         have F:=F1.mono hf
         rw[<- hcl] at F
         exact F.win (by omega)
        ·cases cap with
         | none=>exact hcap.1
         | some c=>exact hcap.2.1
        ·intro c hc;subst hc;exact hcap.1
       | sl0 hp' hcap =>
        rw[Nat.zero_mul,show slot cs' off 0=[] by simp [slot]]
        refine .pv0 fun c hc=>?_
        subst hc;exact hcap.symm
      split at h
      ·rename_i ds hg1
       cases h
       obtain⟨_,obj,m1,m2⟩:=R1.ok id p (by omega) hp1
       rw[hg1] at m1;cases m1
       obtain⟨c2,e2,fz2,n1,_⟩:=m2
       have:=R1.fz _ _ n1
       unfold FzOK at this
       rw[k1] at this;cases this
       exact⟨μ1,X1,R1,fin μ1.f (fun _ _ h=>h) n1,e1⟩
      ·rename_i str ds hg1
       split at h
       ·rename_i M2 hput
        cases h
        obtain⟨X2,R2,e2⟩:=zcU hput hg1 hp1 R1
        refine⟨_,X1.trans X2 (fun i _ hi=>by omega) (fun i k1 k2=>by omega),R2,fin _ X2.sub.fz ?_,by omega⟩
        show (if p.b=p.b then w.heap[p.b]? else μ1.f p.b)=_
        rw[if_pos rfl,k1]
       ·cases h
      ·cases h
     ·cases h
    ·cases h
   ·cases h
  | _=>simp [icy] at h
theorem zFB {g:Mem->AV->Option (AV × Mem)}(hg:∀ M x y M',g M x=some (y,M')->MemLe M M'):∀ (l:List AV) (M:Mem) (r:List AV) (M':Mem),icyL g M l=some (r,M')->MemLe M M':=by
 intro l
 induction l with
 | nil=>intro M r M' h;simp only[icyL,Option.some.injEq,Prod.mk.injEq] at h;obtain⟨rfl,rfl⟩:=h;exact .refl _
 | cons x l ih =>
  intro M r M' h
  simp only[icyL] at h
  split at h
  ·rename_i y M1 h1
   split at h
   ·rename_i r' M2 h2
    cases h
    exact(hg _ _ _ _ h1).trans (ih _ _ _ h2)
   ·cases h
  ·cases h
theorem zb9:∀ k M x y M',icy k M x=some (y,M')->MemLe M M':=by
 intro k
 induction k with
 | zero=>intro M x y M' h;simp [icy] at h
 | succ k ih =>
  intro M x y M' h
  cases x with
  | sc u=>simp only[icy,Option.some.injEq,Prod.mk.injEq] at h;obtain⟨rfl,rfl⟩:=h;exact .refl _
  | pv=>simp only[icy,Option.some.injEq,Prod.mk.injEq] at h;obtain⟨rfl,rfl⟩:=h;exact .refl _
  | cp=>simp only[icy,Option.some.injEq,Prod.mk.injEq] at h;obtain⟨rfl,rfl⟩:=h;exact .refl _
  | agg l =>
   simp only[icy] at h
   split at h
   ·rename_i r M1 h1;cases h;exact zFB ih _ _ _ _ h1
   ·cases h
  | tup l =>
   simp only[icy] at h
   split at h
   ·rename_i r M1 h1;cases h;exact zFB ih _ _ _ _ h1
   ·cases h
  | fn f l m =>
   simp only[icy] at h
   split at h
   ·rename_i r M1 h1
    split at h
    ·rename_i r' M2 h2;cases h;exact(zFB ih _ _ _ _ h1).trans (zFB ih _ _ _ _ h2)
    ·cases h
   ·cases h
  | sl id off len cap st =>
   simp only[icy] at h
   split at h
   ·split at h
    ·split at h
     ·rename_i cs' M1 h1
      split at h
      ·cases h;exact zFB ih _ _ _ _ h1
      ·split at h
       ·rename_i M2 hput;cases h;exact(zFB ih _ _ _ _ h1).trans (.put hput)
       ·cases h
      ·cases h
     ·cases h
    ·cases h
   ·cases h
  | _=>simp [icy] at h
theorem zO2 {fn:Func}{t:List AV}{tmps:Array Value}{M:Mem}{μ:Inj}{w:World}(R:RelOn Γ P (· < M.size) μ M.get w)(H:TRel μ t tmps){rs:List ARes}{vs:List AV}(h1:fn.results.toList.mapM (zG8 P)=some rs)(h2:zAI t M rs=some vs) :
  ∃ v us,(results fn tmps).run P w = .ok v w/\VRels μ vs us /\ ∀ (μ':Inj) vs',VRels μ' vs' us->VRel μ' (zC6 vs') v:=by
 obtain⟨us,h3,h4⟩:=zKT R H _ _ _ h1 h2
 have e:results fn tmps=(do let vs <- fn.results.mapM (resF tmps);pure (if h:vs.size=1 then vs[0] else .tuple vs)):=rfl
 rw[e,Array.mapM_eq_mapM_toList]
 match us,h3 with
 | [],h3=>exact⟨.tuple #[],[],by simp [Sem.run_bind,h3,Result.andThen_ok,Sem.run_pure],h4,fun μ' vs' k=>by cases k;exact .tup .nil⟩
 | [u],h3=>exact⟨u,[u],by simp [Sem.run_bind,h3,Result.andThen_ok,Sem.run_pure],h4,fun μ' vs' k=>by cases k with | cons a b=>cases b;exact a⟩
 | u::u2::ul,h3=>exact⟨.tuple (u::u2::ul).toArray,u::u2::ul,by simp [Sem.run_bind,h3,Result.andThen_ok,Sem.run_pure],h4,fun μ' vs' k=>by cases k with | cons a b=>cases b with | cons c d=>exact .tup (by simpa using VRels.cons a (.cons c d))⟩
theorem zfW {μ μ2:Inj}{M M2:Mem}{w w2:World}(R:RelOn Γ P (· < M.size) μ M.get w)
  (X:Ext (· < mem0.size) μ.bare mem0.size mem0.get w μ2 M2.size M2.get w2) (R2:RelOn Γ P (· < M2.size) μ2 M2.get w2)
  {k:Nat} {vs vs':List AV} {us:List Value} (hv:VRels μ2 vs us) (hz:frzL (frz M2 0 k) vs=some vs') :
  ∃ μ',Ext (· < M.size) μ M.size M.get w μ' M.size M.get w2/\RelOn Γ P (· < M.size) μ' M.get w2/\VRels μ' vs' us:=by
 have keep:∀ b,b<w.heap.size->w2.heap[b]? = w.heap[b]? := fun b hb=>X.frame b hb fun i q h=>absurd h (Nat.not_lt_zero _)
 let f':Nat->Option Obj:=fun b=>if b<w.heap.size then μ.f b else w2.heap[b]?
 have flo:∀ b,b<w.heap.size->f' b=μ.f b:=fun b hb=>if_pos hb
 have fhi:∀ b,w.heap.size<=b->f' b=w2.heap[b]? := fun b hb=>if_neg (by omega)
 have hf:∀ b x,μ2.f b=some x->f' b=some x:=fun b x hx=>by
  by_cases hb:b<w.heap.size
  ·rw[flo b hb]
   cases hm:μ.f b with
   | some y =>
    have e:=X.sub.fz b y hm
    rw[hx] at e;cases e;rfl
   | none =>
    rcases X.fnew b x hx hm with z | ⟨i,_,hi,_⟩
    ·omega
    ·exact absurd hi (Nat.not_lt_zero _)
  ·rw[fhi b (by omega)];exact R2.fz b x hx
 have hb:∀ id p,0<=id->id<M2.size->μ2 id=some p->f' p.b=w2.heap[p.b]? := fun id p _ _ hp=>by
  rcases (X.new id p hp rfl).2.2 with z | ⟨i,_,hi,_⟩
  ·exact fhi _ z
  ·exact absurd hi (Nat.not_lt_zero _)
 have hsub:μ.le ⟨μ.m,f'⟩:=⟨fun _ _ h=>h,fun b x h=>by show f' b=_;rw[flo b (R.fz b x h).lt];exact h⟩
 have hvz:=zFN (zcW R2 hf hb k) hz hv
 exact zE01
theorem ze1 {μ μ0 μ2:Inj}{M M2:Mem}{w w2:World}(R:RelOn Γ P (· < M.size) μ M.get w)
  (X:Ext (· < mem0.size) μ0.bare mem0.size mem0.get w μ2 M2.size M2.get w2) (R2:RelOn Γ P (· < M2.size) μ2 M2.get w2)
  {k:Nat} {vs vs':List AV} {us:List Value} (hv:VRels μ2 vs us) (ho:vs.all (ownV M2 k)=true) (hz:frzL (frz M2 0 k) vs=some vs') :
  ∃ μ',Ext (· < M.size) μ M.size M.get w μ' M.size M.get w2/\RelOn Γ P (· < M.size) μ' M.get w2/\VRels μ' vs' us:=by
 have keep:∀ b,b<w.heap.size->w2.heap[b]? = w.heap[b]? := fun b hb=>X.frame b hb fun i q h=>absurd h (Nat.not_lt_zero _)
 let f':Nat->Option Obj:=fun b=>if b<w.heap.size then μ.f b else w2.heap[b]?
 have flo:∀ b,b<w.heap.size->f' b=μ.f b:=fun b hb=>if_pos hb
 have fhi:∀ b,w.heap.size<=b->f' b=w2.heap[b]? := fun b hb=>if_neg (by omega)
 have hb:∀ id p,0<=id->id<M2.size->μ2 id=some p->f' p.b=w2.heap[p.b]? := fun id p _ _ hp=>by
  rcases (X.new id p hp rfl).2.2 with z | ⟨i,_,hi,_⟩
  ·exact fhi _ z
  ·exact absurd hi (Nat.not_lt_zero _)
 have hsub:μ.le ⟨μ.m,f'⟩:=⟨fun _ _ h=>h,fun b x h=>by show f' b=_;rw[flo b (R.fz b x h).lt];exact h⟩
 have hvz:=zZW R2 hb ho hz hv
 exact zE01
end Go.Ax
