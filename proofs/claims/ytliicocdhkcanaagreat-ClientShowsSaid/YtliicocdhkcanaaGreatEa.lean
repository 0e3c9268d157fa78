/-
 The executor on abstract memory, part 1: what it is, and that what it finds is so of the program.
-/
import GoSem.Step
import Derived.Orders
import Derived.CallsIn
import Derived.OrdersIn
import Derived.RangeFuncLeaves
import Derived.Laws.World
import Derived.Laws.Sem
set_option linter.unusedSimpArgs false
set_option linter.unusedVariables false
namespace Go.Ax
open Go
theorem zE00{p:Prop}(h:p:=by
 refine zAT hf rfl (by simp) fun b ht hx=>?_
 have h0:=hx 0 _ rfl
 clear hx
 simp only[zF6] at ht ⊢
 simp (maxSteps:=2000000) (disch:=first | omega | assumption | (simp only[zA2,zA7,zAH,List.length_cons,List.length_nil,zDU,zEO,zD2,zDQ,zEZ,zAV,zB5,List.all_cons,List.all_nil,zBN,zBH,zAY,zB7,zBO,zD0,zEI,zEH,zEF,zEG,Bool.and_true,Nat.reduceAdd, *];done) | (simp only[zA2,zA7,zAH,zAV,zB5,List.length_cons,List.length_nil];omega)) only[RUN,zAQ,zCD,zAI,zC6,frzL,slot,lay,icyL,zAB,zA9,kR,reduceIte,Nat.reduceEqDiff,Nat.reduceBEq,Nat.reduceLT,Nat.reduceAdd,Nat.reduceLeDiff,Nat.reduceSub,Nat.reduceMul,Int.reduceLT,Int.reduceLE,Int.reduceEq,Int.reduceAdd,Int.reduceSub,Int.reduceMul,decide_true,decide_false,Int.lt_irrefl,Nat.beq_eq,Option.map_some,Option.map_none,List.contains_cons,List.contains_nil,Bool.or_true,Bool.true_or,Bool.or_false,Bool.false_or,Bool.not_true,Bool.not_false,Bool.and_self,List.elem_nil,List.all_nil,List.all_cons,Bool.and_true,Bool.true_and,true_and,and_true,List.map_cons,List.map_nil,List.nil_append,List.cons_append,List.append_nil,Nat.zero_add,Nat.add_zero,List.drop_succ_cons,List.drop_zero,List.take_succ_cons,List.take_zero,List.getElem?_cons_zero,List.getElem?_cons_succ,List.length_cons,List.length_nil,pNil hu,h0,ha,k1]):p:=h
theorem zE01{p:Prop}(h:p:=by
 refine⟨⟨μ.m,f'⟩, ?_, ?_,FRels.v (μ:=⟨μ.m,f'⟩) hvz⟩
 ·refine⟨hsub,fun id p h1 h2=>?_,fun b x h1 h2=>?_,Nat.le_refl _,X.hs,fun b hb _=>keep b hb,fun i _ _=>rfl,fun i _ _=>rfl,X.os,X.tape,X.output⟩
  ·have h1:μ id=some p:=h1
   rw[h2] at h1;cases h1
  ·by_cases hb:b<w.heap.size
   ·have h1:f' b=some x:=h1
    rw[flo b hb,h2] at h1;cases h1
   ·exact .inl (by omega)
 ·constructor
  ·intro id p hi hp
   obtain⟨a1,obj,a2,a3⟩:=R.ok id p hi hp
   exact⟨Nat.lt_of_lt_of_le a1 X.hs,obj,a2,a3.mono hsub (keep _ a1)⟩
  ·exact fun i j p q hi hj hp hq=>R.ex i j p q hi hj hp hq
  ·intro b x hx
   have hx:f' b=some x:=hx
   by_cases hb:b<w.heap.size
   ·rw[flo b hb] at hx
    exact(R.fz b x hx).mono (keep b hb)
   ·rw[fhi b (by omega)] at hx;exact hx
  ·intro b x i p hx hi hp hl
   have hx:f' b=some x:=hx
   by_cases hb:b<w.heap.size
   ·rw[flo b hb] at hx
    exact R.sep b x i p hx hi hp hl
   ·have:=(R.ok i p hi hp).1
    omega
  ·exact Γ.mono _ _ hsub.fz R.gl):p:=h
theorem zE02{p:Prop}(h:p:=by
 refine⟨M', ?_,hM'⟩
 simp only[List.cons_append,List.nil_append,List.all_nil,List.all_cons,Bool.and_self,Bool.and_true,Bool.true_and,decide_false,decide_true,Bool.not_true,Bool.not_false,Nat.zero_add,Nat.add_zero,Nat.zero_mul,Nat.sub_zero,out6,fr0,insA,zA8,zAR,zA6,zBQ,zCD,zAQ,rowsOf,zA5,nth,putA,zCF,bound,lenA,goInt,List.replicate,zBZ hO.h0,zBZ hO.h1,zBZ hO.h2,zBZ hO.h3,zBZ hO.h4,zBZ hO.h5,zBZ hO.h6,zBZ hO.h7,zBZ hO.h8,zZX hO.h9,zBZ hO.h10,zH7,rEql,rGtr,rAdd,rSub,zH0,cellsOf,zE9,Mem.rd,kM,k2M,gk,g2,hst,decide_eq_true_eq,eq_self_iff_true,hnn,hm0,hcs,hcs2,hap]):p:=h
theorem zE03{p:Prop}(h:p:=by
 cases hμi:μ i with
 | none =>
  obtain⟨x',y',z'⟩:=h.new i q hq hμi
  rcases z' with z' | ⟨i',q',hi',hn',hq',hb',hl',hd'⟩
  ·exact .inl (hb ▸ z')
  ·exact .inr ⟨i',q',hi',hn',hq',hb'.trans hb,hl',k.gone i' (Nat.lt_of_lt_of_le hn' h.le) hd'⟩
 | some q' =>
  have e:=h.sub _ _ hμi
  rw[hq] at e;cases e
  by_cases hin:i<n
  ·exact .inr ⟨i,q,hW i hin hi,hin,hμi,hb,Classical.byContradiction fun e=>h.gone i hin e hl,hd⟩
  ·rw[hfr i (by omega) hn] at hμi;cases hμi):p:=h
theorem zE04{p:Prop}(h:p:=by
 exfalso
 simp only[hb] at h0
 split at h0
 ·split at h0
  ·rename_i t' _ _
   cases hu:P.underlying t' with
   | none=>simp [hu] at h0
   | some d =>
    simp only[hu,Option.bind_some] at h0
    split at h0
    ·rename_i e
     cases hi:szOf P e with
     | none=>simp [hi] at h0
     | some s=>simp [hi] at h0
    ·simp at h0
  ·simp at h0
 ·simp at h0):p:=h
theorem zE05{p:Prop}(h:p:=by
 constructor
 ·intro id p hd hp
  obtain⟨k1,obj,k2,k3⟩:=inv.on.ok id p (hN id hd) hp
  exact⟨k1,obj,(hag id p hd hp).symm.trans k2,k3⟩
 ·intro x y p q hx hy hp hq h1 h2 e
  exact inv.on.ex x y p q (hN x hx) (hN y hy) hp hq (by unfold live at *;rw[hag x p hx hp];exact h1) (by unfold live at *;rw[hag y q hy hq];exact h2) e
 ·exact inv.on.fz
 ·intro b x id p hb hd hp hl
  exact inv.on.sep b x id p hb (hN id hd) hp (by unfold live at *;rw[hag id p hd hp];exact hl)
 ·exact inv.on.gl):p:=h
theorem zE06{p:Prop}(h:p:=by
 obtain⟨k,rfl⟩:∃ j,k=j+1:=⟨k - 1,by omega⟩
 rfl):p:=h
theorem zE07{p:Prop}(h:p:=by
 split at h
 ·split at h <;> cases h
 ·cases h):p:=h
theorem zE08{p:Prop}(h:p:=by
 rcases h with⟨rfl,rfl⟩ | ⟨id,rows,cap,rfl,_,hg,h,hl⟩
 ·exact⟨_,.inl ⟨rfl,rfl⟩,fun N _=>zFY _ (by omega)⟩
 ·refine⟨.pv rows.flatten rows.length cap st,.inr ⟨rows,cap,rfl,h,hl⟩,fun N hN=>?_⟩
  rw[zKE (zC4 ((hN id rfl).trans hg)) (by rw[zAL hl];omega) (by omega) (fun x hx=>(hT.flat h x hx).2 N _ (by omega)),zC0 _ _ (by rw[zAL hl])]):p:=h
theorem zE09{p:Prop}(h:p:=by
 refine .pv ((hb id p h1 hlt hp).trans k1) (by rw[hsl];omega) ?_ hsl ?_ ?_
 ·rw[hsl]
  rw[<- k3,<- hl] at hF
  exact hF.win (by omega)
 ·cases cap with
  | none=>exact hcap.1
  | some c=>exact hcap.2.1
 ·intro c hc;subst hc;exact hcap.1):p:=h
theorem zE0a{p:Prop}(h:p:=by
 refine .val R (.sc _) (zLD ho ?_)
 have:=zIN (P:=P) hr hbs ByteArray.empty w
 rw[hv,hvv]
 simp only[convert,Sem.run_bind,run_underlying hs,run_underlying hd,run_underlying he,Result.andThen_ok,Conv.bytesToString,hl]
 simp only[<- Array.forIn_toList]
 erw [this]
 simp):p:=h
theorem zE0b{p:Prop}(h:p:=by
 refine bad "op" ?_
 simp only[zA1,hop,hsrc,hdst]
 cases hd:P.underlying e with
 | none=>simp [hd]
 | some d3 =>
  simp only[Option.bind_eq_bind,Option.bind_some,hd]
  split
  ·exact absurd hd he
  ·rfl):p:=h
theorem zE0c{p:Prop}(h:p:=by
 intro e hne hq
 unfold fin at hq
 split at hq
 ·exact hq.elim
 ·split at hq
  ·rename_i M2 h2
   split at hq
   ·rename_i vs h3
    split at hq
    ·rename_i ws h4
     exact⟨M2,vs,ws,h2,h3,h4,hq⟩
    ·exact hq.elim
   ·exact hq.elim
  ·exact hq.elim):p:=h
theorem zE0d{p:Prop}(h:p:=by
 have e5:(len+n)*ti.size=len*ti.size+n*ti.size:=Nat.add_mul ..
 refine⟨hge, ?_, ?_⟩
 ·simp only[Array.size_append,hzl,Nat.zero_add];simp at hol hal;omega
 ·simp only[List.length_append,Nat.zero_add];omega):p:=h
theorem zE0e{p:Prop}(h:p:=by
 rw[hfj] at hcg k2
 simp only[chg,Bool.or_eq_true,Bool.and_eq_true] at hcg
 rcases hcg with h | h
 ·exact k2 id (.inr (by simpa [FP.writes] using h)) hn
 ·have:=Nat.le_of_ble_eq_true h.1;omega):p:=h
theorem zE0f{p:Prop}(h:p:=by
 have hm0:mx=none:=by
  cases mx with
  | none=>rfl
  | some q=>exact absurd hn (hne (by simp))
 subst hm0;subst hn
 have:=zB6 hm';have:=zB6 hh';omega):p:=h
theorem zE0g{p:Prop}(h:p:=by
 refine⟨0,rfl,Nat.zero_le _, ?_, ?_, ?_, ?_, ?_,rfl,(fun _ _ h=>absurd h (by omega))⟩ <;> simp (disch:=try exact SX) only[RV,seval,zAB,h0,h1,ll]
 all_goals first | rfl | assumption | done):p:=h
theorem zE0h{p:Prop}(h:p:=by
 simp at hao;exact .inr (.inr (.inl ⟨_,hao.symm⟩))):p:=h
theorem zE0i{p:Prop}(h:p:=by
 simp only[binV,binOp,ne_eq,not_true_eq_false,if_false,Op.intCmp];rfl):p:=h
theorem zE0j{p:Prop}(h:p:=by
 exact⟨hlt,l.length - (i+1),by omega,i+1,rfl,by omega,rfl,fun j h hj'=>by
  rcases Nat.lt_succ_iff_lt_or_eq.1 hj' with h' | rfl
  ·exact hj j h h'
  ·exact hb⟩):p:=h
theorem zE0k{p:Prop}(h:p:=by
 simp only[PT.is] at hza
 obtain⟨a,rfl⟩:=hza
 simp only[PT.fits] at h3
 split at h3
 ·rename_i hu
  exact zHO hu rfl (hget _ rfl)
 ·cases h3):p:=h
theorem zE0l{p:Prop}(h:p:=by
 refine zAT hf rfl (by simp) fun b ht hx=>?_
 have h0:=hx 0 _ rfl
 clear hx
 simp only[zF6] at ht ⊢
 simp (disch:=try exact SX) only[RV,seval,zAB,pNil hu,h0,ha,k1]):p:=h
theorem zE0m{p:Prop}(h:p:=by
 split
 ·rename_i w hw;exact key _ _ rfl rfl rfl rfl (by cases op <;> rfl) w hw
 ·rfl):p:=h
theorem zE0n{p:Prop}(h:p:=by
 refine k3.mono fun e w' hp=>?_
 obtain⟨v,μ',rfl,hres⟩:=hp
 exact hK v w' μ' hres):p:=h
theorem zE0o{p:Prop}(h:p:=by
 exact⟨_,w4,he,_,μ3,rfl,(S13.trans S4 (fun i k1 k2=>hfr i k1 (by omega))).res (.sc _)⟩):p:=h
theorem zE0p{p:Prop}(h:p:=by
 rw[zDI hi]
 rcases hid.2 with h1 | h1
 ·exact absurd (Nat.ble_eq_true_of_le (by omega:M.size<=id)) (by rw[h1];simp)
 ·exact zDI ((zCE _ _).1 h1)):p:=h
theorem zE0q{p:Prop}(h:p:=by
 simp only[zAF,hg,hb,h1,begA,h2,zBM wN (Mem.get_lt h2),h3,endA,h4,zBM wN2 (Mem.get_lt h4)]):p:=h
theorem zE0r{p:Prop}(h:p:=by
 simp only[mkO,Op.operands]
 show ([Operand.tmp i,.tmp j].all fun x=>(zAZ (zA5 t x)).isSome)=true
 simp only[List.all_cons,List.all_nil,h1,h2,t1,t2]
 rfl):p:=h
theorem zE0s{p:Prop}(h:p:=by
 split at h
 ·exact zE07
 ·cases h):p:=h
def zAG {α:Type}(P:Program):Sem α->Option α
 | .pure a=>some a
 | .program k=>zAG P (k P)
 | .mark _ k=>zAG P k
 | _=>none
inductive AV where
 | sc (v:Value)
 | ptr (id off:Nat)
 | sl (id off len:Nat) (cap:Option Nat) (st:Nat)
 | mp (id:Nat)
 | fn (f:FuncId) (first captured:List AV)
 | yl (id:Nat)
 | agg (l:List AV)
 | tup (l:List AV)
 | pv (cs:List AV) (len:Nat) (cap:Option Nat) (st:Nat)
 | cp (cs:List AV) (off:Nat)
 deriving Inhabited
inductive AOp where
 | mov (x:Operand)
 | pick (c a b:Operand)
 | alloc (e:TypeId) (z:Value)
 | box (e:TypeId) (x:Operand)
 | build (z:Value) (ps:List (Nat × Nat × Operand))
 | bsl (e:TypeId) (st:Nat) (z:Value) (len:Nat) (ps:List (Nat × Nat × Operand))
 | load (n:Nat) (ag:Bool) (x:Operand)
 | store (n:Nat) (x v:Operand)
 | nilck (x:Operand)
 | pur (o:Oper)
 | eqnil (neg:Bool) (k:Nat) (x:Operand) (o:Oper)
 | slc (st:Nat) (x:Operand) (lo hi mx:Option Operand)
 | sla (n st:Nat) (x:Operand) (lo hi mx:Option Operand)
 | fad (off:Nat) (x:Operand)
 | fld (off n:Nat) (ag:Bool) (x:Operand)
 | iad (st:Nat) (x i:Operand)
 | ida (len st:Nat) (x i:Operand)
 | idx (len st:Nat) (ag:Bool) (x i:Operand)
 | mkfn (f:FuncId) (first cap:List Operand)
 | mkmap
 | mksl (e:TypeId) (st bytes:Nat) (z:Value) (len cap:Operand)
 | lookup (kt:TypeId) (z:Value) (m k:Operand) (ok:Bool)
 | mupd (kt:TypeId) (m k v:Operand)
 | mlen (m:Operand)
 | ext (x:Operand) (i:Nat)
 | call (f:Operand) (args:List Operand)
 | ovl (st:Nat) (a b:Operand)
 | app (e:TypeId) (st bytes:Nat) (z:Value) (x y:Operand)
 | appz (e:TypeId) (st bytes:Nat) (z:Value) (x n:Operand)
 | ins (g:FuncId) (e:TypeId) (st bytes:Nat) (x i y:Operand)
 | cpy (st:Nat) (x y:Operand)
 | len (x:Operand)
 | cap (x:Operand)
 | clr (st:Nat) (z:Value) (x:Operand)
 | s2b (e:TypeId) (x:Operand)
 | mrk (x:Operand)
 | b2s (x:Operand)
 | rng (x:Operand)
 | nxt (x:Operand)
 | bad (why:String)
 deriving Inhabited
structure AOper where
 dst:Option Nat
 op:AOp
 guard:Option (Nat × Bool)
 unord:List Nat
 deriving Inhabited
inductive ACode where
 | skip
 | region (ops:List AOper) (draw:Bool)
 | seq (a b:ACode)
 | cond (c:Operand) (a b:ACode)
 | block (id:Nat) (b:ACode)
 | loop (b:ACode)
 | rangeFunc (f:Operand) (ps:List Nat) (assign body:ACode)
 | exit (id:Nat)
 | scope (b:ACode)
 | label
 | ret
 | ext (g:List AV->Option AV)
 | bad (why:String)
 deriving Inhabited
inductive ARes where
 | tmp (t:Nat)
 | cell (t n:Nat) (ag:Bool)
 deriving Inhabited
structure AFunc where
 ntmps:Nat
 body:ACode
 results:List ARes
 gc:Nat:=0
 deriving Inhabited
inductive AExit where
 | normal
 | exit (id:Nat)
 | ret
 deriving Inhabited,DecidableEq
inductive AObj where
 | row (str:Bool) (cells:List AV)
 | map (es:List (AV × AV × Nat)) (clock:Nat)
 | loop (st:LoopState) (pend:Option AExit) (tmps:List AV) (ps:List Nat) (assign body:ACode) (dfr:Nat)
 | dfr (spent:Bool)
 | siter (s:ByteArray) (pos:Nat)
 | fro (cells:List AV)
 | dead
 deriving Inhabited
def AObj.gone:AObj->Bool
 | .fro _ | .dead=>true
 | _=>false
abbrev T (α:Type):Type:=List α
def T.get {α:Type}:T α->Nat->Option α
 | [],_=>none
 | x::l,i=>match i with | 0=>some x | j+1=>T.get l j
def T.set {α:Type}(t:T α)(i:Nat)(x:α):Option (T α):=match t with
 | []=>match i with | 0=>some [x] | _+1=>none
 | y::l=>match i with
  | 0=>some (x::l)
  | j+1=>match T.set l j x with | some l'=>some (y::l') | none=>none
structure Mem where
 t:T AObj
 size:Nat
 wm:Nat
 dirty:Bool
def Mem.get (M:Mem)(i:Nat):Option AObj:=match Nat.blt i M.size with
 | true=>T.get M.t i
 | false=>none
def Mem.put (M:Mem)(i:Nat)(o:AObj):Option Mem :=
 match Nat.blt i M.size with
 | true=>match T.set M.t i o with
  | some t=>some ⟨t,M.size,M.wm,M.dirty || Nat.blt i M.wm⟩
  | none=>none
 | false=>none
def Mem.new (M:Mem)(o:AObj):Option (Nat × Mem) :=
 match T.set M.t M.size o with
 | some t=>some (M.size,⟨t,M.size+1,M.wm,M.dirty⟩)
 | none=>none
def Mem.rd (M:Mem)(i:Nat):Option (List AV):=match M.get i with
 | some (.row _ cs)=>some cs
 | some (.fro cs)=>some cs
 | _=>none
def zA3:AV:=.sc undef
def nth {α:Type}(d:α):List α->Nat->α
 | [],_=>d
 | x::l,i=>match i with | 0=>x | j+1=>nth d l j
def zCF {α:Type}(x:α):List α->Nat->List α
 | [],_=>[]
 | y::l,i=>match i with | 0=>x::l | j+1=>y::zCF x l j
def zA5 (t:List AV):Operand->AV
 | .tmp n=>nth zA3 t n
 | .const v => .sc v
 | .global g => .sc (.pointer (some ⟨g,0,none⟩))
 | .func f => .fn f [] []
def zAZ:AV->Option Value
 | .sc v=>some v
 | .agg l=>match toVals l with | some vs=>some (.agg vs.toArray) | none=>none
 | .tup l=>match toVals l with | some vs=>some (.tuple vs.toArray) | none=>none
 | _=>none
where toVals:List AV->Option (List Value)
 | []=>some []
 | x::l=>match zAZ x with
  | some v=>match toVals l with | some vs=>some (v::vs) | none=>none
  | none=>none
def cellsA:AV->List AV
 | .agg l=>l
 | .sc (.agg cs)=>cs.toList.map .sc
 | x=>[x]
def scs (v:Value):List AV:=v.cells.toList.map .sc
def slot {α:Type}(l:List α)(off n:Nat):List α:=(l.drop off).take n
def lay (cs:List AV)(off:Nat)(new:List AV):List AV:=cs.take off++new++cs.drop (off+new.length)
def oneA:AV->Bool
 | .agg _ | .tup _ | .sc (.agg _) | .sc (.tuple _)=>false
 | _=>true
def zAB (t:List AV)(cs:List AV):List (Nat × Nat × Operand)->Option (List AV)
 | []=>some cs
 | (off,size,x)::rest =>
  let new:=cellsA (zA5 t x)
  if new.length == size&&Nat.ble (off+size) cs.length then zAB t (lay cs off new) rest else none
def zB9 (P:Program)(t:List AV)(o:Oper):Option AV :=
 let ρ:Operand->Value:=fun x=>(zAZ (zA5 t x)).getD undef
 match o.op.operands.toList.all (fun x=>(zAZ (zA5 t x)).isSome) with
 | true=>match zAG P (execOp ρ o) with
  | some (.value v)=>some (.sc v)
  | _=>none
 | false=>none
def bound (t:List AV)(y:Nat):Option Operand->Nat->Option Nat
 | none,d=>some d
 | some x,_=>match zA5 t x with
  | .sc (.int _ i)=>match i with
   | .ofNat n=>match Nat.ble n y with | true=>some n | false=>none
   | _=>none
  | _=>none
def zCL:AV->Option Nat
 | .sc (.int _ (.ofNat n))=>some n
 | _=>none
def zV0:AV->Option Nat
 | .sc (.int .i64 (.ofNat n))=>some n
 | _=>none
def zIP:Option Nat->Nat->Option Nat
 | some c,l=>some (c - l)
 | none,_=>none
def part (l:List AV)(off n:Nat)(ag:Bool):Option AV :=
 match Nat.ble (off+n) l.length with
 | true=>match ag with
  | true=>some (.agg (slot l off n))
  | false=>match slot l off n with | [x]=>some x | _=>none
 | false=>none
def zHG (P:Program)(kt:TypeId)(k:Value):List (AV × AV × Nat)->Nat->Option (Option (Nat × AV × AV × Nat))
 | [],_=>some none
 | (k',v,n)::es,i=>match zAZ k' with
  | some kv=>match zAG P (Op.equal kt k kv) with
   | some true=>some (some (i,k',v,n))
   | some false=>zHG P kt k es (i+1)
   | none=>none
  | none=>none
def cellsOf (M:Mem):AV->Option (List AV)
 | .sc (.slice none _ _)=>some []
 | .sc (.string s)=>some (s.data.toList.map fun b => .sc (.int .u8 b.toNat))
 | .sl id off len _ st=>match M.rd id with
  | some cs=>match Nat.ble (off+len*st) cs.length with
   | true=>some (slot cs off (len*st))
   | false=>none
  | none=>none
 | .pv cs _ _ _=>some cs
 | _=>none
def lenA:AV->Option Nat
 | .sc (.slice none n _)=>some n
 | .sc (.string s)=>some s.size
 | .sl _ _ len _ _=>some len
 | .pv _ len _ _=>some len
 | _=>none
def zE9 (M:Mem)(n st:Nat):AV->Option (List AV)
 | .sc (.slice none _ _)=>match Nat.beq n 0 with | true=>some [] | false=>none
 | .sc (.string s)=>match Nat.beq st 1&&Nat.ble n s.size with
  | true=>some ((s.data.toList.take n).map fun b => .sc (.int .u8 b.toNat))
  | false=>none
 | .sl id off len _ st'=>match M.rd id with
  | some cs=>match Nat.beq st st'&&Nat.ble n len&&Nat.ble (off+n*st) cs.length with
   | true=>some (slot cs off (n*st))
   | false=>none
  | none=>none
 | .pv cs len _ st'=>match Nat.beq st st'&&Nat.ble n len with
  | true=>some (cs.take (n*st))
  | false=>none
 | _=>none
def zA9 (z:Value):Nat->List AV
 | 0=>[]
 | n+1=>scs z++zA9 z n
def bytesOf:List AV->Option (List UInt8)
 | []=>some []
 | .sc (.int .u8 n)::l=>match bytesOf l with | some bs=>some (UInt8.ofNat n.toNat::bs) | none=>none
 | _=>none
inductive Tg where
 | fn (f:FuncId)
 | yl (id:Nat)
def okA (ok:Bool)(v:AV)(b:Bool):AV:=match ok with | true => .tup [v,.sc (.bool b)] | false=>v
def zBF (M:Mem)(x:AV)(old new:List AV)(n st bytes:Nat):Option (AV × Mem) :=
 match Nat.beq n 0 with
 | true=>match x with
  | .sc (.slice none 0 0)=>some (.sc (.slice none 0 0),M)
  | .sl id off len cap st'=>some (.sl id off len cap st',M)
  | .pv cs len cap st'=>some (.pv cs len cap st',M)
  | _=>none
 | false=>match new.all oneA&&Nat.beq new.length (n*st) with
  | true=>match x with
   | .sl id off len cap st'=>match Nat.ble ((len+n)*bytes) 140737488355328&&Nat.ble (len+n) 140737488355328&&Nat.beq st st' with
    | true=>match M.get id with
     | some (.row str cs)=>match (match cap with | some c=>Nat.ble (len+n) c | none=>Nat.ble (off+(len+n)*st) cs.length) with
      | true=>match Nat.ble (off+(len+n)*st) cs.length with
       | true=>match M.put id (.row str (lay cs (off+len*st) new)) with
        | some M=>some (.sl id off (len+n) cap st,M)
        | none=>none
       | false=>none
      | false=>match cap with
       | some _=>match M.new (.row false (old++new)) with
        | some (id,M)=>some (.sl id 0 (len+n) none st,M)
        | none=>none
       | none=>match M.put id .dead with
        | some M=>match M.new (.row str (old++new)) with
         | some (id,M)=>some (.sl id 0 (len+n) none st,M)
         | none=>none
        | none=>none
     | _=>none
    | false=>none
   | .pv _ len (some c) st'=>match Nat.ble ((len+n)*bytes) 140737488355328&&Nat.ble (len+n) 140737488355328&&Nat.beq st st'&&Nat.blt c (len+n) with
    | true=>match M.new (.row false (old++new)) with
     | some (id,M)=>some (.sl id 0 (len+n) none st,M)
     | none=>none
    | false=>none
   | .sc (.slice none 0 0)=>match Nat.ble (n*bytes) 140737488355328&&Nat.ble n 140737488355328 with
    | true=>match M.new (.row false new) with
     | some (id,M)=>some (.sl id 0 n none st,M)
     | none=>none
    | false=>none
   | _=>none
  | false=>none
def zA6 (P:Program)(call:Tg->List AV->Mem->Option (AV × Mem))(t:List AV)(M:Mem):AOp->Option (AV × Mem)
 | .mov x=>some (zA5 t x,M)
 | .pick c a b=>match zA5 t c with
  | .sc (.bool true)=>some (zA5 t a,M)
  | .sc (.bool false)=>some (zA5 t b,M)
  | _=>none
 | .alloc _ z=>match M.new (.row false (scs z)) with
  | some (id,M)=>some (.ptr id 0,M)
  | none=>none
 | .box _ x=>match M.new (.row false (cellsA (zA5 t x))) with
  | some (id,M)=>some (.ptr id 0,M)
  | none=>none
 | .build z ps=>match zAB t (scs z) ps with
  | some cs=>some (.agg cs,M)
  | none=>none
 | .bsl _ st z len ps=>match zAB t (zA9 z len) ps with
  | some cs=>match M.new (.row false cs) with
   | some (id,M)=>some (.sl id 0 len (some len) st,M)
   | none=>none
  | none=>none
 | .load n ag x=>match zA5 t x with
  | .ptr id off=>match M.rd id with
   | some cs=>match part cs off n ag with
    | some v=>some (v,M)
    | none=>none
   | none=>none
  | .cp cs off=>match part cs off n ag with
   | some v=>some (v,M)
   | none=>none
  | _=>none
 | .store n x v=>match zA5 t x with
  | .ptr id off=>match M.get id with
   | some (.row str cs) =>
    let new:=cellsA (zA5 t v)
    match Nat.beq new.length n&&Nat.ble (off+n) cs.length&&new.all oneA with
    | true=>match M.put id (.row str (lay cs off new)) with
     | some M=>some (zA3,M)
     | none=>none
    | false=>none
   | _=>none
  | _=>none
 | .nilck x=>match zA5 t x with
  | .ptr id off=>some (.ptr id off,M)
  | .cp cs off=>some (.cp cs off,M)
  | .fn f a b=>some (.fn f a b,M)
  | .yl id=>some (.yl id,M)
  | _=>none
 | .pur o=>match zB9 P t o with
  | some v=>some (v,M)
  | none=>none
 | .eqnil neg k x o=>match zA5 t x with
  | .sc _=>match zB9 P t o with
   | some v=>some (v,M)
   | none=>none
  | .ptr .. => match Nat.beq k 0 with | true=>some (.sc (.bool neg),M) | false=>none
  | .cp .. => match Nat.beq k 0 with | true=>some (.sc (.bool neg),M) | false=>none
  | .pv .. => match Nat.beq k 1 with | true=>some (.sc (.bool neg),M) | false=>none
  | .sl .. => match Nat.beq k 1 with | true=>some (.sc (.bool neg),M) | false=>none
  | .mp _=>match Nat.beq k 2 with | true=>some (.sc (.bool neg),M) | false=>none
  | .fn .. | .yl _=>match Nat.beq k 3 with | true=>some (.sc (.bool neg),M) | false=>none
  | _=>none
 | .slc st x lo hi mx=>match zA5 t x with
  | .sc (.slice none 0 0)=>match bound t 0 mx 0,bound t 0 hi 0,bound t 0 lo 0 with
   | some 0,some 0,some 0=>some (.sc (.slice none 0 0),M)
   | _,_,_=>none
  | .sl id off len cap st' =>
   match Nat.beq st st',cap with
   | true,some c =>
    match bound t c mx c with
    | some m=>match bound t m hi len with
     | some h=>match bound t h lo 0 with
      | some l=>some (.sl id (match Nat.beq m l with | true=>off | false=>off+l*st) (h - l) (some (m - l)) st,M)
      | none=>none
     | none=>none
    | none=>none
   | true,none=>match M.rd id with
    | some cs =>
     let av:=(cs.length - off) / st
     match mx with
     | none=>match bound t av hi len with
      | some h=>match bound t h lo 0 with
       | some l=>some (.sl id (off+l*st) (h - l) none st,M)
       | none=>none
      | none=>none
     | some m=>match bound t av (some m) 0 with
      | some m=>match bound t m hi len with
       | some h=>match bound t h lo 0 with
        | some l=>some (.sl id (match Nat.beq m l with | true=>off | false=>off+l*st) (h - l) (some (m - l)) st,M)
        | none=>none
       | none=>none
      | none=>none
    | none=>none
   | _,_=>none
  | .pv cs len cap st'=>match Nat.beq st st' with
   | true=>match mx with
    | none=>match bound t len hi len with
     | some h=>match bound t h lo 0 with
      | some l=>some (.pv (slot cs (l*st) ((h - l)*st)) (h - l) (zIP cap l) st,M)
      | none=>none
     | none=>none
    | some m=>match bound t len (some m) 0 with
     | some m=>match bound t m hi len with
      | some h=>match bound t h lo 0 with
       | some l=>some (.pv (slot cs (l*st) ((h - l)*st)) (h - l) (some (m - l)) st,M)
       | none=>none
      | none=>none
     | none=>none
   | false=>none
  | _=>none
 | .sla n st x lo hi mx=>match zA5 t x with
  | .ptr id off=>match M.get id with
   | some (.row _ cs)=>match Nat.ble (off+n*st) cs.length with
    | true =>
     match bound t n mx n with
     | some m=>match bound t m hi n with
      | some h=>match bound t h lo 0 with
       | some l=>some (.sl id (match Nat.beq m l with | true=>off | false=>off+l*st) (h - l) (some (m - l)) st,M)
       | none=>none
      | none=>none
     | none=>none
    | false=>none
   | _=>none
  | _=>none
 | .fad off x=>match zA5 t x with
  | .ptr id o=>some (.ptr id (o+off),M)
  | .cp cs o=>some (.cp cs (o+off),M)
  | _=>none
 | .fld off n ag x=>match zA5 t x with
  | .agg l=>match part l off n ag with | some v=>some (v,M) | none=>none
  | .sc (.agg cs)=>match part (cs.toList.map .sc) off n ag with | some v=>some (v,M) | none=>none
  | _=>none
 | .iad st x i=>match zA5 t x,zCL (zA5 t i) with
  | .sl id off len _ st',some n=>match Nat.beq st st'&&Nat.blt n len with
   | true=>some (.ptr id (off+n*st),M)
   | false=>none
  | .pv cs len _ st',some n=>match Nat.beq st st'&&Nat.blt n len with
   | true=>some (.cp (slot cs (n*st) st) 0,M)
   | false=>none
  | _,_=>none
 | .ida len st x i=>match zA5 t x,zCL (zA5 t i) with
  | .ptr id off,some n=>match Nat.blt n len with
   | true=>some (.ptr id (off+n*st),M)
   | false=>none
  | .cp cs off,some n=>match Nat.blt n len with
   | true=>some (.cp cs (off+n*st),M)
   | false=>none
  | _,_=>none
 | .idx len st ag x i=>match zCL (zA5 t i) with
  | some n=>match Nat.blt n len with
   | true=>match zA5 t x with
    | .agg l=>match part l (n*st) st ag with | some v=>some (v,M) | none=>none
    | .sc (.agg cs)=>match part (cs.toList.map .sc) (n*st) st ag with | some v=>some (v,M) | none=>none
    | _=>none
   | false=>none
  | none=>none
 | .mkfn f first cap=>some (.fn f (first.map (zA5 t)) (cap.map (zA5 t)),M)
 | .mkmap=>match M.new (.map [] 0) with
  | some (id,M)=>some (.mp id,M)
  | none=>none
 | .mksl _ st bytes z l c=>match zCL (zA5 t l),zCL (zA5 t c) with
  | some l,some c=>match Nat.ble l c&&Nat.ble (c*bytes) 140737488355328&&Nat.ble c 140737488355328 with
   | true=>match M.new (.row false (zA9 z c)) with
    | some (id,M)=>some (.sl id 0 l (some c) st,M)
    | none=>none
   | false=>none
  | _,_=>none
 | .lookup kt z m k ok =>
  match zAZ (zA5 t k) with
  | some kv=>match zA5 t m with
   | .sc (.map none)=>match zAG P (Instr.checkKey true 10000 kt kv) with
    | some _=>some (okA ok (.sc z) false,M)
    | none=>none
   | .mp id=>match M.get id with
    | some (.map es _)=>match zAG P (Instr.checkKey es.isEmpty 10000 kt kv) with
     | some _=>match zHG P kt kv es 0 with
      | some (some (_,_,v,_))=>some (okA ok v true,M)
      | some none=>some (okA ok (.sc z) false,M)
      | none=>none
     | none=>none
    | _=>none
   | _=>none
  | none=>none
 | .mupd kt m k v=>match zAZ (zA5 t k) with
  | some kv=>match zA5 t m with
   | .mp id=>match M.get id with
    | some (.map es clock)=>match zAG P (Instr.checkKey false 10000 kt kv) with
     | some _=>match zHG P kt kv es 0 with
      | some (some (i,k',_,n))=>match zAZ k' with
       | some kv'=>match Instr.sameBits 10000 kv' kv with
        | true=>match M.put id (.map (zCF (zA5 t k,zA5 t v,n) es i) clock) with
         | some M=>some (zA3,M)
         | none=>none
        | false=>none
       | none=>none
      | some none=>match M.put id (.map (es++[(zA5 t k,zA5 t v,clock)]) (clock+1)) with
       | some M=>some (zA3,M)
       | none=>none
      | none=>none
     | none=>none
    | _=>none
   | _=>none
  | none=>none
 | .mlen m=>match zA5 t m with
  | .sc (.map none)=>some (.sc (goInt 0),M)
  | .mp id=>match M.get id with
   | some (.map es _)=>some (.sc (goInt es.length),M)
   | _=>none
  | _=>none
 | .ext x i=>match zA5 t x with
  | .tup l=>match l[i]? with | some v=>some (v,M) | none=>none
  | .sc (.tuple vs)=>match vs[i]? with | some v=>some (.sc v,M) | none=>none
  | _=>none
 | .call f args=>match zA5 t f with
  | .fn g first cap=>call (.fn g) (first++args.map (zA5 t)++cap) M
  | .yl id=>call (.yl id) (args.map (zA5 t)) M
  | _=>none
 | .ovl st a b=>match zA5 t a,zA5 t b with
  | .sl i _ l _ s1,.sl i' _ l' _ s2=>match Nat.beq i i' || Nat.beq l 0 || Nat.beq l' 0 || Nat.beq st 0 || !(Nat.beq st s1) || !(Nat.beq st s2) with
   | true=>none
   | false=>match M.get i,M.get i' with
    | some (.row false _),some (.row _ _)=>some (.sc (.bool false),M)
    | _,_=>none
  | _,_=>none
 | .app _ st bytes _ x y=>match cellsOf M (zA5 t y),lenA (zA5 t y),cellsOf M (zA5 t x) with
  | some new,some n,some old=>zBF M (zA5 t x) old new n st bytes
  | _,_,_=>none
 | .appz _ st bytes z x n=>match zCL (zA5 t n),cellsOf M (zA5 t x) with
  | some n,some old=>zBF M (zA5 t x) old (zA9 z n) n st bytes
  | _,_=>none
 | .ins g _ st bytes x i y =>
  match zA5 t x with
  | .sl id off len none st'=>match zA5 t y with
   | .sl id' off' n cap' st''=>match cellsOf M (.sl id' off' n cap' st''),cellsOf M (.sl id off len none st'),zV0 (zA5 t i),M.get id,M.get id' with
    | some new,some old,some i,some (.row str _),some (.row false _) =>
     match Nat.beq st st'&&Nat.beq st st''&&Nat.blt 0 n&&Nat.blt 0 st&&Nat.ble i len&&Nat.ble ((len+n)*bytes) 140737488355328&&Nat.ble (len+n) 140737488355328 && !(Nat.beq id id')&&Nat.ble M.size 140737488355328&&old.all oneA&&new.all oneA with
     | true=>match M.put id .dead with
      | some M=>match M.new (.row str (old.take (i*st)++new++old.drop (i*st))) with
       | some (id,M)=>some (.sl id 0 (len+n) none st,M)
       | none=>none
      | none=>none
     | false=>none
    | _,_,_,_,_=>none
   | _=>none
  | x=>call (.fn g) [x,zA5 t i,zA5 t y] M
 | .cpy st x y=>match lenA (zA5 t x),lenA (zA5 t y) with
  | some lx,some ly =>
   match zE9 M (Nat.min ly lx) st (zA5 t y) with
   | some new=>match zA5 t x with
    | .sc (.slice none 0 0)=>some (.sc (goInt 0),M)
    | .sl id off _ _ _=>match M.get id with
     | some (.row str cs)=>match Nat.ble (off+new.length) cs.length&&new.all oneA with
      | true=>match M.put id (.row str (lay cs off new)) with
       | some M=>some (.sc (goInt (Nat.min ly lx)),M)
       | none=>none
      | false=>none
     | _=>none
    | _=>none
   | none=>none
  | _,_=>none
 | .len x=>match zA5 t x with
  | .sc (.slice none n _)=>some (.sc (goInt n),M)
  | .sl _ _ n _ _=>some (.sc (goInt n),M)
  | .pv _ n _ _=>some (.sc (goInt n),M)
  | _=>none
 | .cap x=>match zA5 t x with
  | .sc (.slice none _ c)=>some (.sc (goInt c),M)
  | .sl _ _ _ (some c) _=>some (.sc (goInt c),M)
  | .pv _ _ (some c) _=>some (.sc (goInt c),M)
  | _=>none
 | .clr st z x=>match zA5 t x with
  | .sc (.slice none _ _)=>some (.sc (.tuple #[]),M)
  | .sl id off len _ _=>match Nat.beq len 0 with
   | true=>some (.sc (.tuple #[]),M)
   | false=>match M.get id with
    | some (.row str cs)=>match Nat.ble (off+len*st) cs.length&&(zA9 z len).all oneA&&Nat.beq (zA9 z len).length (len*st) with
     | true=>match M.put id (.row str (lay cs off (zA9 z len))) with
      | some M=>some (.sc (.tuple #[]),M)
      | none=>none
     | false=>none
    | _=>none
  | _=>none
 | .s2b _ x=>none
 | .mrk x=>none
 | .b2s x=>match zA5 t x with
  | .sc (.slice none _ _)=>some (.sc (.string ⟨#[]⟩),M)
  | .sl id off len cap st=>match Nat.beq st 1 with
   | true=>match cellsOf M (.sl id off len cap st) with
    | some cs=>match bytesOf cs with
     | some bs=>some (.sc (.string ⟨bs.toArray⟩),M)
     | none=>none
    | none=>none
   | false=>none
  | .pv cs _ _ st=>match Nat.beq st 1 with
   | true=>match bytesOf cs with
    | some bs=>some (.sc (.string ⟨bs.toArray⟩),M)
    | none=>none
   | false=>none
  | _=>none
 | .rng x=>match zA5 t x with
  | .sc (.string s)=>match M.new (.siter s 0) with
   | some (id,M)=>some (.ptr id 0,M)
   | none=>none
  | _=>none
 | .nxt x=>match zA5 t x with
  | .ptr id 0=>match M.get id with
   | some (.siter s pos)=>match Nat.blt pos s.size with
    | true =>
     let d:=Utf8.decode s pos
     match M.put id (.siter s (pos+d.2)) with
     | some M=>some (.tup [.sc (.bool true),.sc (goInt pos),.sc (.int .i32 d.1)],M)
     | none=>none
    | false=>some (.tup [.sc (.bool false)],M)
   | _=>none
  | _=>none
 | .bad _=>none
def putA (t:List AV):Option Nat->AV->List AV
 | some d,v=>zCF v t d
 | none,_=>t
def zBQ (t:List AV):Option (Nat × Bool)->Bool
 | none=>true
 | some (d,want)=>match nth zA3 t d with
  | .sc (.bool b)=>b == want
  | _=>false
inductive FP where
 | pure
 | acc (r w:List Nat)
 | quiet
 | any
 | wrs (w:List Nat)
def eqCp:Option Nat->Option Nat->Bool
 | none,none=>true
 | some a,some b=>Nat.beq a b
 | _,_=>false
def eqVl:Value->Value->Bool
 | .int k n,.int k' n'=>decide (k=k')&&decide (n=n')
 | .bool a,.bool b=>a == b
 | .string s,.string t=>decide (s.data.toList=t.data.toList)
 | .slice none a b,.slice none a' b'=>Nat.beq a a'&&Nat.beq b b'
 | .pointer none,.pointer none=>true
 | .map none,.map none=>true
 | .nilFunc,.nilFunc=>true
 | .nilIface,.nilIface=>true
 | _,_=>false
mutual
def eqAv:AV->AV->Bool
 | .sc v,b=>match b with | .sc w=>eqVl v w | _=>false
 | .ptr i o,b=>match b with | .ptr j p=>Nat.beq i j&&Nat.beq o p | _=>false
 | .sl i o l c s,b=>match b with | .sl i' o' l' c' s'=>Nat.beq i i'&&Nat.beq o o'&&Nat.beq l l'&&eqCp c c'&&Nat.beq s s' | _=>false
 | .mp i,b=>match b with | .mp j=>Nat.beq i j | _=>false
 | .fn f x y,b=>match b with | .fn g x' y'=>decide (f=g)&&eqLv x x'&&eqLv y y' | _=>false
 | .yl i,b=>match b with | .yl j=>Nat.beq i j | _=>false
 | .agg l,b=>match b with | .agg m=>eqLv l m | _=>false
 | .tup l,b=>match b with | .tup m=>eqLv l m | _=>false
 | .pv l n c s,b=>match b with | .pv m n' c' s'=>eqLv l m&&Nat.beq n n'&&eqCp c c'&&Nat.beq s s' | _=>false
 | .cp l o,b=>match b with | .cp m p=>eqLv l m&&Nat.beq o p | _=>false
def eqLv:List AV->List AV->Bool
 | [],b=>match b with | []=>true | _=>false
 | x::l,b=>match b with | y::m=>eqAv x y&&eqLv l m | []=>false
end
def eqOb:Option AObj->Option AObj->Bool
 | none,none=>true
 | some (.row b l),some (.row c m)=>(b == c)&&eqLv l m
 | some (.fro l),some (.fro m)=>eqLv l m
 | some .dead,some .dead=>true
 | _,_=>false
theorem zUG {a b:Option Nat}(h:eqCp a b=true):a=b:=by
 cases a <;> cases b <;> simp [eqCp] at h
 ·rfl
 ·rw[h]
theorem zcM {v w:Value}(h:eqVl v w=true):v=w:=by
 unfold eqVl at h
 split at h
 ·simp only[Bool.and_eq_true,decide_eq_true_eq] at h;rw[h.1,h.2]
 ·rw[eq_of_beq h]
 ·rename_i s t
  have h:=of_decide_eq_true h
  obtain⟨⟨s⟩⟩:=s
  obtain⟨⟨t⟩⟩:=t
  simp only at h
  rw[h]
 ·simp only[Bool.and_eq_true,Nat.beq_eq] at h;rw[h.1,h.2]
 all_goals first | rfl | cases h
mutual
theorem zcJ:∀ (a b:AV),eqAv a b=true->a=b
 | .sc v,b,h=>by cases b <;> simp only[eqAv,Bool.false_eq_true] at h;rw[zcM h]
 | .ptr i o,b,h=>by cases b <;> simp only[eqAv,Bool.false_eq_true,Bool.and_eq_true,Nat.beq_eq] at h;rw[h.1,h.2]
 | .sl i o l c s,b,h=>by cases b <;> simp only[eqAv,Bool.false_eq_true,Bool.and_eq_true,Nat.beq_eq] at h;rw[h.1.1.1.1,h.1.1.1.2,h.1.1.2,zUG h.1.2,h.2]
 | .mp i,b,h=>by cases b <;> simp only[eqAv,Bool.false_eq_true,Nat.beq_eq] at h;rw[h]
 | .fn f x y,b,h=>by cases b <;> simp only[eqAv,Bool.false_eq_true,Bool.and_eq_true,decide_eq_true_eq] at h;rw[h.1.1,zE2 x _ h.1.2,zE2 y _ h.2]
 | .yl i,b,h=>by cases b <;> simp only[eqAv,Bool.false_eq_true,Nat.beq_eq] at h;rw[h]
 | .agg l,b,h=>by cases b <;> simp only[eqAv,Bool.false_eq_true] at h;rw[zE2 l _ h]
 | .tup l,b,h=>by cases b <;> simp only[eqAv,Bool.false_eq_true] at h;rw[zE2 l _ h]
 | .pv l n c s,b,h=>by cases b <;> simp only[eqAv,Bool.false_eq_true,Bool.and_eq_true,Nat.beq_eq] at h;rw[zE2 l _ h.1.1.1,h.1.1.2,zUG h.1.2,h.2]
 | .cp l o,b,h=>by cases b <;> simp only[eqAv,Bool.false_eq_true,Bool.and_eq_true,Nat.beq_eq] at h;rw[zE2 l _ h.1,h.2]
theorem zE2:∀ (a b:List AV),eqLv a b=true->a=b
 | [],b,h=>by cases b <;> simp only[eqLv,Bool.false_eq_true] at h;rfl
 | x::l,b,h=>by cases b <;> simp only[eqLv,Bool.false_eq_true,Bool.and_eq_true] at h;rw[zcJ x _ h.1,zE2 l _ h.2]
end
theorem zcL {a b:Option AObj}(h:eqOb a b=true):a=b:=by
 unfold eqOb at h
 split at h
 ·rfl
 ·simp only[Bool.and_eq_true] at h;rw[eq_of_beq h.1,zE2 _ _ h.2]
 ·rw[zE2 _ _ h]
 ·rfl
 ·cases h
def chgF (M M':Mem):Nat->List Nat
 | 0=>[]
 | n+1=>match eqOb (M'.get n) (M.get n) with
  | true=>chgF M M' n
  | false=>n::chgF M M' n
theorem zOQ {M M':Mem}:∀ {n i:Nat},i∈chgF M M' n->i<n
 | 0,i,h=>by cases h
 | n+1,i,h=>by
  unfold chgF at h
  cases hb:eqOb (M'.get n) (M.get n) with
  | true=>rw[hb] at h;have:=zOQ h;omega
  | false =>
   rw[hb] at h
   rcases List.mem_cons.1 h with rfl | h
   ·omega
   ·have:=zOQ h;omega
theorem zIS {M M':Mem}:∀ {n i:Nat},i<n -> ¬i∈chgF M M' n->M'.get i=M.get i
 | 0,i,h,_=>absurd h (Nat.not_lt_zero _)
 | n+1,i,h,k=>by
  unfold chgF at k
  cases hb:eqOb (M'.get n) (M.get n) with
  | true =>
   rw[hb] at k
   by_cases e:i=n
   ·subst e;exact zcL hb
   ·exact zIS (by omega) k
  | false =>
   rw[hb] at k
   simp only[List.mem_cons,not_or] at k
   exact zIS (by omega) k.2
def rowsOf:AV->List Nat
 | .ptr id _=>[id]
 | .sl id .. => [id]
 | .mp id=>[id]
 | _=>[]
def zAQ (t:List AV):AOp->FP
 | .load _ _ x | .lookup _ _ x _ _ | .mlen x | .b2s x => .acc (rowsOf (zA5 t x)) []
 | .store _ x _ | .clr _ _ x | .mrk x | .nxt x | .mupd _ x _ _ | .appz _ _ _ _ x _ => .acc [] (rowsOf (zA5 t x))
 | .app _ _ _ _ x y | .cpy _ x y => .acc (rowsOf (zA5 t y)) (rowsOf (zA5 t x))
 | .slc _ x _ _ _ | .sla _ _ x _ _ _ => .acc (rowsOf (zA5 t x)) []
 | .call .. | .ins .. | .ovl .. | .bad _ => .any
 | _ => .acc [] []
def zCD (n:Nat):FP->Bool
 | .acc r w=>r.all (Nat.blt · n)&&w.all (Nat.blt · n)
 | _=>true
def zAR (P:Program)(call:Tg->List AV->Mem->Option (AV × Mem)):List AOper->List AV->Mem->Option (List AV × Mem)
 | [],t,M=>some (t,M)
 | o::rest,t,M=>match zBQ t o.guard with
  | true=>match zCD M.size (zAQ t o.op) with
   | true=>match zA6 P call t M o.op with
    | some (v,M)=>zAR P call rest (putA t o.dst v) M
    | none=>none
   | false=>none
  | false=>zAR P call rest (putA t o.dst zA3) M
def disj (l m:List Nat):Bool:=l.all fun i => !m.contains i
def FP.reads:FP->List Nat
 | .acc r _=>r
 | _=>[]
def FP.writes:FP->List Nat
 | .acc _ w=>w
 | .wrs w=>w
 | _=>[]
def FP.apart:FP->FP->Bool
 | .pure,_ | _,.pure=>true
 | .any,_ | _,.any=>false
 | .quiet,f | f,.quiet=>f.writes.isEmpty
 | .wrs w,.wrs w'=>w.isEmpty&&w'.isEmpty
 | .wrs w,.acc r' w'=>w'.isEmpty&&disj w r'
 | .acc r' w',.wrs w=>w'.isEmpty&&disj w r'
 | f,g=>disj f.writes g.reads&&disj f.writes g.writes&&disj f.reads g.writes
def zBS (f:FP)(g:FP × Nat × Nat):Bool :=
 FP.apart f g.1&&f.reads.all (fun i => !(Nat.ble g.2.1 i&&Nat.blt i g.2.2))&&f.writes.all (fun i => !(Nat.ble g.2.1 i&&Nat.blt i g.2.2))
def zB4 (f:FP)(un:List Nat):Nat->List (FP × Nat × Nat)->Bool
 | _,[]=>true
 | i,g::l=>(!un.contains i || zBS f g)&&zB4 f un (i+1) l
def zBJ (P:Program)(call:Tg->List AV->Mem->Option (AV × Mem))(o:AOper)(t:List AV)(M:Mem):Option (FP × AV × Mem) :=
 match zBQ t o.guard with
 | false=>some (.pure,zA3,M)
 | true=>match zAQ t o.op with
  | .acc r w=>match r.all (Nat.blt · M.size)&&w.all (Nat.blt · M.size) with
   | true=>match zA6 P call t M o.op with
    | some (v,M')=>match r.isEmpty&&w.isEmpty&&Nat.beq M.size M'.size with
     | true=>some (.pure,v,M')
     | false=>some (.acc r w,v,M')
    | none=>none
   | false=>none
  | _=>match zA6 P call t ⟨M.t,M.size,M.size,false⟩ o.op with
   | some (v,M')=>some ((match M'.dirty with | true => .wrs (chgF M M' M.size) | false => .quiet),v,⟨M'.t,M'.size,M.wm,M.dirty || M'.dirty⟩)
   | none=>none
def zAK (P:Program)(call:Tg->List AV->Mem->Option (AV × Mem)):List AOper->List (FP × Nat × Nat)->List AV->Mem->Option (List AV × Mem)
 | [],_,t,M=>some (t,M)
 | o::rest,log,t,M=>match zBJ P call o t M with
  | some (f,v,M')=>match zB4 f o.unord 0 log with
   | true=>zAK P call rest (log++[(f,M.size,M'.size)]) (putA t o.dst v) M'
   | false=>none
  | none=>none
structure Fr where
 t:List AV
 marks:List Nat
def iter (f:Fr->Mem->Option (AExit × Fr × Mem)):Nat->Fr->Mem->Option (AExit × Fr × Mem)
 | 0,_,_=>none
 | n+1,t,M=>match f t M with
  | some (.normal,t,M)=>iter f n t M
  | r=>r
def zFI:List AV->List Nat->List AV->List AV
 | t,p::ps,x::xs=>zFI (zCF x t p) ps xs
 | t,_,_=>t
def zG3 (call:Tg->List AV->Mem->Option (AV × Mem))(f:Operand)(ps:List Nat)(assign body:ACode)(t:Fr)(dfr:Nat)(mk:List Nat)(M:Mem):Option (AExit × Fr × Mem) :=
 match M.new (.loop .ready none t.t ps assign body dfr) with
 | some (id,M)=>match zA5 t.t f with
  | .fn g first cap=>match call (.fn g) (first++[.yl id]++cap) M with
   | some (_,M)=>match M.get id with
    | some (.loop st pend tm ps assign body dfr)=>match st with
     | .busy=>none
     | _=>match M.put id (.loop .exhausted pend tm ps assign body dfr) with
      | some M=>some (pend.getD .normal,⟨t.t,mk⟩,M)
      | none=>none
    | _=>none
   | none=>none
  | _=>none
 | none=>none
def zA8 (P:Program)(fuel:Nat)(call:Tg->List AV->Mem->Option (AV × Mem))(rd:Option Nat):ACode->Fr->Mem->Option (AExit × Fr × Mem)
 | .skip,t,M=>some (.normal,t,M)
 | .label,t,M=>some (.normal,t,M)
 | .region ops draw,t,M=>match draw with
  | true=>match zAK P call ops [] t.t M with
   | some (s,M)=>some (.normal,⟨s,t.marks⟩,M)
   | none=>none
  | false=>match zAR P call ops t.t M with
   | some (s,M)=>some (.normal,⟨s,t.marks⟩,M)
   | none=>none
 | .seq a b,t,M=>match zA8 P fuel call rd a t M with
  | some (.normal,t,M)=>zA8 P fuel call rd b t M
  | r=>r
 | .cond c a b,t,M=>match zA5 t.t c with
  | .sc (.bool true)=>zA8 P fuel call rd a t M
  | .sc (.bool false)=>zA8 P fuel call rd b t M
  | _=>none
 | .block id b,t,M=>match zA8 P fuel call rd b t M with
  | some (.exit i,t,M)=>match Nat.beq i id with
   | true=>some (.normal,t,M)
   | false=>some (.exit i,t,M)
  | r=>r
 | .loop b,t,M=>iter (zA8 P fuel call rd b) fuel t M
 | .scope b,t,M=>zA8 P fuel call rd b t M
 | .exit id,t,M=>some (.exit id,t,M)
 | .ret,t,M=>some (.ret,t,M)
 | .rangeFunc f ps assign body,t,M =>
  match rd with
  | some l=>match M.get l with
   | some (.loop _ _ _ _ _ _ d)=>zG3 call f ps assign body t d t.marks M
   | _=>none
  | none=>match M.new (.dfr false) with
   | some (d,M)=>zG3 call f ps assign body t d (d::t.marks) M
   | none=>none
 | .ext _,_,_=>none
 | .bad _,_,_=>none
def zAI (t:List AV)(M:Mem):List ARes->Option (List AV)
 | []=>some []
 | .tmp n::rs=>match zAI t M rs with | some vs=>some (nth zA3 t n::vs) | none=>none
 | .cell a n ag::rs=>match nth zA3 t a with
  | .ptr id off=>match M.rd id with
   | some cs=>match part cs off n ag with
    | some v=>match zAI t M rs with | some vs=>some (v::vs) | none=>none
    | none=>none
   | none=>none
  | _=>none
def zF3:List Nat->Mem->Option Mem
 | [],M=>some M
 | d::ds,M=>match M.get d with
  | some (.dfr false)=>match M.put d (.dfr true) with
   | some M=>zF3 ds M
   | none=>none
  | _=>none
def frzL (g:AV->Option AV):List AV->Option (List AV)
 | []=>some []
 | x::l=>match g x with
  | some y=>match frzL g l with
   | some r=>some (y::r)
   | none=>none
  | none=>none
def frz (M:Mem)(mark:Nat):Nat->AV->Option AV
 | 0,_=>none
 | k+1,x=>match x with
  | .sc v=>some (.sc v)
  | .agg l=>match frzL (frz M mark k) l with
   | some r=>some (.agg r)
   | none=>none
  | .tup l=>match frzL (frz M mark k) l with
   | some r=>some (.tup r)
   | none=>none
  | .pv cs len cap st=>some (.pv cs len cap st)
  | .cp cs off=>some (.cp cs off)
  | .fn f a b=>match frzL (frz M mark k) a with
   | some a=>match frzL (frz M mark k) b with
    | some b=>some (.fn f a b)
    | none=>none
   | none=>none
  | .sl id off len cap st=>match Nat.ble mark id with
   | true=>match M.rd id with
    | some cs=>match Nat.ble (off+len*st) cs.length with
     | true=>match frzL (frz M mark k) cs with
      | some cs=>some (.pv (slot cs off (len*st)) len cap st)
      | none=>none
     | false=>none
    | none=>none
   | false=>none
  | _=>none
def icyL (g:Mem->AV->Option (AV × Mem)):Mem->List AV->Option (List AV × Mem)
 | M,[]=>some ([],M)
 | M,x::l=>match g M x with
  | some (y,M)=>match icyL g M l with
   | some (r,M)=>some (y::r,M)
   | none=>none
  | none=>none
def icy:Nat->Mem->AV->Option (AV × Mem)
 | 0,_,_=>none
 | k+1,M,x=>match x with
  | .sc v=>some (.sc v,M)
  | .agg l=>match icyL (icy k) M l with
   | some (r,M)=>some (.agg r,M)
   | none=>none
  | .tup l=>match icyL (icy k) M l with
   | some (r,M)=>some (.tup r,M)
   | none=>none
  | .pv cs len cap st=>some (.pv cs len cap st,M)
  | .cp cs off=>some (.cp cs off,M)
  | .fn f a b=>match icyL (icy k) M a with
   | some (a,M)=>match icyL (icy k) M b with
    | some (b,M)=>some (.fn f a b,M)
    | none=>none
   | none=>none
  | .sl id off len cap st=>match M.rd id with
   | some cs=>match Nat.ble (off+len*st) cs.length with
    | true=>match icyL (icy k) M cs with
     | some (cs',M)=>match M.get id with
      | some (.fro _)=>some (.pv (slot cs' off (len*st)) len cap st,M)
      | some (.row _ ds)=>match M.put id (.fro ds) with
       | some M=>some (.pv (slot cs' off (len*st)) len cap st,M)
       | none=>none
      | _=>none
     | none=>none
    | false=>none
   | none=>none
  | _=>none
def mem0:Mem:=⟨[],0,0,false⟩
def zC6:List AV->AV
 | [x]=>x
 | l => .tup l
def begA (M:Mem)(id:Nat):Option Mem:=match M.get id with
 | some (.loop st pend tm ps assign body dfr)=>match st with
  | .ready=>M.put id (.loop .busy pend tm ps assign body dfr)
  | _=>none
 | _=>none
def endA (M:Mem)(id:Nat)(st:LoopState)(pend:Option AExit):Option Mem:=match M.get id with
 | some (.loop _ _ tm ps assign body dfr)=>M.put id (.loop st pend tm ps assign body dfr)
 | _=>none
def scA:AV->Bool
 | .sc _=>true
 | _=>false
def ownV (M:Mem):Nat->AV->Bool
 | 0,_=>false
 | k+1,x=>match x with
  | .sc _=>true
  | .agg l=>l.all (ownV M k)
  | .tup l=>l.all (ownV M k)
  | .sl id _ _ _ _=>match M.rd id with
   | some cs=>cs.all (ownV M k)
   | none=>false
  | _=>false
def zM3 (g:Nat)(own:Bool)(vs:List AV)(M M0:Mem):Option Mem:=match g with
 | 2=>match vs.all scA with
  | true=>some M
  | false=>none
 | 5=>match own with
  | true=>some M
  | false=>none
 | _=>some M0
mutual
def purA:AV->Bool
 | .sc _=>true
 | .ptr _ _=>true
 | .sl _ _ _ _ _=>true
 | .mp _=>true
 | .fn _ a b=>purL a&&purL b
 | .yl _=>true
 | .agg l=>purL l
 | .tup l=>purL l
 | .pv _ _ _ _=>false
 | .cp _ _=>false
def purL:List AV->Bool
 | []=>true
 | x::l=>purA x&&purL l
end
mutual
def shA (k:Nat):AV->AV
 | .sc v => .sc v
 | .ptr id off => .ptr (id+k) off
 | .sl id off len cap st => .sl (id+k) off len cap st
 | .mp id => .mp (id+k)
 | .fn f a b => .fn f (shL k a) (shL k b)
 | .yl id => .yl (id+k)
 | .agg l => .agg (shL k l)
 | .tup l => .tup (shL k l)
 | .pv cs len cap st => .pv cs len cap st
 | .cp cs off => .cp cs off
def shL (k:Nat):List AV->List AV
 | []=>[]
 | x::l=>shA k x::shL k l
end
def shO (k:Nat):AObj->AObj
 | .row s cs=>match purL cs with
  | true => .row s (shL k cs)
  | false => .dead
 | .fro cs=>match purL cs with
  | true => .fro (shL k cs)
  | false => .dead
 | _ => .dead
def zgP (M:Mem):List AObj:=(List.range M.size).map fun i=>(M.get i).getD .dead
def zAF (P:Program)(fs:Nat->Option AFunc)(fuel:Nat):Nat->Tg->List AV->Mem->Option (AV × Mem)
 | 0,_,_,_=>none
 | n+1,.fn f,args,M=>match fs f with
  | some af=>match af.gc with
   | 0=>match zA8 P fuel (zAF P fs fuel n) none af.body ⟨args++List.replicate (af.ntmps - args.length) zA3,[]⟩ M with
    | some (.exit _,_,_)=>none
    | some (_,fr,M)=>match zF3 fr.marks M with
     | some M=>match zAI fr.t M af.results with
      | some vs=>some (zC6 vs,M)
      | none=>none
     | none=>none
    | none=>none
   | 3=>match icyL (icy 12) M args with
    | some (args,M0)=>match af.body with
     | .ext g=>match g args with
      | some r=>some (r,M0)
      | none=>none
     | _=>none
    | none=>none
   | _+1=>match icyL (icy 12) M args with
    | some (args,M0)=>match zA8 P fuel (zAF P fs fuel n) none af.body ⟨args++List.replicate (af.ntmps - args.length) zA3,[]⟩ mem0 with
     | some (.exit _,_,_)=>none
     | some (_,fr,M')=>match zF3 fr.marks M' with
      | some M'=>match zAI fr.t M' af.results with
       | some us=>match frzL (frz M' 0 12) us with
        | some vs=>match zM3 af.gc (us.all (ownV M' 12)) vs M M0 with
         | some M1=>some (zC6 vs,M1)
         | none=>none
        | none=>none
       | none=>none
      | none=>none
     | none=>none
    | none=>none
  | none=>none
 | n+1,.yl id,args,M=>match M.get id with
  | some (.loop st pend tm ps assign body dfr)=>match st with
   | .ready=>match Nat.beq ps.length args.length with
    | true=>match zA8 P fuel (zAF P fs fuel n) (some id) assign ⟨zFI tm ps args,[]⟩ M with
     | some (.normal,fr,M)=>match begA M id with
      | some M=>match zA8 P fuel (zAF P fs fuel n) (some id) body fr M with
       | some (e,_,M)=>match e with
        | .normal=>match endA M id .ready none with
         | some M=>some (.sc (.bool true),M)
         | none=>none
        | e=>match endA M id .done (some e) with
         | some M=>some (.sc (.bool false),M)
         | none=>none
       | none=>none
      | none=>none
     | _=>none
    | false=>none
   | _=>none
  | _=>none
def zG7 (P:Program)(t:TypeId):Option Bool:=match P.underlying t with
 | some (.struct _) | some (.array _ _)=>some true
 | some _=>some false
 | none=>none
def szOf (P:Program)(t:TypeId):Option Nat:=(P.info? t).map (·.size)
def zeroOf (P:Program)(t:TypeId):Option Value:=(P.info? t).bind (·.zero)
def placesOf (P:Program):List Field->Option (List (Nat × Nat))
 | []=>some []
 | f::fs=>match szOf P f.type with
  | some n=>match placesOf P fs with | some l=>some ((f.offset,n)::l) | none=>none
  | none=>none
def zI0 (pl:List (Nat × Nat)):List (Nat × Operand)->Option (List (Nat × Nat × Operand))
 | []=>some []
 | (i,x)::l=>match pl[i]? with
  | some (o,n)=>match zI0 pl l with | some r=>some ((o,n,x)::r) | none=>none
  | none=>none
def zJ9 (P:Program)(t:TypeId):Operand->Option Nat
 | .const (.pointer none)=>match P.underlying t with | some (.pointer _)=>some 0 | _=>none
 | .const (.slice none 0 0)=>match P.underlying t with | some (.slice _)=>some 1 | _=>none
 | .const (.map none)=>match P.underlying t with | some (.map _ _)=>some 2 | _=>none
 | .const .nilFunc=>match P.underlying t with | some (.func _ _ _)=>some 3 | _=>none
 | _=>none
def zQI (P:Program)(neg:Bool)(t:TypeId)(x y:Operand)(o:Oper):AOp :=
 match zJ9 P t y with
 | some k => .eqnil neg k x o
 | none=>match zJ9 P t x with
  | some k => .eqnil neg k y o
  | none => .pur o
def zA1 (P : Program) (o : Oper) : AOp := Option.getD (dflt := .bad "op") <| match o.op with
 | .move x | .assign x=>some (.mov x)
 | .pick c a b=>some (.pick c a b)
 | .alloc e=>do some (.alloc e (<- zeroOf P e))
 | .box e x=>some (.box e x)
 | .build t ps=>do
  let z <- zeroOf P t
  match <- P.underlying t with
  | .struct fields=>do
   let pl <- placesOf P fields.toList
   let l <- zI0 pl ps.toList
   some (.build z l)
  | .array _ e=>do
   let s <- szOf P e
   some (.build z (ps.toList.map fun (i,x)=>(i*s,s,x)))
  | _=>none
 | .buildSlice t len ps=>do
  match <- P.underlying t with
  | .slice e=>do
   let s <- szOf P e
   let z <- zeroOf P e
   if s=0∨len*s > 2 ^ 24∨z.cells.size≠s then none else
   some (.bsl e s z len (ps.toList.map fun (i,x)=>(i*s,s,x)))
  | _=>none
 | .load t x=>do some (.load (<- szOf P t) (<- zG7 P t) x)
 | .store t x v=>do some (.store (<- szOf P t) x v)
 | .nilCheck x=>some (.nilck x)
 | .binOp op t x y _ =>
  match op with
  | .eql=>some (zQI P false t x y o)
  | .neq=>some (zQI P true t x y o)
  | _=>some (.pur o)
 | .unOp .. => some (.pur o)
 | .convert src dst x=>do
  match <- P.underlying src,<- P.underlying dst with
  | .string,.slice e=>match <- P.underlying e with
   | .int .u8=>some (.s2b e x)
   | _=>none
  | .slice e,.string=>match <- P.underlying e with
   | .int .u8=>some (.b2s x)
   | _=>none
  | .slice _,.slice e=>match src == dst,P.underlying e with
   | true,some (.int .u8)=>some (.mrk x)
   | _,_=>none
  | _,_=>some (.pur o)
 | .makeFunc (.func f) first cap=>some (.mkfn f first.toList cap.toList)
 | .makeMap t r=>match r with
  | none=>some .mkmap
  | some (.const (.int _ _))=>match P.underlying t with
   | some (.map _ _)=>some .mkmap
   | _=>none
  | _=>none
 | .makeSlice t l c=>do
  match <- P.underlying t with
  | .slice e=>do
   let i <- P.info? e
   let z <- i.zero
   if i.size=0∨z.cells.size≠i.size then none else some (.mksl e i.size i.bytes z l c)
  | _=>none
 | .slice t x lo hi mx=>do
  match <- P.underlying t with
  | .string=>some (.pur o)
  | .slice e=>do
   let s <- szOf P e
   if s=0∨(mx.isSome/\hi.isNone) then none else some (.slc s x lo hi mx)
  | .array n e=>do
   let s <- szOf P e
   if mx.isSome/\hi.isNone then none else some (.sla n s x lo hi mx)
  | _=>none
 | .fieldAddr s x f=>do
  match <- P.underlying s with
  | .struct fs=>do
   let f <- fs[f]?
   if (<- szOf P f.type)=0 then none else some (.fad f.offset x)
  | _=>none
 | .field t x f=>do
  match <- P.underlying t with
  | .struct fs=>do
   let f <- fs[f]?
   some (.fld f.offset (<- szOf P f.type) (<- zG7 P f.type) x)
  | _=>none
 | .indexAddr t x i=>do
  match <- P.underlying t with
  | .slice e=>do some (.iad (<- szOf P e) x i)
  | .array n e=>do some (.ida n (<- szOf P e) x i)
  | _=>none
 | .index t x i=>do
  match <- P.underlying t with
  | .array n e=>do some (.idx n (<- szOf P e) (<- zG7 P e) x i)
  | .string=>some (.pur o)
  | _=>none
 | .lookup t m k ok=>do
  match <- P.underlying t with
  | .map kt e=>do
   let _ <- P.underlying kt
   some (.lookup kt (<- zeroOf P e) m k ok)
  | _=>none
 | .mapUpdate t m k v | .insert t m k v=>do
  match <- P.underlying t with
  | .map kt _=>do
   let _ <- P.underlying kt
   some (.mupd kt m k v)
  | _=>none
 | .extract x i=>some (.ext x i)
 | .range t x=>do
  match <- P.underlying t with
  | .string=>some (.rng x)
  | _=>none
 | .next x true=>some (.nxt x)
 | .call c =>
  match c.callee with
  | .value f =>
   match f with
   | .func g=>do
    let fn <- P.funcs[g]?
    match fn.body with
    | some _ =>
     if fn.origin == "slices.Insert" then do
      match c.args.toList,fn.params[0]? with
      | [x,i,y],some t=>match <- P.underlying t with
       | .slice e=>do
        let ti <- P.info? e
        some (.ins g e ti.size ti.bytes x i y)
       | _=>none
      | _,_=>none
     else some (.call f c.args.toList)
    | none =>
     if fn.origin == "slices.overlaps" then do
      match c.args.toList,fn.params[0]? with
      | [x,y],some t=>match <- P.underlying t with
       | .slice e=>do some (.ovl (<- szOf P e) x y)
       | _=>none
      | _,_=>none
     else none
   | _=>some (.call f c.args.toList)
  | .builtin b=>match b,c.args.toList with
   | .append,[x,y]=>do
    match <- P.underlying (<- c.argTypes[0]?) with
    | .slice e=>do
     let i <- P.info? e
     let z <- i.zero
     if i.size=0∨z.cells.size≠i.size then none else
     match <- P.underlying (<- c.argTypes[1]?) with
     | .int _=>some (.appz e i.size i.bytes z x y)
     | _=>some (.app e i.size i.bytes z x y)
    | _=>none
   | .len,[x]=>do
    match <- P.underlying (<- c.argTypes[0]?) with
    | .slice _=>some (.len x)
    | .map .. => some (.mlen x)
    | .string=>some (.pur o)
    | .array .. => some (.pur o)
    | _=>none
   | .cap,[x]=>do
    match <- P.underlying (<- c.argTypes[0]?) with
    | .slice _=>some (.cap x)
    | _=>none
   | .copy,[x,y]=>do
    match <- P.underlying (<- c.argTypes[0]?) with
    | .slice e=>do some (.cpy (<- szOf P e) x y)
    | _=>none
   | .clear,[x]=>do
    match <- P.underlying (<- c.argTypes[0]?) with
    | .slice e=>do
     let s <- szOf P e
     let z <- zeroOf P e
     if s=0∨z.cells.size≠s then none else some (.clr s z x)
    | _=>none
   | .min,_ | .max,_=>some (.pur o)
   | _,_=>none
  | _=>none
 | _=>none
def mkO (op : Op) (ty : TypeId) : Oper := ⟨none, op, ty, "", #[], none⟩
def zZK (o:Oper):Oper:=mkO o.op o.type
def zJA:AOp->AOp
 | .pur o => .pur (zZK o)
 | .eqnil a b x o => .eqnil a b x (zZK o)
 | ao=>ao
def zBE (P:Program)(o:Oper):AOp:=match zA1 P o with
 | .call _ _=>match o.op with
  | .call c=>match c.callee with
   | .value f => .call f c.args.toList
   | _ => .bad "op"
  | _ => .bad "op"
 | .ins g e st b x i y=>match o.op with
  | .call c=>match c.callee with
   | .value (.func g')=>match g' == g,c.args.toList with
    | true,[x',i',y'] => .ins g e st b x' i' y'
    | _, _ => .bad "op"
   | _ => .bad "op"
  | _ => .bad "op"
 | .ovl st _ _=>match o.op with
  | .call c=>match c.callee with
   | .value (.func _)=>match c.args.toList with
    | [x',y'] => .ovl st x' y'
    | _ => .bad "op"
   | _ => .bad "op"
  | _ => .bad "op"
 | ao=>zJA ao
def zDD (ops:Array Oper)(k:Nat):List Nat :=
 let b:=Region.before ops
 (List.range ops.size).filter fun j=>j != k && !(if j<k then (b.getD k 0).testBit j else (b.getD j 0).testBit k)
def zAW (P:Program)(ops:Array Oper):List AOper :=
 (List.range ops.size).map fun i =>
  let o:=ops.getD i default
  { dst:=o.dst,op:=zBE P o,guard:=o.guard.map fun (j,w)=>(((ops[j]?).bind (·.dst)).getD 1000000,w),unord:=zDD ops i }
def zO1 (P:Program)(ops:Array Oper):Bool :=
 P.follows .mixedOrders &&
 (List.range ops.size).all fun i=>match ops[i]? with
  | some o=>(o.after.all fun e => !Region.binds .any e || Nat.blt e.on i)&&(zDD ops i).all (fun j=>match ops[j]? with | some q=>o.apart ops q | none=>false) &&
   (match o.guard with | some (g,_)=>((ops[g]?).bind (·.dst)).isSome | none=>true)
  | none=>false
def gOK (ops:Array Oper):Bool:=ops.all fun o=>match o.guard with | some (g,_)=>((ops[g]?).bind (·.dst)).isSome | none=>true
def nouD:Bool->List AOper->List AOper
 | true,l=>l
 | false,l=>l.map fun o=>⟨o.dst,o.op,o.guard,[]⟩
def zAM (P:Program):Code->ACode
 | .skip => .skip
 | .region _ ops draw=>match gOK ops&&(!draw || zO1 P ops) with
  | true => .region (nouD draw (zAW P ops)) draw
  | false => .bad "region"
 | .seq a b => .seq (zAM P a) (zAM P b)
 | .cond c a b => .cond c (zAM P a) (zAM P b)
 | .block id b => .block id (zAM P b)
 | .loop b => .loop (zAM P b)
 | .rangeFunc f ps a b => .rangeFunc f ps.toList (zAM P a) (zAM P b)
 | .exit id => .exit id
 | .scope b => .scope (zAM P b)
 | .label _ => .label
 | .ret => .ret
 | .goto _ => .bad "goto"
 | .refuse w => .bad w
def zFK (P:Program)(f:Func):Option AFunc:=do
 let b <- f.body
 let rs <- f.results.toList.mapM fun
  | .tmp t=>some (ARes.tmp t)
  | .cell a t=>do some (.cell a (<- szOf P t) (<- zG7 P t))
 some { ntmps:=f.ntmps,body:=zAM P b,results:=rs }
structure Pl where
 b:Nat
 o:Nat
 L:Nat
 sz:Nat
structure Inj where
 m:Nat->Option Pl
 f:Nat->Option Obj
instance:CoeFun Inj (fun _=>Nat->Option Pl):=⟨Inj.m⟩
def zcC (p:Pl)(off st len c':Nat):Option Nat->Prop
 | some c=>c'=c/\len<=c'/\p.o+off+c'*st<=p.sz
 | none=>len<=c'/\p.o+off+c'*st<=p.sz/\p.L<=off+c'*st
def cap0 (p:Pl)(off:Nat):Option Nat->Prop
 | some c=>c=0
 | none=>p.L<=off
mutual
inductive FRel (f:Nat->Option Obj):AV->Value->Prop
 | sc (v:Value):FRel f (.sc v) v
 | fn {g:FuncId} {l m:List AV} {l' m':Array Value}:FRels f l l'.toList->FRels f m m'.toList->FRel f (.fn g l m) (.func (.func g) l' m')
 | agg {l:List AV} {cs:Array Value}:FRels f l cs.toList->FRel f (.agg l) (.agg cs)
 | tup {l:List AV} {cs:Array Value}:FRels f l cs.toList->FRel f (.tup l) (.tuple cs)
 | pv {cs:List AV} {c:Array Value} {e:TypeId} {r:Nat × Nat} {len st b o c':Nat} {cap:Option Nat}:f b=some (.cells c e r)->o+cs.length<=c.size->FRels f cs ((c.toList.drop o).take cs.length)->cs.length=len*st->len<=c'->(∀ c,cap=some c->c'=c) ->
   FRel f (.pv cs len cap st) (.slice (some ⟨b,o,none⟩) len c')
 | pv0 {a:Addr} {st c':Nat} {cap:Option Nat}:(∀ c,cap=some c->c'=c)->FRel f (.pv [] 0 cap st) (.slice (some a) 0 c')
 | cp {cs:List AV} {c:Array Value} {e:TypeId} {r:Nat × Nat} {b o off:Nat}:f b=some (.cells c e r)->o+cs.length<=c.size->FRels f cs ((c.toList.drop o).take cs.length)->FRel f (.cp cs off) (.pointer (some ⟨b,o+off,none⟩))
inductive FRels (f:Nat->Option Obj):List AV->List Value->Prop
 | nil:FRels f [] []
 | cons {x:AV} {v:Value} {l:List AV} {vs:List Value}:FRel f x v->FRels f l vs->FRels f (x::l) (v::vs)
end
mutual
inductive VRel (μ:Inj):AV->Value->Prop
 | sc (v:Value):VRel μ (.sc v) v
 | ptr {id off:Nat} {p:Pl}:μ id=some p->VRel μ (.ptr id off) (.pointer (some ⟨p.b,p.o+off,none⟩))
 | sl {id off len st c':Nat} {cap:Option Nat} {p:Pl}:μ id=some p->zcC p off st len c' cap ->
   VRel μ (.sl id off len cap st) (.slice (some ⟨p.b,p.o+off,none⟩) len c')
 | sl0 {id off st x:Nat} {cap:Option Nat} {p:Pl}:μ id=some p->cap0 p off cap->VRel μ (.sl id off 0 cap st) (.slice (some ⟨p.b,x,none⟩) 0 0)
 | mp {id:Nat} {p:Pl}:μ id=some p->VRel μ (.mp id) (.map (some p.b))
 | fn {f:FuncId} {l m:List AV} {l' m':Array Value}:VRels μ l l'.toList->VRels μ m m'.toList->VRel μ (.fn f l m) (.func (.func f) l' m')
 | yl {id:Nat} {p:Pl}:μ id=some p->VRel μ (.yl id) (.func (.yield p.b) #[] #[])
 | agg {l:List AV} {cs:Array Value}:VRels μ l cs.toList->VRel μ (.agg l) (.agg cs)
 | tup {l:List AV} {cs:Array Value}:VRels μ l cs.toList->VRel μ (.tup l) (.tuple cs)
 | pv {cs:List AV} {c:Array Value} {e:TypeId} {r:Nat × Nat} {len st b o c':Nat} {cap:Option Nat}:μ.f b=some (.cells c e r)->o+cs.length<=c.size->FRels μ.f cs ((c.toList.drop o).take cs.length)->cs.length=len*st->len<=c'->(∀ c,cap=some c->c'=c) ->
   VRel μ (.pv cs len cap st) (.slice (some ⟨b,o,none⟩) len c')
 | pv0 {a:Addr} {st c':Nat} {cap:Option Nat}:(∀ c,cap=some c->c'=c)->VRel μ (.pv [] 0 cap st) (.slice (some a) 0 c')
 | cp {cs:List AV} {c:Array Value} {e:TypeId} {r:Nat × Nat} {b o off:Nat}:μ.f b=some (.cells c e r)->o+cs.length<=c.size->FRels μ.f cs ((c.toList.drop o).take cs.length)->VRel μ (.cp cs off) (.pointer (some ⟨b,o+off,none⟩))
inductive VRels (μ:Inj):List AV->List Value->Prop
 | nil:VRels μ [] []
 | cons {x:AV} {v:Value} {l:List AV} {vs:List Value}:VRel μ x v->VRels μ l vs->VRels μ (x::l) (v::vs)
end
mutual
theorem FRel.mono {f f':Nat->Option Obj}(h:∀ b x,f b=some x->f' b=some x):∀ {a:AV} {v:Value},FRel f a v->FRel f' a v
 | _,_,.sc v => .sc v
 | _,_,.fn a b => .fn (FRels.mono h a) (FRels.mono h b)
 | _,_,.agg a => .agg (FRels.mono h a)
 | _,_,.tup a => .tup (FRels.mono h a)
 | _,_,.pv a b c d e g => .pv (h _ _ a) b (FRels.mono h c) d e g
 | _,_,.pv0 a => .pv0 a
 | _,_,.cp a b c => .cp (h _ _ a) b (FRels.mono h c)
theorem FRels.mono {f f':Nat->Option Obj}(h:∀ b x,f b=some x->f' b=some x):∀ {a:List AV} {v:List Value},FRels f a v->FRels f' a v
 | _,_,.nil => .nil
 | _,_,.cons a b => .cons (FRel.mono h a) (FRels.mono h b)
end
mutual
theorem FRel.v {μ:Inj}:∀ {a:AV} {v:Value},FRel μ.f a v->VRel μ a v
 | _,_,.sc v => .sc v
 | _,_,.fn a b => .fn (FRels.v a) (FRels.v b)
 | _,_,.agg a => .agg (FRels.v a)
 | _,_,.tup a => .tup (FRels.v a)
 | _,_,.pv a b c d e g => .pv a b c d e g
 | _,_,.pv0 a => .pv0 a
 | _,_,.cp a b c => .cp a b c
theorem FRels.v {μ:Inj}:∀ {a:List AV} {v:List Value},FRels μ.f a v->VRels μ a v
 | _,_,.nil => .nil
 | _,_,.cons a b => .cons (FRel.v a) (FRels.v b)
end
theorem FRels.length {f:Nat->Option Obj}:∀ {l:List AV} {vs:List Value},FRels f l vs->vs.length=l.length
 | _,_,.nil=>rfl
 | _,_,.cons _ b=>by simp [FRels.length b]
theorem FRels.append {f:Nat->Option Obj}:∀ {l:List AV} {vs:List Value} {l':List AV} {vs':List Value},FRels f l vs->FRels f l' vs'->FRels f (l++l') (vs++vs')
 | _,_,_,_,.nil,h=>h
 | _,_,_,_,.cons a b,h => .cons a (FRels.append b h)
theorem FRels.take {f:Nat->Option Obj}:∀ (n:Nat) {l:List AV} {vs:List Value},FRels f l vs->FRels f (l.take n) (vs.take n)
 | 0,_,_,_=>by simpa using FRels.nil
 | _+1,_,_,.nil=>by simpa using FRels.nil
 | n+1,_,_,.cons a b => .cons a (FRels.take n b)
theorem FRels.drop {f:Nat->Option Obj}:∀ (n:Nat) {l:List AV} {vs:List Value},FRels f l vs->FRels f (l.drop n) (vs.drop n)
 | 0,_,_,h=>h
 | _+1,_,_,.nil => .nil
 | n+1,_,_,.cons _ b=>FRels.drop n b
theorem FRels.scs {f:Nat->Option Obj}:∀ (vs:List Value),FRels f (vs.map .sc) vs
 | [] => .nil
 | v::vs => .cons (.sc v) (FRels.scs vs)
theorem FRels.win {f:Nat->Option Obj}{cs:List AV}{vs:List Value}{o a n:Nat}(h:FRels f cs ((vs.drop o).take cs.length))(hn:a+n<=cs.length):FRels f ((cs.drop a).take n) ((vs.drop (o+a)).take n):=by
 have:=(h.drop a).take n
 rwa [List.drop_take,List.take_take,List.drop_drop,Nat.min_eq_left (by omega)] at this
structure Inj.le (μ μ':Inj):Prop where
 app:∀ id p,μ id=some p->μ' id=some p
 fz:∀ b x,μ.f b=some x->μ'.f b=some x
instance {μ μ':Inj}:CoeFun (μ.le μ') (fun _ => ∀ id p,μ id=some p->μ' id=some p):=⟨Inj.le.app⟩
theorem Inj.le_refl (μ:Inj):μ.le μ:=⟨fun _ _ h=>h,fun _ _ h=>h⟩
theorem Inj.le_trans {a b c:Inj}(h:a.le b)(k:b.le c):a.le c:=⟨fun id p x=>k id p (h id p x),fun i x y=>k.fz i x (h.fz i x y)⟩
mutual
theorem VRel.mono {μ μ':Inj}(h:μ.le μ'):∀ {a:AV} {v:Value},VRel μ a v->VRel μ' a v
 | _,_,.sc v => .sc v
 | _,_,.ptr e => .ptr (h _ _ e)
 | _,_,.sl e c => .sl (h _ _ e) c
 | _,_,.sl0 e c => .sl0 (h _ _ e) c
 | _,_,.mp e => .mp (h _ _ e)
 | _,_,.fn a b => .fn (VRels.mono h a) (VRels.mono h b)
 | _,_,.yl e => .yl (h _ _ e)
 | _,_,.agg a => .agg (VRels.mono h a)
 | _,_,.tup a => .tup (VRels.mono h a)
 | _,_,.pv a b c d e g => .pv (h.fz _ _ a) b (FRels.mono h.fz c) d e g
 | _,_,.pv0 a => .pv0 a
 | _,_,.cp a b c => .cp (h.fz _ _ a) b (FRels.mono h.fz c)
theorem VRels.mono {μ μ':Inj}(h:μ.le μ'):∀ {a:List AV} {v:List Value},VRels μ a v->VRels μ' a v
 | _,_,.nil => .nil
 | _,_,.cons a b => .cons (VRel.mono h a) (VRels.mono h b)
end
section lists
variable {μ : Inj}
theorem VRels.length:∀ {l:List AV} {vs:List Value},VRels μ l vs->vs.length=l.length
 | _,_,.nil=>rfl
 | _,_,.cons _ b=>by simp [VRels.length b]
theorem VRels.append:∀ {l:List AV} {vs:List Value} {l':List AV} {vs':List Value},VRels μ l vs->VRels μ l' vs'->VRels μ (l++l') (vs++vs')
 | _,_,_,_,.nil,h=>h
 | _,_,_,_,.cons a b,h => .cons a (VRels.append b h)
theorem VRels.take:∀ (n:Nat) {l:List AV} {vs:List Value},VRels μ l vs->VRels μ (l.take n) (vs.take n)
 | 0,_,_,_=>by simpa using VRels.nil
 | _+1,_,_,.nil=>by simpa using VRels.nil
 | n+1,_,_,.cons a b => .cons a (VRels.take n b)
theorem VRels.drop:∀ (n:Nat) {l:List AV} {vs:List Value},VRels μ l vs->VRels μ (l.drop n) (vs.drop n)
 | 0,_,_,h=>h
 | _+1,_,_,.nil => .nil
 | n+1,_,_,.cons _ b=>VRels.drop n b
theorem VRels.scs:∀ (vs:List Value),VRels μ (vs.map .sc) vs
 | [] => .nil
 | v::vs => .cons (.sc v) (VRels.scs vs)
theorem VRels.get:∀ {l:List AV} {vs:List Value} (i:Nat) {x:AV},VRels μ l vs->l[i]? = some x -> ∃ v,vs[i]? = some v/\VRel μ x v
 | _,_,0,_,.cons a _,h=>by simp at h;subst h;exact⟨_,rfl,a⟩
 | _,_,i+1,_,.cons _ b,h=>by simpa using VRels.get i b (by simpa using h)
theorem VRels.of_get:∀ {l:List AV} {vs:List Value},vs.length=l.length->(∀ (i:Nat) (x:AV) (v:Value),l[i]? = some x->vs[i]? = some v->VRel μ x v)->VRels μ l vs
 | [],[],_,_ => .nil
 | x::l,v::vs,h,k => .cons (k 0 x v rfl rfl) (VRels.of_get (by simpa using h) fun i x v a b=>k (i+1) x v (by simpa using a) (by simpa using b))
 | [],_::_,h,_=>by simp at h
 | _::_,[],h,_=>by simp at h
theorem zG2 {α:Type}(d:α):∀ (l:List α) (i:Nat),nth d l i=(l[i]?).getD d
 | [],_=>by simp [nth]
 | _::_,0=>by simp [nth]
 | _::l,i+1=>by simp [nth,zG2 d l i]
theorem zCT {α:Type}(x:α):∀ (l:List α) (i:Nat),zCF x l i=l.set i x
 | [],_=>by simp [zCF]
 | _::_,0=>by simp [zCF]
 | _::l,i+1=>by simp [zCF,zCT x l i]
theorem VRels.set:∀ {l:List AV} {vs:List Value} (i:Nat) {x:AV} {v:Value},VRels μ l vs->VRel μ x v->VRels μ (l.set i x) (vs.set i v)
 | _,_,_,_,_,.nil,_ => .nil
 | _,_,0,_,_,.cons _ b,h => .cons h b
 | _,_,i+1,_,_,.cons a b,h => .cons a (VRels.set i b h)
end lists
def zW5:Option AExit->Option Code->Prop
 | none,none=>True
 | some .ret,some .ret=>True
 | some (.exit i),some (.exit j)=>i=j
 | _,_=>False
def zIF (μ:Inj)(es:List (AV × AV × Nat))(es':List MapEntry):Prop :=
 es'.length=es.length /\ ∀ (i:Nat) (k v:AV) (n:Nat),es[i]? = some (k,v,n) -> ∃ e:MapEntry,es'[i]? = some e/\VRel μ k e.key/\VRel μ v e.val/\e.born=n
def zFU (P:Program)(μ:Inj)(obj:AObj)(p:Pl)(w:World):Prop :=
 match obj with
 | .row str cs => ∃ c e fz,w.heap[p.b]? = some (.cells c e fz)/\c.size=p.sz/\cs.length=p.L/\p.o+p.L<=p.sz /\
   VRels μ cs ((c.toList.drop p.o).take p.L)/\(∀ j,j<p.sz -> ¬ (fz.1<=j/\j<fz.2))/\(str=false->fz.1=fz.2)
 | .map es clock => ∃ es',w.heap[p.b]? = some (.map es' clock)/\zIF μ es es'.toList
 | .loop st pend tm ps assign body dfr => ∃ r:Loop,w.heap[p.b]? = some (.loop r)/\r.state=st/\zW5 pend r.pending/\VRels μ tm r.tmps.toList/\r.params.toList=ps /\
   zAM P r.assign=assign/\zAM P r.body=body /\ ∃ q,μ dfr=some q/\q.b=r.defers
 | .dfr spent=>w.heap[p.b]? = some (.deferred (if spent then none else some []))
 | .siter s pos=>w.heap[p.b]? = some (.stringIter s pos)/\p.o=0
 | .fro cs => ∃ c e fz,μ.f p.b=some (.cells c e fz)/\c.size=p.sz/\cs.length=p.L/\p.o+p.L<=p.sz/\VRels μ cs ((c.toList.drop p.o).take p.L)
 | .dead=>True
theorem zIF.mono {μ μ':Inj}(h:μ.le μ'){es:List (AV × AV × Nat)}{es':List MapEntry}(k:zIF μ es es'):zIF μ' es es' :=
 ⟨k.1,fun i a b n x=>let ⟨e,h1,h2,h3,h4⟩:=k.2 i a b n x; ⟨e,h1,h2.mono h,h3.mono h,h4⟩⟩
theorem zFU.mono {P:Program}{μ μ':Inj}(h:μ.le μ'){obj:AObj}{p:Pl}{w w':World}(hw:w'.heap[p.b]? = w.heap[p.b]?)(k:zFU P μ obj p w):zFU P μ' obj p w':=by
 cases obj with
 | row str cs=>obtain⟨c,e,fz,h1,h2,h3,h4,h5,h6⟩:=k;exact⟨c,e,fz,hw.trans h1,h2,h3,h4,h5.mono h,h6⟩
 | map es clock=>obtain⟨es',h1,h2⟩:=k;exact⟨es',hw.trans h1,h2.mono h⟩
 | loop st pend tm ps assign body dfr=>obtain⟨r,h1,h2,h3,h4,h5,h6,h7,q,h8,h9⟩:=k;exact⟨r,hw.trans h1,h2,h3,h4.mono h,h5,h6,h7,q,h _ _ h8,h9⟩
 | dfr spent=>exact hw.trans k
 | siter s pos=>exact⟨hw.trans k.1,k.2⟩
 | fro cs=>obtain⟨c,e,fz,h1,h2,h3,h4,h5⟩:=k;exact⟨c,e,fz,h.fz _ _ h1,h2,h3,h4,h5.mono h⟩
 | dead=>trivial
theorem zFU.mono_gone {P:Program}{μ μ':Inj}(h:μ.le μ'){obj:AObj}{p:Pl}{w w':World}(hg:obj.gone=true)(k:zFU P μ obj p w):zFU P μ' obj p w':=by
 cases obj with
 | fro cs=>obtain⟨c,e,fz,h1,h2,h3,h4,h5⟩:=k;exact⟨c,e,fz,h.fz _ _ h1,h2,h3,h4,h5.mono h⟩
 | dead=>trivial
 | _=>cases hg
abbrev Cont:=Nat->Option AObj
def live (E:Cont)(id:Nat):Prop:=∀ o,E id=some o->o.gone=false
theorem zCH {E:Cont}{id:Nat}{o:AObj}(h:E id=some o)(hg:o.gone=false):live E id:=fun o' h'=>by rw[h] at h';cases h';exact hg
theorem zFA {E:Cont}{id:Nat}{o:AObj}(h:E id=some o)(hg:o.gone=true):¬ live E id:=fun k=>by rw[k o h] at hg;cases hg
theorem zBP {E E':Cont}{id:Nat}(h:E id=E' id):live E id↔live E' id:=by unfold live;rw[h]
def FzOK (w:World)(b:Nat)(x:Obj):Prop:=w.heap[b]? = some x
theorem FzOK.lt {w:World}{b:Nat}{x:Obj}(h:FzOK w b x):b<w.heap.size:=(Array.getElem?_eq_some_iff.1 h).1
theorem FzOK.mono {w w':World}{b:Nat}{x:Obj}(hw:w'.heap[b]? = w.heap[b]?)(k:FzOK w b x):FzOK w' b x:=hw.trans k
structure Glob where
 G:(Nat->Option Obj)->Prop
 mono:∀ f f',(∀ b x,f b=some x->f' b=some x)->G f->G f'
def Glob.any:Glob:=⟨fun _=>True,fun _ _ _ h=>h⟩
variable {Γ : Glob}
structure RelOn (Γ:Glob) (P:Program) (D:Nat->Prop) (μ:Inj) (E:Cont) (w:World):Prop where
 ok:∀ id p,D id->μ id=some p->p.b<w.heap.size /\ ∃ obj,E id=some obj/\zFU P μ obj p w
 ex:∀ i j p q,D i->D j->μ i=some p->μ j=some q->live E i->live E j->p.b=q.b->i=j
 fz:∀ b x,μ.f b=some x->FzOK w b x
 sep:∀ b x i p,μ.f b=some x->D i->μ i=some p->live E i->p.b≠b
 gl:Γ.G μ.f
structure Ext (W:Nat->Prop) (μ:Inj) (n:Nat) (E:Cont) (w:World) (μ':Inj) (n':Nat) (E':Cont) (w':World):Prop where
 sub:μ.le μ'
 new:∀ id p,μ' id=some p->μ id=none->n<=id/\id<n'/\(w.heap.size<=p.b ∨ ∃ i q,W i/\i<n/\μ i=some q/\q.b=p.b/\live E i /\ ¬ live E' i)
 fnew:∀ b x,μ'.f b=some x->μ.f b=none->w.heap.size<=b ∨ ∃ i q,W i/\i<n/\μ i=some q/\q.b=b/\live E i /\ ¬ live E' i
 le:n<=n'
 hs:w.heap.size<=w'.heap.size
 frame:∀ b,b<w.heap.size->(∀ i q,W i->i<n->μ i=some q->live E i->q.b≠b)->w'.heap[b]? = w.heap[b]?
 same:∀ i,i<n -> ¬ W i->E' i=E i
 dead:∀ i,i<n -> ¬ live E i->E' i=E i
 os:w'.os=w.os
 tape:w'.tape=w.tape
 output:w'.output=w.output
theorem Ext.gone {W:Nat->Prop}{μ:Inj}{n:Nat}{E:Cont}{w:World}{μ':Inj}{n':Nat}{E':Cont}{w':World}(h:Ext W μ n E w μ' n' E' w')(i:Nat)(hi:i<n)(k:¬ live E i):¬ live E' i:=by
 rw[zBP (h.dead i hi k)];exact k
theorem Ext.refl (W:Nat->Prop)(μ:Inj)(n:Nat)(E:Cont)(w:World):Ext W μ n E w μ n E w :=
 ⟨Inj.le_refl μ,(fun id p h k=>by rw[h] at k;cases k),(fun b x h k=>by rw[h] at k;cases k),Nat.le_refl _,Nat.le_refl _,fun _ _ _=>rfl,fun _ _ _=>rfl,fun _ _ _=>rfl,rfl,rfl,rfl⟩
theorem Ext.mono {W W':Nat->Prop}(hW:∀ i,W i->W' i){μ:Inj}{n:Nat}{E:Cont}{w:World}{μ':Inj}{n':Nat}{E':Cont}{w':World}
  (h:Ext W μ n E w μ' n' E' w'):Ext W' μ n E w μ' n' E' w' :=
 ⟨h.sub,fun id p a b=>let ⟨x,y,z⟩:=h.new id p a b; ⟨x,y,z.imp (fun z=>z) fun⟨i,q,hi,r⟩=>⟨i,q,hW i hi,r⟩⟩,
  fun b x a c=>(h.fnew b x a c).imp (fun z=>z) fun⟨i,q,hi,r⟩=>⟨i,q,hW i hi,r⟩,h.le,h.hs,
  fun b hb k=>h.frame b hb fun i q hi=>k i q (hW i hi),fun i hi k=>h.same i hi fun x=>k (hW i x),h.dead,h.os,h.tape,h.output⟩
theorem Ext.trans {W W':Nat->Prop}{μ:Inj}{n:Nat}{E:Cont}{w:World}{μ':Inj}{n':Nat}{E':Cont}{w':World}{μ'':Inj}{n'':Nat}{E'':Cont}{w'':World}
  (h:Ext W μ n E w μ' n' E' w') (k:Ext W' μ' n' E' w' μ'' n'' E'' w'') (hW:∀ i,i<n->W' i->W i) (hfr:∀ i,n<=i->i<n'->μ i=none):Ext W μ n E w μ'' n'' E'' w'':=by
 refine⟨Inj.le_trans h.sub k.sub,fun id p h1 h2=>?_,fun b x h1 h2=>?_,Nat.le_trans h.le k.le,Nat.le_trans h.hs k.hs,fun b hb hf=>?_,fun i hi hw=>?_,fun i hi hd=>?_,k.os.trans h.os,k.tape.trans h.tape,k.output.trans h.output⟩
 ·cases hμ:μ' id with
  | some p' =>
   have hp:=k.sub _ _ hμ
   rw[h1] at hp;cases hp
   obtain⟨x,y,z⟩:=h.new id p hμ h2
   refine⟨x,Nat.lt_of_lt_of_le y k.le,z.imp (fun z=>z) ?_⟩
   rintro⟨i,q,hi,hn,hq,hb,hl,hd⟩
   exact⟨i,q,hi,hn,hq,hb,hl,k.gone i (Nat.lt_of_lt_of_le hn h.le) hd⟩
  | none =>
   obtain⟨x,y,z⟩:=k.new id p h1 hμ
   refine⟨Nat.le_trans h.le x,y, ?_⟩
   rcases z with z | ⟨i,q,hi,hn,hq,hb,hl,hd⟩
   ·exact .inl (Nat.le_trans h.hs z)
   ·exact zE03
 ·cases hf:μ'.f b with
  | some x' =>
   rcases h.fnew b x' hf h2 with z | ⟨i,q,hi,hn,hq,hb,hl,hd⟩
   ·exact .inl z
   ·exact .inr ⟨i,q,hi,hn,hq,hb,hl,k.gone i (Nat.lt_of_lt_of_le hn h.le) hd⟩
  | none =>
   rcases k.fnew b x h1 hf with z | ⟨i,q,hi,hn,hq,hb,hl,hd⟩
   ·exact .inl (Nat.le_trans h.hs z)
   ·exact zE03
 ·rw[k.frame b (Nat.lt_of_lt_of_le hb h.hs) ?_]
  ·exact h.frame b hb hf
  ·intro i q hi hn hq hl e
   cases hμ:μ i with
   | some q' =>
    have e':=h.sub _ _ hμ
    rw[hq] at e';cases e'
    by_cases hin:i<n
    ·exact hf i q (hW i hin hi) hin hμ (Classical.byContradiction fun e=>h.gone i hin e hl) e
    ·rw[hfr i (by omega) hn] at hμ;cases hμ
   | none =>
    obtain⟨x,y,z⟩:=h.new i q hq hμ
    rcases z with z | ⟨i',q',hi',hn',hq',hb',hl',hd'⟩
    ·omega
    ·exact hf i' q' hi' hn' hq' hl' (hb'.trans e)
 ·rw[k.same i (Nat.lt_of_lt_of_le hi h.le) (fun x=>hw (hW i hi x)),h.same i hi hw]
 ·exact(k.dead i (Nat.lt_of_lt_of_le hi h.le) (h.gone i hi hd)).trans (h.dead i hi hd)
theorem T.get_eq {α:Type}:∀ (l:List α) (i:Nat),T.get l i=l[i]?
 | [],_=>by simp [T.get]
 | _::_,0=>by simp [T.get]
 | _::l,i+1=>by simp [T.get,T.get_eq l i]
theorem T.set_eq {α:Type}:∀ (l:List α) (i:Nat) (x:α),T.set l i x=if i<l.length then some (List.set l i x) else if i=l.length then some (l++[x]) else none
 | [],0,_=>by simp [T.set]
 | [],_+1,_=>by simp [T.set]
 | _::_,0,_=>by simp [T.set]
 | y::l,i+1,x=>by
  simp only[T.set,T.set_eq l i x,List.length_cons,Nat.add_lt_add_iff_right,Nat.add_right_cancel_iff,List.set_cons_succ,List.cons_append]
  by_cases h1:i<l.length
  ·simp [h1]
  ·by_cases h2:i=l.length <;> simp [h1,h2]
theorem T.get_set {α:Type}(t:List α)(i:Nat)(x:α)(t':List α)(h:T.set t i x=some t')(j:Nat):T.get t' j=if j=i then some x else T.get t j:=by
 rw[T.set_eq] at h
 simp only[T.get_eq]
 split at h
 ·rename_i hi
  cases h
  by_cases e:j=i
  ·subst e;simp [hi]
  ·rw[if_neg e,List.getElem?_set_ne (fun h=>e h.symm)]
 ·split at h
  ·rename_i hi
   cases h
   subst hi
   by_cases e:j=t.length
   ·subst e;simp
   ·rw[if_neg e,List.getElem?_append]
    split
    ·rfl
    ·rename_i hj
     rw[List.getElem?_eq_none (by simp;omega),List.getElem?_eq_none (by omega)]
  ·cases h
theorem zAJ (a b:Nat):Nat.blt a b=true↔a<b:=by simp [Nat.blt,Nat.ble_eq,Nat.succ_le_iff]
theorem zCE (a b:Nat):Nat.blt a b=false ↔ ¬ a<b:=by rw[<- zAJ,Bool.not_eq_true]
theorem Mem.get_lt {M:Mem}{i:Nat}{o:AObj}(h:M.get i=some o):i<M.size:=by
 unfold Mem.get at h
 cases hb:Nat.blt i M.size with
 | true=>exact(zAJ _ _).1 hb
 | false=>simp [hb] at h
theorem Mem.put_spec {M M':Mem}{i:Nat}{o:AObj}(h:M.put i o=some M') :
  i<M.size/\M'.size=M.size/\(∀ j,M'.get j=if j=i then some o else M.get j)/\M'.wm=M.wm/\M'.dirty=(M.dirty || Nat.blt i M.wm):=by
 unfold Mem.put at h
 cases hb:Nat.blt i M.size with
 | false=>simp [hb] at h
 | true =>
  simp only[hb] at h
  cases hs:T.set M.t i o with
  | none=>simp [hs] at h
  | some t =>
   simp only[hs,Option.some.injEq] at h;subst h
   have hi:=(zAJ _ _).1 hb
   refine⟨hi,rfl,fun j=>?_,rfl,rfl⟩
   unfold Mem.get
   by_cases e:j=i
   ·subst e;simp [hb,T.get_set _ _ _ _ hs]
   ·simp [T.get_set _ _ _ _ hs,e]
theorem Mem.new_spec {M M':Mem}{id:Nat}{o:AObj}(h:M.new o=some (id,M')) :
  id=M.size/\M'.size=M.size+1/\(∀ j,j<M.size->M'.get j=M.get j)/\M'.get M.size=some o/\M'.wm=M.wm/\M'.dirty=M.dirty:=by
 unfold Mem.new at h
 cases hs:T.set M.t M.size o with
 | none=>simp [hs] at h
 | some t =>
  simp only[hs,Option.some.injEq,Prod.mk.injEq] at h
  obtain⟨rfl,rfl⟩:=h
  refine⟨rfl,rfl,fun j hj=>?_, ?_,rfl,rfl⟩
  ·unfold Mem.get
   have h1:Nat.blt j (M.size+1)=true:=(zAJ _ _).2 (by omega)
   have h2:Nat.blt j M.size=true:=(zAJ _ _).2 hj
   simp only[h1,h2]
   rw[T.get_set _ _ _ _ hs,if_neg (by omega)]
  ·unfold Mem.get
   have h1:Nat.blt M.size (M.size+1)=true:=(zAJ _ _).2 (by omega)
   simp only[h1]
   rw[T.get_set _ _ _ _ hs,if_pos rfl]
theorem RelOn.extend {P:Program}{D W:Nat->Prop}{μ μ':Inj}{n n':Nat}{E E₀ E₁ E':Cont}{w w':World}(R:RelOn Γ P D μ E w)(hWn:∀ i,W i->i<n)
  (hWD:∀ i p,W i->μ i=some p->D i) (X:Ext W μ n E₀ w μ' n' E₁ w') (hE:∀ i p,W i->μ i=some p->E₀ i=E i) (hE':∀ i p,D i -> ¬ W i->(¬ (n<=i/\i<n'))->μ i=some p->E' i=E i)
  (hE'':∀ i p,(W i∨n<=i/\i<n')->μ' i=some p->E' i=E₁ i) (R':RelOn Γ P (fun i=>W i∨n<=i/\i<n') μ' E₁ w') (hfr:∀ i,n<=i->i<n'->μ i=none) :
  RelOn Γ P (fun i=>D i∨n<=i/\i<n') μ' E' w':=by
 have old:∀ i p,μ' i=some p -> ¬ (n<=i/\i<n')->μ i=some p:=fun i p h hn=>by
  cases hμ:μ i with
  | some q=>have:=X.sub _ _ hμ;rw[h] at this;exact this.symm
  | none=>exact absurd (let ⟨a,b,_⟩:=X.new i p h hμ; ⟨a,b⟩) hn
 constructor
 ·intro id p hD hp
  by_cases hnew:W id∨n<=id/\id<n'
  ·obtain⟨h1,obj,h2,h3⟩:=R'.ok id p hnew hp
   exact⟨h1,obj,(hE'' id p hnew hp).trans h2,h3⟩
  ·have hnw:¬ W id:=fun h=>hnew (.inl h)
   have hnn:¬ (n<=id/\id<n'):=fun h=>hnew (.inr h)
   have hD':D id:=hD.resolve_right hnn
   have hμ:=old id p hp hnn
   obtain⟨h1,obj,h2,h3⟩:=R.ok id p hD' hμ
   refine⟨Nat.lt_of_lt_of_le h1 X.hs,obj,(hE' id p hD' hnw hnn hμ).trans h2, ?_⟩
   by_cases hd:obj.gone=true
   ·exact h3.mono_gone X.sub hd
   ·refine h3.mono X.sub (X.frame p.b h1 fun i q hi hin hq hl e=>?_)
    have:=R.ex i id q p (hWD i q hi hq) hD' hq hμ (by unfold live at hl ⊢;rw[<- hE i q hi hq];exact hl) (zCH h2 (by simpa using hd)) e
    exact hnw (this ▸ hi)
 ·intro i j p q hi hj hp hq hli hlj e
  by_cases hi':W i∨n<=i/\i<n'
  ·by_cases hj':W j∨n<=j/\j<n'
   ·exact R'.ex i j p q hi' hj' hp hq (by unfold live at *;rw[<- hE'' i p hi' hp];exact hli) (by unfold live at *;rw[<- hE'' j q hj' hq];exact hlj) e
   ·exact(aux R hWn hWD X hE hE' hE'' old hfr hj' (hj.resolve_right fun h=>hj' (.inr h)) hi' hq hp hlj hli e.symm).elim
  ·by_cases hj':W j∨n<=j/\j<n'
   ·exact(aux R hWn hWD X hE hE' hE'' old hfr hi' (hi.resolve_right fun h=>hi' (.inr h)) hj' hp hq hli hlj e).elim
   ·have hni:¬ (n<=i/\i<n'):=fun h=>hi' (.inr h)
    have hnj:¬ (n<=j/\j<n'):=fun h=>hj' (.inr h)
    exact R.ex i j p q (hi.resolve_right hni) (hj.resolve_right hnj) (old i p hp hni) (old j q hq hnj)
     (by unfold live at *;rw[<- hE' i p (hi.resolve_right hni) (fun h=>hi' (.inl h)) hni (old i p hp hni)];exact hli) (by unfold live at *;rw[<- hE' j q (hj.resolve_right hnj) (fun h=>hj' (.inl h)) hnj (old j q hq hnj)];exact hlj) e
 ·exact R'.fz
 ·intro b x i p hb hi hp hl e
  by_cases hi':W i∨n<=i/\i<n'
  ·exact R'.sep b x i p hb hi' hp (by unfold live at *;rw[<- hE'' i p hi' hp];exact hl) e
  ·have hni:¬ (n<=i/\i<n'):=fun h=>hi' (.inr h)
   have hwi:¬ W i:=fun h=>hi' (.inl h)
   have hD:=hi.resolve_right hni
   have hμ:=old i p hp hni
   have hl':live E i:=by unfold live at *;rw[<- hE' i p hD hwi hni hμ];exact hl
   cases hf:μ.f b with
   | some x'=>exact R.sep b x' i p hf hD hμ hl' e
   | none =>
    rcases X.fnew b x hb hf with z | ⟨i0,q0,h0,hn0,hq0,hb0,hl0,_⟩
    ·have:=(R.ok i p hD hμ).1;omega
    ·have:=R.ex i i0 p q0 hD (hWD i0 q0 h0 hq0) hμ hq0 hl' (by unfold live at *;rw[<- hE i0 q0 h0 hq0];exact hl0) (e.trans hb0.symm)
     exact hwi (this ▸ h0)
 ·exact R'.gl
where
 aux {P:Program} {D W:Nat->Prop} {μ μ':Inj} {n n':Nat} {E E₀ E₁ E':Cont} {w w':World} (R:RelOn Γ P D μ E w) (hWn:∀ i,W i->i<n)
  (hWD:∀ i p,W i->μ i=some p->D i) (X:Ext W μ n E₀ w μ' n' E₁ w') (hE:∀ i p,W i->μ i=some p->E₀ i=E i) (hE':∀ i p,D i -> ¬ W i->(¬ (n<=i/\i<n'))->μ i=some p->E' i=E i)
  (hE'':∀ i p,(W i∨n<=i/\i<n')->μ' i=some p->E' i=E₁ i) (old:∀ i p,μ' i=some p -> ¬ (n<=i/\i<n')->μ i=some p) (hfr:∀ i,n<=i->i<n'->μ i=none) {i j:Nat} {p q:Pl}
  (hi':¬ (W i∨n<=i/\i<n')) (hD:D i) (hj':W j∨n<=j/\j<n') (hp:μ' i=some p) (hq:μ' j=some q) (hli:live E' i) (hlj:live E' j) (e:p.b=q.b):False:=by
  have hni:¬ (n<=i/\i<n'):=fun h=>hi' (.inr h)
  have hwi:¬ W i:=fun h=>hi' (.inl h)
  have hμi:=old i p hp hni
  have hl:live E i:=by unfold live at *;rw[<- hE' i p hD hwi hni hμi];exact hli
  have hb:=(R.ok i p hD hμi).1
  cases hμj:μ j with
  | none =>
   obtain⟨_,_,z⟩:=X.new j q hq hμj
   rcases z with z | ⟨i0,q0,h0,hn0,hq0,hb0,hl0,_⟩
   ·omega
   ·have:=R.ex i i0 p q0 hD (hWD i0 q0 h0 hq0) hμi hq0 hl (by unfold live at *;rw[<- hE i0 q0 h0 hq0];exact hl0) (e.trans hb0.symm)
    exact hwi (this ▸ h0)
  | some q' =>
   have e':=X.sub _ _ hμj
   rw[hq] at e';cases e'
   rcases hj' with hw | hnj
   ·have hlj':live E j:=by
     refine Classical.byContradiction fun hd=>?_
     have hd0:¬ live E₀ j:=by rw[zBP (hE j q hw hμj)];exact hd
     have hd1:=X.gone j (hWn j hw) hd0
     rw[zBP (hE'' j q (.inl hw) hq)] at hlj
     exact hd1 hlj
    have:=R.ex i j p q hD (hWD j q hw hμj) hμi hμj hl hlj' e
    exact hwi (this ▸ hw)
   ·rw[hfr j hnj.1 hnj.2] at hμj;cases hμj
theorem zD1 {α:Type}{P:Program}:∀ {s:Sem α} {a:α},zAG P s=some a -> ∀ w,s.run P w = .ok a w:=by
 intro s
 induction s with
 | pure a=>intro b h w;simp [zAG] at h;subst h;rfl
 | program k ih=>intro b h w;exact ih P h w
 | mark m k ih=>intro b h w;exact ih h w
 | _=>intro b h;simp [zAG] at h
mutual
theorem zEM {μ:Inj}:∀ {a:AV} {v u:Value},VRel μ a v->zAZ a=some u->v=u
 | .sc _,_,_,.sc _,h=>by simpa [zAZ] using h
 | .agg l,_,_,.agg (cs:=cs) r,h=>by
  simp only[zAZ] at h
  cases hl:zAZ.toVals l with
  | none=>simp [hl] at h
  | some vs =>
   simp only[hl,Option.some.injEq] at h;subst h
   have:=zHQ r hl
   exact congrArg Value.agg (by rw[<- this])
 | .tup l,_,_,.tup (cs:=cs) r,h=>by
  simp only[zAZ] at h
  cases hl:zAZ.toVals l with
  | none=>simp [hl] at h
  | some vs =>
   simp only[hl,Option.some.injEq] at h;subst h
   have:=zHQ r hl
   exact congrArg Value.tuple (by rw[<- this])
 | .ptr ..,_,_,_,h=>by simp [zAZ] at h
 | .sl ..,_,_,_,h=>by simp [zAZ] at h
 | .mp _,_,_,_,h=>by simp [zAZ] at h
 | .fn ..,_,_,_,h=>by simp [zAZ] at h
 | .yl _,_,_,_,h=>by simp [zAZ] at h
theorem zHQ {μ:Inj}:∀ {l:List AV} {vs us:List Value},VRels μ l vs->zAZ.toVals l=some us->vs=us
 | [],_,_,.nil,h=>by simpa [zAZ.toVals] using h
 | x::l,_,_,.cons a b,h=>by
  simp only[zAZ.toVals] at h
  cases hx:zAZ x with
  | none=>simp [hx] at h
  | some u =>
   simp only[hx] at h
   cases hl:zAZ.toVals l with
   | none=>simp [hl] at h
   | some us =>
    simp only[hl,Option.some.injEq] at h;subst h
    rw[zEM a hx,zHQ b hl]
end
theorem zIQ {μ:Inj}{x:AV}{v:Value}(h:VRel μ x v):VRels μ (cellsA x) v.cells.toList:=by
 cases h with
 | sc v=>cases v <;> first | exact .cons (.sc _) .nil | exact VRels.scs _
 | agg r=>exact r
 | ptr e=>exact .cons (.ptr e) .nil
 | sl e c=>exact .cons (.sl e c) .nil
 | sl0 e c=>exact .cons (.sl0 e c) .nil
 | mp e=>exact .cons (.mp e) .nil
 | fn a b=>exact .cons (.fn a b) .nil
 | yl e=>exact .cons (.yl e) .nil
 | tup a=>exact .cons (.tup a) .nil
 | pv a b c d e g=>exact .cons (.pv a b c d e g) .nil
 | pv0 a=>exact .cons (.pv0 a) .nil
 | cp a b c=>exact .cons (.cp a b c) .nil
theorem zPX (μ:Inj)(z:Value):VRels μ (scs z) z.cells.toList:=VRels.scs _
abbrev TRel (μ:Inj)(t:List AV)(tm:Array Value):Prop:=VRels μ t tm.toList
theorem zFM {μ:Inj}{t:List AV}{a:Act}(h:TRel μ t a.tmps):∀ x:Operand,VRel μ (zA5 t x) (a.eval x)
 | .tmp n=>by
  simp only[zA5,Act.eval,zG2,Array.getD_eq_getD_getElem?]
  cases ht:t[n]? with
  | none =>
   have:a.tmps[n]? = none:=by
    have:=h.length
    rw[List.getElem?_eq_none_iff] at ht
    rw[Array.getElem?_eq_none_iff,<- Array.length_toList];omega
   rw[this];exact .sc _
  | some x =>
   obtain⟨v,hv,r⟩:=h.get n ht
   rw[Array.getElem?_toList] at hv
   rw[hv];exact r
 | .const v => .sc v
 | .global g => .sc _
 | .func f => .fn .nil .nil
theorem zPR {μ:Inj}{t:List AV}{a:Act}(h:TRel μ t a.tmps)(dst:Option Tmp){x:AV}{v:Value}(r:VRel μ x v):TRel μ (putA t dst x) (a.put dst v).tmps:=by
 cases dst with
 | none=>exact h
 | some d =>
  show VRels μ (zCF x t d) (a.tmps.setIfInBounds d v).toList
  rw[zCT,Array.toList_setIfInBounds]
  exact h.set d r
section cells
variable {P : Program} {w : World} {b : Nat} {c : Array Value} {e : TypeId} {fz : Nat × Nat}
theorem zOM (h:w.heap[b]? = some (.cells c e fz))(j:Nat):w.cell? ⟨b,j,none⟩=c[j]? := by simp [World.cell?,h]
theorem zUS (h:w.heap[b]? = some (.cells c e fz)){j:Nat}(hj:¬ (fz.1<=j/\j<fz.2)):w.frozen? ⟨b,j,none⟩=false:=by
 obtain⟨lo,hi⟩:=fz
 simp only[World.frozen?,h]
 simpa using hj
theorem addr_add (b o n:Nat):(⟨b,o,none⟩:Addr).add n=⟨b,o+n,none⟩:=by
 unfold Addr.add
 split
 ·subst_vars;rfl
 ·rfl
theorem zJU (h:w.heap[b]? = some (.cells c e fz)){j:Nat}{v:Value}(hv:c[j]? = some v)(m:Mode):(load ⟨b,j,none⟩ m).run P w = .ok v w:=by
 rw[run_load,zOM h,hv]
theorem run_loadCellsFrom (h:w.heap[b]? = some (.cells c e fz))(off:Nat):∀ (n i:Nat) (acc:Array Value),off+i+n<=c.size ->
  (loadCellsFrom ⟨b,off,none⟩ i n acc).run P w = .ok (acc++c.extract (off+i) (off+i+n)) w:=by
 intro n
 induction n with
 | zero=>intro i acc _;simp [loadCellsFrom];omega
 | succ n ih =>
  intro i acc hb
  have hv:c[off+i]? = some c[off+i]:=Array.getElem?_eq_getElem (by omega)
  simp only[loadCellsFrom,Sem.run_bind,addr_add,zJU h hv,Result.andThen_ok]
  rw[ih (i+1) _ (by omega)]
  congr 1
  apply Array.toList_inj.1
  simp only[Array.toList_append,Array.toList_push,Array.toList_extract,List.extract_eq_take_drop]
  rw[List.append_assoc]
  congr 1
  rw[show off+i+(n+1) - (off+i)=n+1 by omega,show off+(i+1)+n - (off+(i+1))=n by omega,show off+(i+1)=off+i+1 by omega,
   List.drop_eq_getElem_cons (l:=c.toList) (i:=off+i) (by simpa using (by omega:off+i<c.size))]
  simp
theorem run_loadCells (h:w.heap[b]? = some (.cells c e fz))(off n:Nat)(hb:off+n<=c.size) :
  (loadCells ⟨b,off,none⟩ n).run P w = .ok (c.extract off (off+n)) w:=by
 unfold loadCells
 rw[run_loadCellsFrom h off n 0 #[] (by omega)];simp
theorem zaH (a:Array Value)(i:Nat)(v:Value):(a.setIfInBounds i v).toList=a.toList.set i v:=Array.toList_setIfInBounds ..
def over (c:Array Value)(off:Nat)(vs:List Value):Array Value:=(c.toList.take off++vs++c.toList.drop (off+vs.length)).toArray
theorem zRD (c:Array Value)(off:Nat):over c off []=c:=by simp [over]
theorem zNX (c:Array Value)(off:Nat)(vs:List Value)(h:off+vs.length<=c.size):(over c off vs).size=c.size:=by
 simp [over];omega
theorem zNW (c:Array Value)(off:Nat)(v:Value)(vs:List Value)(h:off+(v::vs).length<=c.size):over (c.setIfInBounds off v) (off+1) vs=over c off (v::vs):=by
 simp only[List.length_cons] at h
 unfold over
 congr 1
 rw[zaH]
 have hl:off<c.toList.length:=by simp;omega
 rw[List.take_add_one,List.getElem?_set,if_pos rfl,if_pos hl,List.take_set_of_le (Nat.le_refl _),List.drop_set_of_lt (by omega)]
 simp [Nat.add_assoc,Nat.add_comm 1]
def writ (w:World)(b:Nat)(c:Array Value)(e:TypeId)(fz:Nat × Nat):World:={ w with heap:=w.heap.setIfInBounds b (.cells c e fz) }
theorem zQ5 (w:World){b:Nat}(hb:b<w.heap.size)(c:Array Value)(e:TypeId)(fz:Nat × Nat):(writ w b c e fz).heap[b]? = some (.cells c e fz):=by
 simp [writ,hb]
theorem zKW (w:World){b k:Nat}(hk:k≠b)(c:Array Value)(e:TypeId)(fz:Nat × Nat):(writ w b c e fz).heap[k]? = w.heap[k]? := by
 simp only[writ];rw[Array.getElem?_setIfInBounds_ne (Ne.symm hk)]
theorem zOI (w:World)(b:Nat)(c:Array Value)(e:TypeId)(fz:Nat × Nat):(writ w b c e fz).heap.size=w.heap.size:=by simp [writ]
theorem zX9 (w:World)(b:Nat)(c c':Array Value)(e:TypeId)(fz:Nat × Nat):writ (writ w b c e fz) b c' e fz=writ w b c' e fz:=by simp [writ]
theorem zX8 (h:w.heap[b]? = some (.cells c e fz)):writ w b c e fz=w:=by
 have hb:b<w.heap.size:=by
  have:=Array.getElem?_eq_some_iff.1 h;exact this.1
 have:w.heap.setIfInBounds b (.cells c e fz)=w.heap:=by
  apply Array.ext_getElem?
  intro i
  rw[Array.getElem?_setIfInBounds]
  split
  ·subst_vars;simp [hb];exact(Array.getElem?_eq_some_iff.1 h).2.symm
  ·rfl
 simp [writ,this]
theorem zO7 (h:w.heap[b]? = some (.cells c e fz))(j:Nat)(v:Value):w.setCell ⟨b,j,none⟩ v=writ w b (c.setIfInBounds j v) e fz:=by
 unfold World.setCell writ
 congr 1
 apply Array.ext_getElem?
 intro i
 have hb:b<w.heap.size:=(Array.getElem?_eq_some_iff.1 h).1
 rw[Array.getElem?_modify,Array.getElem?_setIfInBounds]
 by_cases hi:b=i
 ·subst hi;simp [hb,(Array.getElem?_eq_some_iff.1 h).2]
 ·simp [hi]
def oneC (v:Value):Bool:=match v with | .agg _ | .tuple _=>false | _=>true
theorem zO3 (h:w.heap[b]? = some (.cells c e fz)){j:Nat}(hj:j<c.size)(hf:¬ (fz.1<=j/\j<fz.2)){v:Value}(hv:oneC v=true)(m:Mode) :
  (store ⟨b,j,none⟩ v m).run P w = .ok () (writ w b (c.setIfInBounds j v) e fz):=by
 have h':v.oneCell'=true:=by cases v <;> simp_all [oneC,Value.oneCell']
 rw[run_store P w _ v m h',zOM h,Array.getElem?_eq_getElem hj]
 simp only[zUS h hf,zO7 h]
 simp
theorem zG5:∀ (vs:List Value) (w:World) (c:Array Value) (off i:Nat),w.heap[b]? = some (.cells c e fz)->off+i+vs.length<=c.size ->
  (∀ j,off+i<=j->j<off+i+vs.length -> ¬ (fz.1<=j/\j<fz.2))->(∀ v∈vs,oneC v=true) ->
  (storeCells ⟨b,off,none⟩ vs i).run P w = .ok () (writ w b (over c (off+i) vs) e fz):=by
 intro vs
 induction vs with
 | nil=>intro w c off i h _ _ _;simp [storeCells,zRD,zX8 h]
 | cons v vs ih =>
  intro w c off i h hb hf hv
  simp only[List.length_cons] at hb hf
  have hbl:b<w.heap.size:=(Array.getElem?_eq_some_iff.1 h).1
  simp only[storeCells,Sem.run_bind,addr_add]
  rw[zO3 h (by omega) (hf _ (by omega) (by omega)) (hv v (by simp))]
  simp only[Result.andThen_ok]
  rw[ih _ _ off (i+1) (zQ5 w hbl _ _ _) (by simp;omega) (fun j h1 h2=>hf j (by omega) (by omega)) (fun u hu=>hv u (by simp [hu])),zX9]
  rw[show off+(i+1)=off+i+1 by omega,zNW _ _ _ _ (by simp;omega)]
end cells
structure Res (Γ:Glob) (P:Program) (W D:Nat->Prop) (μ:Inj) (M:Mem) (w:World) (r:AV) (M':Mem) (v:Value) (w':World) (μ':Inj):Prop where
 rel:VRel μ' r v
 ext:Ext W μ M.size M.get w μ' M'.size M'.get w'
 on:RelOn Γ P (fun i=>D i∨M.size<=i/\i<M'.size) μ' M'.get w'
def Inj.upd (μ:Inj)(i:Nat)(p:Pl):Inj:=⟨fun j=>if j=i then some p else μ j,μ.f⟩
theorem Inj.upd_m (μ:Inj)(i j:Nat)(p:Pl):(μ.upd i p) j=if j=i then some p else μ j:=rfl
theorem Inj.le_upd {μ:Inj}{i:Nat}{p:Pl}(h:μ i=none):μ.le (μ.upd i p):=⟨fun j q hj=>by
 rw[Inj.upd_m];split
 ·subst_vars;rw[h] at hj;cases hj
 ·exact hj,fun _ _ h=>h⟩
theorem Inj.upd_same (μ:Inj)(i:Nat)(p:Pl):μ.upd i p i=some p:=by simp [Inj.upd]
variable {P : Program} {W D : Nat -> Prop} {μ : Inj} {M M' : Mem} {w w' : World} {r : AV} {v : Value}
theorem RelOn.sub {D D':Nat->Prop}{E:Cont}(R:RelOn Γ P D μ E w)(h:∀ i,D' i->D i):RelOn Γ P D' μ E w :=
 ⟨fun id p hd=>R.ok id p (h id hd),fun i j p q hi hj=>R.ex i j p q (h i hi) (h j hj),R.fz,fun b x i p h1 h2=>R.sep b x i p h1 (h i h2),R.gl⟩
theorem RelOn.drawn {E:Cont}(R:RelOn Γ P D μ E w)(k:Nat):RelOn Γ P D μ E { w with drawn:=k } :=
 ⟨fun id p hd hp=>let ⟨a,obj,b,c⟩:=R.ok id p hd hp; ⟨a,obj,b,c.mono (Inj.le_refl μ) rfl⟩,R.ex,fun b x h=>(R.fz b x h).mono rfl,R.sep,R.gl⟩
theorem Res.val (R:RelOn Γ P D μ M.get w)(hr:VRel μ r v):Res Γ P W D μ M w r M v w μ :=
 ⟨hr,Ext.refl ..,R.sub (fun i h=>h.resolve_right fun⟨a,b⟩=>by omega)⟩
theorem Res.alloc {obj:AObj}{obj':Obj}{id:Nat}(hn:M.new obj=some (id,M'))(hfr:μ M.size=none)(R:RelOn Γ P D μ M.get w)(p:Pl)(hb:p.b=w.heap.size)
  (hw:w'.heap=w.heap.push obj') (ho:w'.os=w.os) (ht:w'.tape=w.tape) (hu:w'.output=w.output)
  (hok:zFU P (μ.upd M.size p) obj p w') (hr:VRel (μ.upd M.size p) r v):Res Γ P W D μ M w r M' v w' (μ.upd M.size p):=by
 obtain⟨rfl,hs,hold,hnew,hwm,hdt⟩:=Mem.new_spec hn
 have hsz:w'.heap.size=w.heap.size+1:=by rw[hw];simp
 have hle:=Inj.le_upd (μ:=μ) (i:=M.size) (p:=p) hfr
 have X:Ext (fun _=>False) μ M.size M.get w (μ.upd M.size p) M'.size M'.get w':=by
  refine⟨hle,fun i q h1 h2=>?_,(fun b x h1 h2=>by have h1:μ.f b=some x:=h1;rw[h2] at h1;cases h1),by omega,by omega,fun b hb' _=>?_,fun i hi _=>hold i hi,fun i hi h=>hold i hi,ho,ht,hu⟩
  ·rw[Inj.upd_m] at h1
   split at h1
   ·subst_vars;cases h1;exact⟨Nat.le_refl _,by omega,.inl (by omega)⟩
   ·rw[h2] at h1;cases h1
  ·rw[hw,Array.getElem?_push,if_neg (by omega)]
 refine⟨hr,X.mono fun _ h=>h.elim, ?_⟩
 refine R.extend (W:=fun _=>False) (fun _ h=>h.elim) (fun _ _ h=>h.elim) X (fun _ _ h=>h.elim) (fun i _ hD _ hn' _=>?_) (fun _ _ _ _=>rfl) ?_ (fun i h1 h2=>?_)
 ·by_cases hi:i<M.size
  ·exact hold i hi
  ·by_cases h2:i<M'.size
   ·exact absurd ⟨by omega,h2⟩ hn'
   ·rw[show M.get i=none by
     cases hg:M.get i with
     | none=>rfl
     | some o=>exact absurd (Mem.get_lt hg) hi]
    cases hg:M'.get i with
    | none=>rfl
    | some o=>exact absurd (Mem.get_lt hg) h2
 ·constructor
  ·intro i q hi hq
   have hi':i=M.size:=by have:=hi.resolve_left (fun h=>h);omega
   subst hi'
   rw[Inj.upd_same] at hq;cases hq
   exact⟨by omega,obj,hnew,hok⟩
  ·intro i j _ _ hi hj _ _ _ _ _
   have:=hi.resolve_left (fun h=>h)
   have:=hj.resolve_left (fun h=>h)
   omega
  ·intro b x hx
   have:=(R.fz b x hx).lt
   exact(R.fz b x hx).mono (by rw[hw,Array.getElem?_push,if_neg (by omega)])
  ·intro b x i q hx hi hq _
   have hi':i=M.size:=by have:=hi.resolve_left (fun h=>h);omega
   subst hi'
   rw[Inj.upd_same] at hq;cases hq
   have:=(R.fz b x hx).lt
   omega
  ·exact R.gl
 ·have:i=M.size:=by omega
  subst this;exact hfr
theorem Res.write {obj:AObj}{id:Nat}(hput:M.put id obj=some M'){p:Pl}(hid:μ id=some p)(hD:D id)(hW:W id)(R:RelOn Γ P D μ M.get w)(hlive:live M.get id)
  (hs:w'.heap.size=w.heap.size) (hw:∀ k,k≠p.b->w'.heap[k]? = w.heap[k]?) (ho:w'.os=w.os) (ht:w'.tape=w.tape) (hu:w'.output=w.output)
  (hok:zFU P μ obj p w') (hr:VRel μ r v):Res Γ P W D μ M w r M' v w' μ:=by
 obtain⟨hlt,hsz,hget,hwm,hdt⟩:=Mem.put_spec hput
 have X:Ext (fun i=>i=id) μ M.size M.get w μ M'.size M'.get w':=by
  refine⟨Inj.le_refl μ,fun i q h1 h2=>(by rw[h1] at h2;cases h2),(fun b x h1 h2=>by rw[h1] at h2;cases h2),by omega,by omega,fun b hb' hf=>?_,fun i hi hn=>by rw[hget,if_neg hn],fun i hi h=>?_,ho,ht,hu⟩
  ·exact hw b fun e=>hf id p rfl hlt hid hlive e.symm
  ·rw[hget,if_neg (fun (e:i=id)=>h (e ▸ hlive))]
 refine⟨hr,X.mono fun i h=>h ▸ hW, ?_⟩
 ·refine R.extend (W:=fun i=>i=id) (fun i h=>h ▸ hlt) (fun i _ h _=>h ▸ hD) X (fun _ _ _ _=>rfl) (fun i _ _ h _ _=>by rw[hget,if_neg h]) (fun _ _ _ _=>rfl) ?_ (fun i h1 h2=>by omega)
  constructor
  ·intro i q hi hq
   have hi':i=id:=hi.resolve_right fun⟨a,b⟩=>by omega
   subst hi'
   rw[hid] at hq;cases hq
   exact⟨by rw[hs];exact(R.ok i p hD hid).1,obj,by rw[hget,if_pos rfl],hok⟩
  ·intro i j _ _ hi hj _ _ _ _ _
   have hi':i=id:=hi.resolve_right fun⟨a,b⟩=>by omega
   have hj':j=id:=hj.resolve_right fun⟨a,b⟩=>by omega
   omega
  ·intro b x hx
   exact(R.fz b x hx).mono (hw b fun e=>R.sep b x id p hx hD hid hlive e.symm)
  ·intro b x i q hx hi hq _
   have hi':i=id:=hi.resolve_right fun⟨a,b⟩=>by omega
   subst hi'
   rw[hid] at hq;cases hq
   exact R.sep b x _ _ hx hD hid hlive
  ·exact R.gl
theorem Res.move {obj:AObj}{id id':Nat}{M1:Mem}(hput:M.put id .dead=some M1)(hn:M1.new obj=some (id',M'))(hfr:μ M.size=none){p:Pl}(hid:μ id=some p)(hD:D id)(hW:W id)
  (R:RelOn Γ P D μ M.get w) (hlive:live M.get id) (q:Pl) (hq:(q.b=p.b/\w'.heap.size=w.heap.size)∨(q.b=w.heap.size/\w'.heap.size=w.heap.size+1))
  (hw:∀ k,k<w.heap.size->k≠p.b->w'.heap[k]? = w.heap[k]?) (ho:w'.os=w.os) (ht:w'.tape=w.tape) (hu:w'.output=w.output)
  (hok:zFU P (μ.upd M.size q) obj q w') (hr:VRel (μ.upd M.size q) r v):Res Γ P W D μ M w r M' v w' (μ.upd M.size q):=by
 obtain⟨hlt,hsz,hget,hwm,hdt⟩:=Mem.put_spec hput
 obtain⟨rfl,hs,hold,hnew,hwm',hdt'⟩:=Mem.new_spec hn
 rw[hsz] at hs hold hnew
 have hle:=Inj.le_upd (μ:=μ) (i:=M.size) (p:=q) hfr
 have hpb:=(R.ok id p hD hid).1
 have X:Ext (fun i=>i=id) μ M.size M.get w (μ.upd M.size q) M'.size M'.get w':=by
  refine⟨hle,fun i q' h1 h2=>?_,(fun b x h1 h2=>by have h1:μ.f b=some x:=h1;rw[h2] at h1;cases h1),by omega,by omega,fun b hb' hf=>?_,fun i hi hn=>by rw[hold i hi,hget,if_neg hn],fun i hi h=>?_,ho,ht,hu⟩
  ·rw[Inj.upd_m] at h1
   split at h1
   ·subst_vars;cases h1
    refine⟨Nat.le_refl _,by omega, ?_⟩
    rcases hq with⟨hq,_⟩ | ⟨hq,_⟩
    ·exact .inr ⟨id,p,rfl,hlt,hid,hq.symm,hlive,zFA (o:=.dead) (by rw[hold id hlt,hget,if_pos rfl]) rfl⟩
    ·exact .inl (by omega)
   ·rw[h2] at h1;cases h1
  ·exact hw b hb' fun e=>hf id p rfl hlt hid hlive e.symm
  ·rw[hold i hi,hget,if_neg (fun (e:i=id)=>h (e ▸ hlive))]
 refine⟨hr,X.mono fun i h=>h ▸ hW, ?_⟩
 ·refine R.extend (W:=fun i=>i=id) (fun i h=>h ▸ hlt) (fun i _ h _=>h ▸ hD) X (fun _ _ _ _=>rfl) (fun i _ hD' h hn' _=>?_) (fun _ _ _ _=>rfl) ?_ (fun i h1 h2=>?_)
  ·by_cases hi:i<M.size
   ·rw[hold i hi,hget,if_neg h]
   ·rw[show M.get i=none by
     cases hg:M.get i with
     | none=>rfl
     | some o=>exact absurd (Mem.get_lt hg) hi]
    cases hg:M'.get i with
    | none=>rfl
    | some o=>exact absurd ⟨by omega,Mem.get_lt hg⟩ hn'
  ·constructor
   ·intro i q' hi hq'
    by_cases hi':i=id
    ·subst hi'
     have:=hle i p hid
     rw[hq'] at this;cases this
     exact⟨by omega,.dead,by rw[hold i hlt,hget,if_pos rfl],trivial⟩
    ·have:i=M.size:=by have:=hi.resolve_left hi';omega
     subst this
     rw[Inj.upd_same] at hq';cases hq'
     exact⟨by omega,obj,hnew,hok⟩
   ·intro i j _ _ hi hj _ _ hli hlj _
    have ne:∀ k,(k=id∨M.size<=k/\k<M'.size)->live M'.get k->k=M.size:=fun k hk hl=>by
     rcases hk with rfl | hk
     ·exact absurd hl (zFA (o:=.dead) (by rw[hold k hlt,hget,if_pos rfl]) rfl)
     ·omega
    rw[ne i hi hli,ne j hj hlj]
   ·intro b x hx
    have hb:=(R.fz b x hx).lt
    exact(R.fz b x hx).mono (hw b hb fun e=>R.sep b x id p hx hD hid hlive e.symm)
   ·intro b x i q' hx hi hq' hli
    have hi':i=M.size:=by
     rcases hi with rfl | hi
     ·exact absurd hli (zFA (o:=.dead) (by rw[hold i hlt,hget,if_pos rfl]) rfl)
     ·omega
    subst hi'
    rw[Inj.upd_same] at hq';cases hq'
    have hb:=(R.fz b x hx).lt
    rcases hq with⟨hq,_⟩ | ⟨hq,_⟩
    ·rw[hq];exact R.sep b x id p hx hD hid hlive
    ·omega
   ·exact R.gl
  ·have:i=M.size:=by omega
   subst this;exact hfr
section types
variable {t : TypeId}
theorem run_underlying {d:TypeDesc}(h:P.underlying t=some d):(underlying t).run P w = .ok d w:=by
 simp [underlying,h]
theorem run_sizeOf {n:Nat}(h:szOf P t=some n):(sizeOf t).run P w = .ok n w:=by
 unfold szOf at h
 cases hi:P.info? t with
 | none=>simp [hi] at h
 | some i=>simp [hi] at h;simp [sizeOf,typeInfo,hi,h]
theorem zBT {z:Value}(h:zeroOf P t=some z):(zeroValue t).run P w = .ok z w:=by
 unfold zeroOf at h
 cases hi:P.info? t with
 | none=>simp [hi] at h
 | some i=>simp [hi] at h;simp [zeroValue,typeInfo,hi,h]
theorem run_typeInfo {i:TypeInfo}(h:P.info? t=some i):(typeInfo t).run P w = .ok i w:=by
 simp [typeInfo,h]
theorem zJT {b:Bool}(h:zG7 P t=some b):(isAgg t).run P w = .ok b w:=by
 unfold zG7 at h
 cases hd:P.underlying t with
 | none=>simp [hd] at h
 | some d=>cases d <;> simp [hd] at h <;> subst h <;> simp [isAgg,run_underlying hd]
end types
def zAN (Γ:Glob)(P:Program)(o:Oper)(W D:Nat->Prop)(a:Act)(μ:Inj)(M:Mem)(w:World)(r:AV)(M':Mem):Prop :=
 ∃ v w' μ',((execOp a.eval o).run P w = .ok (.value v) w'∨((execOp a.eval o).run P w = .ok .skip w'/\v=undef))/\Res Γ P W D μ M w r M' v w' μ'
variable {t : List AV} {a : Act} {o : Oper}
theorem zAN.val (R:RelOn Γ P D μ M.get w){v:Value}(hr:VRel μ r v)(h:(execOp a.eval o).run P w = .ok (.value v) w):zAN Γ P o W D a μ M w r M :=
 ⟨v,w,μ,.inl h,.val R hr⟩
theorem zI1 (R:RelOn Γ P D μ M.get w)(H:∀ x∈o.op.operands,VRel μ (zA5 t x) (a.eval x))(hs:∀ cs b,o.op ≠ .select cs b)(h:zB9 P t o=some r):zAN Γ P o W D a μ M w r M:=by
 unfold zB9 at h
 split at h
 ·rename_i hall
  rw[List.all_eq_true] at hall
  cases hp:zAG P (execOp (fun x=>(zAZ (zA5 t x)).getD undef) o) with
  | none=>simp [hp] at h
  | some nx =>
   have e:execOp a.eval o=execOp (fun x=>(zAZ (zA5 t x)).getD undef) o:=execOp_congr o hs fun x hx=>by
    have h1:=hall x (by simpa using hx)
    cases hv:zAZ (zA5 t x) with
    | none=>simp [hv] at h1
    | some u=>exact zEM (H x hx) hv
   cases nx with
   | value v =>
    simp [hp] at h;subst h
    exact .val R (.sc v) (by rw[e];exact zD1 hp w)
   | _=>simp [hp] at h
 ·cases h
theorem zbS {x:Operand}(ho:o.op = .move x∨o.op = .assign x)(R:RelOn Γ P D μ M.get w)(H:VRel μ (zA5 t x) (a.eval x)):zAN Γ P o W D a μ M w (zA5 t x) M :=
 .val R H (by rcases ho with ho | ho <;> simp [execOp,ho])
theorem zCS {u v:Value}(h:VRel μ (.sc u) v):v=u:=by cases h;rfl
theorem zdY {c x y:Operand}(ho:o.op = .pick c x y)(R:RelOn Γ P D μ M.get w)(Hc:VRel μ (zA5 t c) (a.eval c))(Hx:VRel μ (zA5 t x) (a.eval x))(Hy:VRel μ (zA5 t y) (a.eval y))
  {call:Tg->List AV->Mem->Option (AV × Mem)} (h:zA6 P call t M (.pick c x y)=some (r,M')):zAN Γ P o W D a μ M w r M':=by
 simp only[zA6] at h
 split at h
 ·rename_i hc
  rw[hc] at Hc;cases h
  exact .val R Hx (by simp [execOp,ho,zCS Hc,asBool])
 ·rename_i hc
  rw[hc] at Hc;cases h
  exact .val R Hy (by simp [execOp,ho,zCS Hc,asBool])
 ·cases h
theorem zRO {cs:List AV}{vs:List Value}(h:VRels μ cs vs)(off n:Nat):VRels μ (slot cs off n) ((vs.drop off).take n):=(h.drop off).take n
theorem zER {α:Type}(l:List α)(off n:Nat)(h:off+n<=l.length):(slot l off n).length=n:=by simp [slot];omega
theorem zML {cs:List AV}{c:Array Value}{p:Pl}(h:VRels μ cs ((c.toList.drop p.o).take p.L))(hL:cs.length=p.L){off n:Nat}(hn:off+n<=cs.length) :
  VRels μ (slot cs off n) (c.extract (p.o+off) (p.o+off+n)).toList:=by
 have:=zRO h off n
 rw[List.drop_take,List.take_take,List.drop_drop] at this
 rw[Array.toList_extract,List.extract_eq_take_drop]
 rw[show min n (p.L - off)=n by omega] at this
 rw[show p.o+off+n - (p.o+off)=n by omega]
 exact this
theorem zNY {cs:List AV}{vs:List Value}(h:VRels μ cs vs){off n:Nat}{ag:Bool}{x:AV}(hp:part cs off n ag=some x) :
  off+n<=cs.length/\(ag=true -> ∃ l,x = .agg l/\VRels μ l ((vs.drop off).take n))/\(ag=false -> ∃ v,(vs.drop off).take n=[v]/\VRel μ x v):=by
 unfold part at hp
 split at hp
 ·rename_i hb
  have hb:=Nat.le_of_ble_eq_true hb
  have hs:=zRO h off n
  refine⟨hb,fun e=>?_,fun e=>?_⟩
  ·subst e;simp at hp;subst hp;exact⟨_,rfl,hs⟩
  ·subst e
   simp only at hp
   split at hp
   ·rename_i y hy
    cases hp
    rw[hy] at hs
    cases hv:(vs.drop off).take n with
    | nil=>rw[hv] at hs;cases hs
    | cons v l =>
     rw[hv] at hs
     cases hs with
     | cons a b=>cases b;exact⟨v,rfl,a⟩
   ·cases hp
 ·cases hp
theorem zEY {vs:List Value}{off n:Nat}{v:Value}(h:(vs.drop off).take n=[v]):vs[off]? = some v:=by
 cases n with
 | zero=>simp at h
 | succ n =>
  cases hd:vs.drop off with
  | nil=>simp [hd] at h
  | cons u l =>
   rw[hd] at h
   simp at h
   have:vs[off]? = (vs.drop off)[0]? := by simp
   rw[this,hd,h.1];rfl
theorem zWH {cs:List AV}{c:Array Value}{p:Pl}(h:VRels μ cs ((c.toList.drop p.o).take p.L))(hL:cs.length=p.L)(hsz:p.o+p.L<=c.size){off:Nat}{new:List AV}{vs:List Value}(hn:VRels μ new vs)
  (hb:off+new.length<=cs.length):VRels μ (lay cs off new) (((over c (p.o+off) vs).toList.drop p.o).take p.L):=by
 have hlv:=hn.length
 have e:((over c (p.o+off) vs).toList.drop p.o).take p.L=((c.toList.drop p.o).take p.L).take off++vs++((c.toList.drop p.o).take p.L).drop (off+vs.length):=by
  have h2:c.toList.length=c.size:=by simp
  unfold over
  apply List.ext_getElem?
  intro i
  simp only[List.getElem?_take,List.getElem?_drop,List.getElem?_append,List.length_append,List.length_take,List.length_drop,h2]
  by_cases h1:i<p.L
  ·by_cases h3:i<off
   ·rw[if_pos h1,if_pos (by omega),if_pos (by omega),if_pos (by omega),if_pos (by omega),if_pos h3,if_pos h1]
    rw[if_pos (by omega)]
   ·by_cases h4:i<off+vs.length
    ·rw[if_pos h1,if_pos (by omega),if_neg (by omega),if_pos (by omega),if_neg (by omega)]
     congr 1;omega
    ·rw[if_pos h1,if_neg (by omega),if_neg (by omega),if_pos (by omega)]
     congr 1;omega
  ·rw[if_neg h1]
   by_cases h4:i<off+vs.length
   ·omega
   ·rw[if_neg (by omega),if_neg (by omega)]
 rw[e]
 unfold lay
 rw[hlv]
 exact((h.take off).append hn).append (h.drop _)
theorem zKI (cs:List AV)(off:Nat)(new:List AV)(h:off+new.length<=cs.length):(lay cs off new).length=cs.length:=by simp [lay];omega
theorem row_of {id:Nat}{p:Pl}{str:Bool}{cs:List AV}(R:RelOn Γ P D μ M.get w)(hD:D id)(hp:μ id=some p)(hg:M.get id=some (.row str cs)) :
  ∃ c e fz,w.heap[p.b]? = some (.cells c e fz)/\c.size=p.sz/\cs.length=p.L/\p.o+p.L<=p.sz /\
   VRels μ cs ((c.toList.drop p.o).take p.L)/\(∀ j,j<p.sz -> ¬ (fz.1<=j/\j<fz.2))/\(str=false->fz.1=fz.2):=by
 obtain⟨_,obj,h1,h2⟩:=R.ok id p hD hp
 rw[hg] at h1;cases h1;exact h2
theorem zMI {id:Nat}{cs:List AV}(hg:M.rd id=some cs):id<M.size:=by
 unfold Mem.rd at hg
 split at hg
 ·rename_i h;exact Mem.get_lt h
 ·rename_i h;exact Mem.get_lt h
 ·cases hg
theorem zC4 {id:Nat}{str:Bool}{cs:List AV}(hg:M.get id=some (.row str cs)):M.rd id=some cs:=by unfold Mem.rd;rw[hg]
theorem zMJ {id:Nat}{p:Pl}{cs:List AV}(R:RelOn Γ P D μ M.get w)(hD:D id)(hp:μ id=some p)(hg:M.rd id=some cs) :
  ∃ c e fz,w.heap[p.b]? = some (.cells c e fz)/\c.size=p.sz/\cs.length=p.L/\p.o+p.L<=p.sz/\VRels μ cs ((c.toList.drop p.o).take p.L):=by
 unfold Mem.rd at hg
 split at hg
 ·rename_i h
  cases hg
  obtain⟨c,e,fz,h1,h2,h3,h4,h5,_⟩:=row_of R hD hp h
  exact⟨c,e,fz,h1,h2,h3,h4,h5⟩
 ·rename_i h
  cases hg
  obtain⟨_,obj,h1,h2⟩:=R.ok id p hD hp
  rw[h] at h1;cases h1
  obtain⟨c,e,fz,h3,h4⟩:=h2
  exact⟨c,e,fz,R.fz _ _ h3,h4⟩
 ·cases hg
theorem zGG {ty:TypeId}{n:Nat}{ag:Bool}(hz:szOf P ty=some n)(ha:zG7 P ty=some ag){b:Nat}{c:Array Value}{e:TypeId}{fz:Nat × Nat}
  (hb:w.heap[b]? = some (.cells c e fz)) {off:Nat} (ho:off+n<=c.size) (h1:ag=false->n=1) :
  (loadVar ty ⟨b,off,none⟩).run P w = .ok (if ag then .agg (c.extract off (off+n)) else c.getD off undef) w:=by
 unfold loadVar
 simp only[Sem.run_bind,zJT ha,Result.andThen_ok]
 cases ag with
 | true=>simp [run_sizeOf hz,run_loadCells hb off n ho]
 | false =>
  have h1:=h1 rfl
  simp only[Bool.false_eq_true,if_false]
  rw[zJU hb (v:=c.getD off undef) (by rw[Array.getD_eq_getD_getElem?,Array.getElem?_eq_getElem (by omega)];rfl)]
theorem zMD {cs:List AV}{c:Array Value}{p:Pl}(h:VRels μ cs ((c.toList.drop p.o).take p.L))(hL:cs.length=p.L){off n:Nat}{ag:Bool}{x:AV}(hp:part cs off n ag=some x) :
  off+n<=p.L/\(ag=false->n=1)/\VRel μ x (if ag then .agg (c.extract (p.o+off) (p.o+off+n)) else c.getD (p.o+off) undef):=by
 obtain⟨h1,h2,h3⟩:=zNY h hp
 have e:(((c.toList.drop p.o).take p.L).drop off).take n=(c.toList.drop (p.o+off)).take n:=by
  rw[List.drop_take,List.take_take,List.drop_drop,show min n (p.L - off)=n by omega]
 rw[e] at h2 h3
 refine⟨by omega,fun e=>?_, ?_⟩
 ·unfold part at hp
  subst e
  split at hp
  ·dsimp only at hp
   split at hp
   ·rename_i y hy
    have:=congrArg List.length hy
    rw[zER _ _ _ (by omega)] at this
    simpa using this
   ·cases hp
  ·cases hp
 ·cases ag with
  | true =>
   obtain⟨l,rfl,hl⟩:=h2 rfl
   refine .agg ?_
   rw[Array.toList_extract,List.extract_eq_take_drop,show p.o+off+n - (p.o+off)=n by omega]
   exact hl
  | false =>
   obtain⟨v,hv,hr⟩:=h3 rfl
   have:=zEY hv
   rw[Array.getElem?_toList] at this
   simp only[Bool.false_eq_true,if_false,Array.getD_eq_getD_getElem?,this]
   exact hr
theorem zFF {id off:Nat}{v:Value}(h:VRel μ (.ptr id off) v):∃ p,μ id=some p/\v = .pointer (some ⟨p.b,p.o+off,none⟩):=by
 cases h with
 | ptr e=>exact⟨_,e,rfl⟩
def zTC (μ:Inj)(w:World)(b o:Nat)(cs:List AV):Prop :=
 ∃ c e fz,w.heap[b]? = some (.cells c e fz)/\o+cs.length<=c.size/\VRels μ cs ((c.toList.drop o).take cs.length)
theorem zGU {E:Cont}{b o:Nat}{cs:List AV}{c:Array Value}{e:TypeId}{r:Nat × Nat}(R:RelOn Γ P D μ E w)(h:μ.f b=some (.cells c e r))(hk:o+cs.length<=c.size)(hs:FRels μ.f cs ((c.toList.drop o).take cs.length)):zTC μ w b o cs :=
 ⟨c,e,r,R.fz b _ h,hk,hs.v⟩
theorem zb1 {E:Cont}{cs:List AV}{off:Nat}{v:Value}(R:RelOn Γ P D μ E w)(h:VRel μ (.cp cs off) v):∃ b o,v = .pointer (some ⟨b,o+off,none⟩)/\zTC μ w b o cs:=by
 cases h with
 | cp h1 h2 h3=>exact⟨_,_,rfl,zGU R h1 h2 h3⟩
theorem zKQ {E:Cont}{cs:List AV}{len st:Nat}{cap:Option Nat}{v:Value}(R:RelOn Γ P D μ E w)(h:VRel μ (.pv cs len cap st) v) :
  ∃ a c',v = .slice (some a) len c'/\len<=c'/\(∀ c,cap=some c->c'=c)/\cs.length=len*st/\(cs=[]/\len=0∨a.spot=none/\zTC μ w a.block a.off cs):=by
 cases h with
 | pv h1 h2 h3 h4 h5 h6=>exact⟨_,_,rfl,h5,h6,h4,.inr ⟨rfl,zGU R h1 h2 h3⟩⟩
 | pv0 h=>exact⟨_,_,rfl,Nat.zero_le _,h,by simp,.inl ⟨rfl,rfl⟩⟩
theorem zdU {ty:TypeId}{x:Operand}{n:Nat}{ag:Bool}(ho:o.op = .load ty x)(hz:szOf P ty=some n)(ha:zG7 P ty=some ag)(R:RelOn Γ P D μ M.get w)
  (H:VRel μ (zA5 t x) (a.eval x)) (hD:∀ i∈rowsOf (zA5 t x),D i)
  {call:Tg->List AV->Mem->Option (AV × Mem)} (h:zA6 P call t M (.load n ag x)=some (r,M')):zAN Γ P o W D a μ M w r M':=by
 simp only[zA6] at h
 split at h
 ·rename_i id off hx
  rw[hx] at H hD
  obtain⟨p,hp,hv⟩:=zFF H
  split at h
  ·rename_i cs hg
   split at h
   ·rename_i v hv'
    cases h
    obtain⟨c,e,fz,h1,h2,h3,h4,h5⟩:=zMJ R (hD id (by simp [rowsOf])) hp hg
    obtain⟨k1,k2,k3⟩:=zMD h5 h3 hv'
    refine .val R k3 ?_
    simp only[execOp,ho,hv,Instr.loadAt,Instr.sureAddr]
    simp [zGG hz ha h1 (show p.o+off+n<=c.size by omega) k2]
   ·cases h
  ·cases h
 ·rename_i cs off hx
  rw[hx] at H
  obtain⟨b,o',hv,c,e,fz,h1,h2,h3⟩:=zb1 R H
  split at h
  ·rename_i v hv'
   cases h
   obtain⟨k1,k2,k3⟩:=zMD (p:=⟨b,o',cs.length,0⟩) h3 rfl hv'
   refine .val R k3 ?_
   simp only[execOp,ho,hv,Instr.loadAt,Instr.sureAddr]
   have k1:off+n<=cs.length:=k1
   simp [zGG hz ha h1 (show o'+off+n<=c.size by omega) k2]
  ·cases h
 ·cases h
variable {call : Tg->List AV->Mem->Option (AV × Mem)}
theorem zZP {x:AV}{v:Value}(h:VRel μ x v)(hx:oneA x=true):oneC v=true:=by
 cases h with
 | sc v=>cases v <;> simp_all [oneA,oneC]
 | agg _=>simp [oneA] at hx
 | tup _=>simp [oneA] at hx
 | _=>rfl
theorem zJD:∀ {l:List AV} {vs:List Value},VRels μ l vs->l.all oneA=true -> ∀ v∈vs,oneC v=true
 | _,_,.nil,_,v,hv=>by simp at hv
 | _,_,.cons a b,h,v,hv=>by
  simp at h
  rcases List.mem_cons.1 hv with rfl | hv
  ·exact zZP a h.1
  ·exact zJD b (by simpa using h.2) v hv
theorem Res.cells {id:Nat}{p:Pl}{str:Bool}{cs new:List AV}{off:Nat}{vs:List Value}(R:RelOn Γ P D μ M.get w)(hp:μ id=some p)(hD:D id)(hW:W id)
  (hg:M.get id=some (.row str cs)) (hn:VRels μ new vs) (hone:new.all oneA=true) (hb:off+new.length<=cs.length) (hput:M.put id (.row str (lay cs off new))=some M') {v:Value} (hr:VRel μ r v) :
  ∃ w',(storeCells ⟨p.b,p.o+off,none⟩ vs).run P w = .ok () w'/\Res Γ P W D μ M w r M' v w' μ:=by
 obtain⟨c,e,fz,h1,h2,h3,h4,h5,h6,h7⟩:=row_of R hD hp hg
 have hlv:=hn.length
 have hbl:p.b<w.heap.size:=(R.ok id p hD hp).1
 refine⟨writ w p.b (over c (p.o+off) vs) e fz, ?_, ?_⟩
 ·have:=zG5 (P:=P) vs w c (p.o+off) 0 h1 (by omega) (fun j k1 k2=>h6 j (by omega)) (zJD hn hone)
  simpa using this
 ·refine Res.write hput hp hD hW R (zCH hg rfl) (zOI ..) (fun k hk=>zKW w hk _ _ _) rfl rfl rfl ?_ hr
  exact⟨_,e,fz,zQ5 w hbl _ _ _,(by rw[zNX _ _ _ (by omega)];exact h2),(by rw[zKI _ _ _ hb];exact h3),h4,zWH h5 h3 (by omega) hn hb,h6,h7⟩
theorem zZU {ty:TypeId}{x y:Operand}{n:Nat}(ho:o.op = .store ty x y)(hz:szOf P ty=some n)(R:RelOn Γ P D μ M.get w)
  (H:VRel μ (zA5 t x) (a.eval x)) (Hy:VRel μ (zA5 t y) (a.eval y)) (hD:∀ i∈rowsOf (zA5 t x),D i) (hW:∀ i∈rowsOf (zA5 t x),W i)
  (h:zA6 P call t M (.store n x y)=some (r,M')):zAN Γ P o W D a μ M w r M':=by
 simp only[zA6] at h
 split at h
 ·rename_i id off hx
  rw[hx] at H hD hW
  obtain⟨p,hp,hv⟩:=zFF H
  split at h
  ·rename_i str cs hg
   split at h
   ·rename_i hc
    simp only[Bool.and_eq_true] at hc
    obtain⟨⟨hc1,hc2⟩,hc3⟩:=hc
    have hc1:=Nat.eq_of_beq_eq_true hc1
    have hc2:=Nat.le_of_ble_eq_true hc2
    split at h
    ·rename_i M1 hput
     cases h
     have hcr:=zIQ Hy
     obtain⟨w',hw',hres⟩:=Res.cells (r:=zA3) (v:=undef) R hp (hD id (by simp [rowsOf])) (hW id (by simp [rowsOf])) hg hcr hc3 (by omega) hput (.sc _)
     refine⟨undef,w',μ,.inr ⟨?_,rfl⟩,hres⟩
     have hl:=hcr.length
     simp only[execOp,ho,hv,Instr.storeAt,Instr.sureAddr,storeVar]
     have hsz:(a.eval y).cells.size=n:=by simpa [hc1] using hl
     simp [run_sizeOf hz,hsz,hw']
    ·cases h
   ·cases h
  ·cases h
 ·cases h
theorem zKK {str:Bool}{cs:List AV}{c:Array Value}{e:TypeId}{id:Nat}{w':World}(hn:M.new (.row str cs)=some (id,M'))(hfr:μ M.size=none)(R:RelOn Γ P D μ M.get w)
  (hc:VRels μ cs (c.toList.take cs.length)) (hl:cs.length<=c.size) (fz:Nat × Nat) (hfz:∀ j,j<c.size -> ¬ (fz.1<=j/\j<fz.2)) (hfz':str=false->fz.1=fz.2)
  (hw:w'.heap=w.heap.push (.cells c e fz)) (ho:w'.os=w.os) (ht:w'.tape=w.tape) (hu:w'.output=w.output) {v:Value}
  (hr:VRel (μ.upd M.size ⟨w.heap.size,0,cs.length,c.size⟩) r v):Res Γ P W D μ M w r M' v w' (μ.upd M.size ⟨w.heap.size,0,cs.length,c.size⟩):=by
 refine Res.alloc hn hfr R _ rfl hw ho ht hu ?_ hr
 refine⟨c,e,fz,by rw[hw];simp,rfl,rfl,by simpa using hl, ?_,hfz,hfz'⟩
 simpa using hc.mono (Inj.le_upd hfr)
theorem zJ7 {cs:List AV}{c:Array Value}{e:TypeId}{id:Nat}(hn:M.new (.row false cs)=some (id,M'))(hfr:μ M.size=none)(R:RelOn Γ P D μ M.get w)
  (hc:VRels μ cs c.toList) (hx:(execOp a.eval o).run P w = .ok (.value (.pointer (some ⟨w.heap.size,0,none⟩))) { w with heap:=w.heap.push (.cells c e) }) :
  zAN Γ P o W D a μ M w (.ptr id 0) M':=by
 have hl:=hc.length
 obtain⟨rfl,_⟩:=Mem.new_spec hn
 refine⟨_,_,_,.inl hx,zKK (e:=e) (w':={ w with heap:=w.heap.push (.cells c e) }) hn hfr R (by rw[<- hl,List.take_length];exact hc) (by simp at hl;omega) (0,0) (fun _ _ h=>by simp at h) (fun _=>rfl) rfl rfl rfl rfl ?_⟩
 exact .ptr (p:=⟨w.heap.size,0,cs.length,c.size⟩) (Inj.upd_same ..)
theorem zZR {e:TypeId}{z:Value}(ho:o.op = .alloc e)(hz:zeroOf P e=some z)(R:RelOn Γ P D μ M.get w)(hfr:M.size<M'.size->μ M.size=none)
  (h:zA6 P call t M (.alloc e z)=some (r,M')):zAN Γ P o W D a μ M w r M':=by
 simp only[zA6] at h
 split at h
 ·rename_i id M1 hn
  cases h
  refine zJ7 (c:=z.cells) (e:=e) hn (hfr (by have:=(Mem.new_spec hn).2.1;omega)) R (zPX μ z) ?_
  simp [execOp,ho,Instr.alloc,zBT hz,newVar,newRow]
 ·cases h
theorem zgX {e:TypeId}{x:Operand}(ho:o.op = .box e x)(R:RelOn Γ P D μ M.get w)(hfr:M.size<M'.size->μ M.size=none)(H:VRel μ (zA5 t x) (a.eval x))
  (h:zA6 P call t M (.box e x)=some (r,M')):zAN Γ P o W D a μ M w r M':=by
 simp only[zA6] at h
 split at h
 ·rename_i id M1 hn
  cases h
  refine zJ7 (c:=(a.eval x).cells) (e:=e) hn (hfr (by have:=(Mem.new_spec hn).2.1;omega)) R (zIQ H) ?_
  simp [execOp,ho,Instr.box,newVar,newRow]
 ·cases h
theorem zSO (vs:List Value):∀ (c:Array Value) (off i:Nat),off+i+vs.length<=c.size ->
  (vs.zipIdx i).foldl (fun cs (x:Value × Nat)=>cs.setIfInBounds (off+x.2) x.1) c=over c (off+i) vs:=by
 induction vs with
 | nil=>intro c off i _;simp [zRD]
 | cons v vs ih =>
  intro c off i h
  simp only[List.length_cons] at h
  simp only[List.zipIdx_cons,List.foldl_cons]
  rw[ih _ off (i+1) (by simp;omega),show off+(i+1)=off+i+1 by omega,zNW _ _ _ _ (by simp;omega)]
theorem zGL (v:Array Value)(c:Array Value)(off:Nat)(h:off+v.size<=c.size) :
  v.zipIdx.foldl (fun cs (x:Value × Nat)=>cs.setIfInBounds (off+x.2) x.1) c=over c off v.toList:=by
 rw[<- Array.foldl_toList,Array.toList_zipIdx]
 have:=zSO v.toList c off 0 (by simpa using h)
 simpa using this
theorem zLG {place:Nat->Option (Nat × Nat)}:∀ (qs:List (Nat × Operand)) (ps:List (Nat × Nat × Operand)) (cs:List AV) (cs':List AV) (c:Array Value),
  qs.length=ps.length->(∀ (j:Nat) i x off n y,qs[j]? = some (i,x)->ps[j]? = some (off,n,y)->place i=some (off,n)/\y=x)->(∀ q∈qs,VRel μ (zA5 t q.2) (a.eval q.2)) ->
  VRels μ cs c.toList->zAB t cs ps=some cs' -> ∃ c',Instr.fill place c (qs.map fun q=>(q.1,a.eval q.2))=some c'/\VRels μ cs' c'.toList:=by
 intro qs
 induction qs with
 | nil =>
  intro ps cs cs' c hl _ _ hr h
  cases ps with
  | nil=>simp [zAB] at h;subst h;exact⟨c,rfl,hr⟩
  | cons _ _=>simp at hl
 | cons q qs ih =>
  intro ps cs cs' c hl hp hq hr h
  cases ps with
  | nil=>simp at hl
  | cons p ps =>
   obtain⟨i,x⟩:=q
   obtain⟨off,n,y⟩:=p
   obtain⟨hpl,rfl⟩:=hp 0 i x off n y rfl rfl
   simp only[zAB] at h
   split at h
   ·rename_i hc
    simp only[Bool.and_eq_true,beq_iff_eq] at hc
    have hc2:=Nat.le_of_ble_eq_true hc.2
    have hx:VRel μ (zA5 t y) (a.eval y):=hq (i,y) (by simp)
    have hcr:=zIQ hx
    have hcl:=hcr.length
    simp only[Array.length_toList] at hcl
    have hrl:=hr.length
    simp only[Array.length_toList] at hrl
    have hr':VRels μ (lay cs off (cellsA (zA5 t y))) (over c off (a.eval y).cells.toList).toList:=by
     have:=zWH (p:=⟨0,0,cs.length,c.size⟩) (cs:=cs) (c:=c) (μ:=μ) (by simp [<- hrl];rw[show c.size=c.toList.length by simp,List.take_length];exact hr) rfl (by simp;omega) (off:=off) hcr (by omega)
     simp only[Nat.zero_add,List.drop_zero] at this
     rwa [List.take_of_length_le (by simp [over];omega)] at this
    obtain⟨c',h1,h2⟩:=ih ps _ cs' (over c off (a.eval y).cells.toList) (by simpa using hl) (fun j i x off n y h1 h2=>hp (j+1) i x off n y (by simpa using h1) (by simpa using h2))
     (fun q hq'=>hq q (by simp [hq'])) hr' h
    refine⟨c', ?_,h2⟩
    simp only[List.map_cons,Instr.fill,hpl]
    rw[if_neg (by simp;omega)]
    rw[<- h1]
    congr 1
    exact zGL _ _ _ (by omega)
   ·cases h
theorem run_places (P:Program)(w:World):∀ (fs:List Field) (l:List (Nat × Nat)),placesOf P fs=some l ->
  (fs.mapM (fun f=>(do pure (f.offset,<- sizeOf f.type):Sem (Nat × Nat)))).run P w = .ok l w:=by
 intro fs
 induction fs with
 | nil=>intro l h;simp [placesOf] at h;subst h;simp
 | cons f fs ih =>
  intro l h
  simp only[placesOf] at h
  cases hs:szOf P f.type with
  | none=>simp [hs] at h
  | some n =>
   cases hp:placesOf P fs with
   | none=>simp [hs,hp] at h
   | some l' =>
    simp [hs,hp] at h;subst h
    simp only[List.mapM_cons,Sem.run_bind,run_sizeOf hs,Result.andThen_ok,ih _ hp,Sem.run_pure]
theorem zPO (pl:List (Nat × Nat)):∀ (qs:List (Nat × Operand)) (ps:List (Nat × Nat × Operand)),zI0 pl qs=some ps ->
  qs.length=ps.length /\ ∀ (j:Nat) i x off n y,qs[j]? = some (i,x)->ps[j]? = some (off,n,y)->pl[i]? = some (off,n)/\y=x:=by
 intro qs
 induction qs with
 | nil=>intro ps h;simp [zI0] at h;subst h;exact⟨rfl,fun j i x off n y h=>by simp at h⟩
 | cons q qs ih =>
  intro ps h
  obtain⟨i,x⟩:=q
  simp only[zI0] at h
  cases hi:pl[i]? with
  | none=>simp [hi] at h
  | some on =>
   obtain⟨off,n⟩:=on
   cases hp:zI0 pl qs with
   | none=>simp [hi,hp] at h
   | some r =>
    simp [hi,hp] at h;subst h
    obtain⟨h1,h2⟩:=ih r hp
    refine⟨by simp [h1],fun j=>?_⟩
    cases j with
    | zero=>intro i' x' off' n' y' a b;simp at a b;obtain⟨rfl,rfl⟩:=a;obtain⟨rfl,rfl,rfl⟩:=b;exact⟨hi,rfl⟩
    | succ j=>intro i' x' off' n' y' a b;exact h2 j i' x' off' n' y' (by simpa using a) (by simpa using b)
theorem zR9 {ty:TypeId}{qs:Array (Nat × Operand)}{z:Value}{ps:List (Nat × Nat × Operand)}(ho:o.op = .build ty qs)(hz:zeroOf P ty=some z)(R:RelOn Γ P D μ M.get w)
  (hps:(∃ fields pl,P.underlying ty=some (.struct fields)/\placesOf P fields.toList=some pl/\zI0 pl qs.toList=some ps) ∨
   (∃ n e s,P.underlying ty=some (.array n e)/\szOf P e=some s/\ps=qs.toList.map fun (i,x)=>(i*s,s,x)))
  (H:∀ q∈qs.toList,VRel μ (zA5 t q.2) (a.eval q.2)) (h:zA6 P call t M (.build z ps)=some (r,M')):zAN Γ P o W D a μ M w r M':=by
 simp only[zA6] at h
 split at h
 ·rename_i cs hf
  cases h
  rcases hps with⟨fields,pl,hu,hpl,hpd⟩ | ⟨n,e,s,hu,hs,rfl⟩
  ·obtain⟨h1,h2⟩:=zPO pl _ _ hpd
   obtain⟨c',h3,h4⟩:=zLG (place:=fun i=>pl.toArray[i]?) qs.toList ps _ cs z.cells h1 (fun j i x off n y a b=>by simpa using h2 j i x off n y a b) H (zPX μ z) hf
   refine .val R (.agg h4) ?_
   have hm:=run_places P w _ _ hpl
   simp only[execOp,ho,Instr.build]
   simp only[Sem.run_bind,zBT hz,Result.andThen_ok,run_underlying hu,Array.mapM_eq_mapM_toList,Sem.run_map,hm]
   simp only[Array.toList_map,h3]
   simp
  ·obtain⟨c',h3,h4⟩:=zLG (place:=fun i=>some (i*s,s)) qs.toList _ _ cs z.cells (by simp) (fun j i x off n y a b=>by simp [a] at b;obtain⟨rfl,rfl,rfl⟩:=b;exact⟨rfl,rfl⟩) H (zPX μ z) hf
   refine .val R (.agg h4) ?_
   simp only[execOp,ho,Instr.build]
   simp only[Sem.run_bind,zBT hz,Result.andThen_ok,run_underlying hu,run_sizeOf hs]
   simp only[Array.toList_map,h3]
   simp
 ·cases h
theorem zEJ (z:Value):∀ n,(zA9 z n).length=n*z.cells.size
 | 0=>by simp [zA9]
 | n+1=>by simp [zA9,zEJ z n,scs];rw[Nat.succ_mul];omega
theorem zWB (z:Value):∀ (n i:Nat),i<n*z.cells.size->(zA9 z n)[i]? = some (.sc (z.cells[i % z.cells.size]!))
 | 0,i,h=>by simp at h
 | n+1,i,h=>by
  have hk:0<z.cells.size:=by
   rcases Nat.eq_zero_or_pos z.cells.size with e | e
   ·rw[e] at h;simp at h
   ·exact e
  simp only[zA9]
  by_cases hi:i<z.cells.size
  ·rw[List.getElem?_append_left (by simpa [scs] using hi),Nat.mod_eq_of_lt hi]
   simp [scs,hi]
  ·rw[List.getElem?_append_right (by simp [scs];omega)]
   have hl:(scs z).length=z.cells.size:=by simp [scs]
   rw[hl,zWB z n (i - z.cells.size) (by rw[Nat.succ_mul] at h;omega)]
   rw[Nat.mod_eq_sub_mod (by omega:i ≥ z.cells.size)]
theorem zPU (μ:Inj)(z:Value)(n:Nat):VRels μ (zA9 z n) ((Array.range (n*z.cells.size)).map (z.cells[· % z.cells.size]!)).toList:=by
 refine VRels.of_get (by simp [zEJ]) fun i x v h1 h2=>?_
 have hi:i<n*z.cells.size:=by
  have:=(List.getElem?_eq_some_iff.1 h1).1
  rwa [zEJ] at this
 rw[zWB z n i hi] at h1
 cases h1
 have h2:v=z.cells[i % z.cells.size]! := by simpa [hi] using h2.symm
 rw[h2]
 exact .sc _
theorem zCQ {str:Bool}{cs:List AV}{c:Array Value}{e:TypeId}{id len c' st:Nat}{cap:Option Nat}{w':World}(hn:M.new (.row str cs)=some (id,M'))(hfr:μ M.size=none)(R:RelOn Γ P D μ M.get w)
  (hc:VRels μ cs (c.toList.take cs.length)) (hl:cs.length<=c.size) (fz:Nat × Nat) (hfz:∀ j,j<c.size -> ¬ (fz.1<=j/\j<fz.2)) (hfz':str=false->fz.1=fz.2)
  (hcap:zcC ⟨w.heap.size,0,cs.length,c.size⟩ 0 st len c' cap)
  (hw:w'.heap=w.heap.push (.cells c e fz)) (h1:w'.os=w.os) (h2:w'.tape=w.tape) (h3:w'.output=w.output)
  (hx:(execOp a.eval o).run P w = .ok (.value (.slice (some ⟨w.heap.size,0,none⟩) len c')) w') :
  zAN Γ P o W D a μ M w (.sl id 0 len cap st) M':=by
 obtain⟨rfl,_⟩:=Mem.new_spec hn
 refine⟨_,_,_,.inl hx,zKK (e:=e) hn hfr R hc hl fz hfz hfz' hw h1 h2 h3 ?_⟩
 exact .sl (p:=⟨w.heap.size,0,cs.length,c.size⟩) (Inj.upd_same ..) hcap
theorem zgY {ty e:TypeId}{qs:Array (Nat × Operand)}{z:Value}{len s:Nat}(ho:o.op = .buildSlice ty len qs)(hu:P.underlying ty=some (.slice e))(hs:szOf P e=some s)(hz:zeroOf P e=some z)
  (hs0:¬ (s=0∨len*s > 2 ^ 24∨z.cells.size≠s)) (R:RelOn Γ P D μ M.get w) (hfr:M.size<M'.size->μ M.size=none) (H:∀ q∈qs.toList,VRel μ (zA5 t q.2) (a.eval q.2))
  (h:zA6 P call t M (.bsl e s z len (qs.toList.map fun (i,x)=>(i*s,s,x)))=some (r,M')):zAN Γ P o W D a μ M w r M':=by
 simp only[not_or,Decidable.not_not] at hs0
 obtain⟨h0,h24,hzs⟩:=hs0
 subst hzs
 simp only[zA6] at h
 split at h
 ·rename_i cs hf
  split at h
  ·rename_i id M1 hn
   cases h
   obtain⟨c',h3,h4⟩:=zLG (place:=fun i=>some (i*z.cells.size,z.cells.size)) qs.toList _ _ cs ((Array.range (len*z.cells.size)).map (z.cells[· % z.cells.size]!)) (by simp)
    (fun j i x off n y a b=>by simp [a] at b;obtain⟨rfl,rfl,rfl⟩:=b;exact⟨rfl,rfl⟩) H (zPU μ z len) hf
   have hl4:=h4.length
   simp only[Array.length_toList] at hl4
   have hlen:cs.length=len*z.cells.size:=by
    have:∀ (ps:List (Nat × Nat × Operand)) (x y:List AV),zAB t x ps=some y->y.length=x.length:=by
     intro ps
     induction ps with
     | nil=>intro x y h;simp [zAB] at h;subst h;rfl
     | cons p ps ih =>
      intro x y h
      obtain⟨off,n,q⟩:=p
      simp only[zAB] at h
      split at h
      ·rename_i hc
       simp only[Bool.and_eq_true,beq_iff_eq] at hc
       rw[ih _ _ h,zKI _ _ _ (by have:=Nat.le_of_ble_eq_true hc.2;omega)]
      ·cases h
    rw[this _ _ _ hf,zEJ]
   refine zCQ (c:=c') (e:=e) (w':={ w with heap:=w.heap.push (.cells c' e) }) hn (hfr (by have:=(Mem.new_spec hn).2.1;omega)) R (by rw[<- hl4,show c'.size=c'.toList.length by simp,List.take_length];exact h4) (by omega) (0,0)
    (fun _ _ h=>by simp at h) (fun _=>rfl) ⟨rfl,Nat.le_refl _,by simp;omega⟩ rfl rfl rfl rfl ?_
   simp only[execOp,ho,Instr.buildSlice]
   simp only[Sem.run_bind,run_underlying hu,run_sizeOf hs,Result.andThen_ok,if_neg h24]
   by_cases hl0:len*z.cells.size=0
   ·have hl0':len=0:=by rcases Nat.mul_eq_zero.1 hl0 with h | h <;> omega
    subst hl0'
    have e0:∀ f:Nat->Value,(Array.range (0*z.cells.size)).map f = #[]:=fun f=>by simp
    rw[e0] at h3
    have e1:∀ f:Nat->Value,(Array.range 0).map f = #[]:=fun f=>by simp
    simp only[Array.toList_map]
    simp [h3,newRow,e1]
   ·simp only[Array.toList_map]
    simp [hl0,zBT hz,h3,newRow]
  ·cases h
 ·cases h
theorem zZS {x:Operand}(ho:o.op = .nilCheck x)(R:RelOn Γ P D μ M.get w)(H:VRel μ (zA5 t x) (a.eval x))
  (h:zA6 P call t M (.nilck x)=some (r,M')):zAN Γ P o W D a μ M w r M':=by
 simp only[zA6] at h
 split at h
 ·rename_i hx;rw[hx] at H;cases h
  obtain⟨p,hp,hv⟩:=zFF H
  exact .val R H (by simp [execOp,ho,hv])
 ·rename_i hx;rw[hx] at H;cases h
  obtain⟨b,o',hv,_⟩:=zb1 R H
  exact .val R H (by simp [execOp,ho,hv])
 ·rename_i hx;rw[hx] at H;cases h
  refine .val R H ?_
  generalize hv:a.eval x=v at H
  cases H with
  | fn h1 h2=>simp [execOp,ho,hv]
 ·rename_i hx;rw[hx] at H;cases h
  refine .val R H ?_
  generalize hv:a.eval x=v at H
  cases H with
  | yl e=>simp [execOp,ho,hv]
 ·cases h
def zZ5:Nat->Value->Prop
 | 0,.pointer (some _)=>True
 | 1,.slice (some _) _ _=>True
 | 2,.map (some _)=>True
 | 3,.func _ _ _=>True
 | _,_=>False
def nilV:Nat->Value
 | 0 => .pointer none
 | 1 => .slice none 0 0
 | 2 => .map none
 | _ => .nilFunc
def zZ4:Nat->TypeDesc->Prop
 | 0,.pointer _=>True
 | 1,.slice _=>True
 | 2,.map _ _=>True
 | 3,.func _ _ _=>True
 | _,_=>False
theorem zNT {ty : TypeId} {x : Operand} {k : Nat} (h : zJ9 P ty x = some k) : ∃ d,P.underlying ty = some d /\ zZ4 k d /\ x = .const (nilV k):=by
  unfold zJ9 at h
  split at h
  all_goals first
    | (split at h
       · rename_i hd; cases h; exact ⟨_,hd,trivial,rfl⟩
       · cases h)
    | cases h
theorem zOZ {ty:TypeId}{d:TypeDesc}{k:Nat}{v:Value}(n:Nat)(hd:P.underlying ty=some d)(hk:zZ4 k d)(hv:zZ5 k v) :
  (Op.equalIn (n+1) ty v (nilV k)).run P w = .ok false w/\(Op.equalIn (n+1) ty (nilV k) v).run P w = .ok false w:=by
 match k,d,v,hk,hv with
 | 0,.pointer _,.pointer (some _),_,_=>simp [Op.equalIn,run_underlying hd,nilV]
 | 1,.slice _,.slice (some _) _ _,_,_=>simp [Op.equalIn,run_underlying hd,nilV]
 | 2,.map _ _,.map (some _),_,_=>simp [Op.equalIn,run_underlying hd,nilV]
 | 3,.func _ _ _,.func _ _ _,_,_=>simp [Op.equalIn,run_underlying hd,nilV]
theorem zUJ {ty:TypeId}{d:TypeDesc}{k:Nat}{v:Value}(hd:P.underlying ty=some d)(hk:zZ4 k d)(hv:zZ5 k v) :
  (Op.equal ty v (nilV k)).run P w = .ok false w/\(Op.equal ty (nilV k) v).run P w = .ok false w:=zOZ 9999 hd hk hv
theorem zTU {ty:TypeId}{k:Nat}{v:Value}{d:TypeDesc}(hd:P.underlying ty=some d)(hk:zZ4 k d)(hv:zZ5 k v)(x y:Operand) :
  (do eqGuard .eql ty x y v (nilV k);binOp .eql ty v (nilV k):Sem Value).run P w = .ok (.bool false) w /\
  (do eqGuard .eql ty x y (nilV k) v;binOp .eql ty (nilV k) v:Sem Value).run P w = .ok (.bool false) w /\
  (do eqGuard .neq ty x y v (nilV k);binOp .neq ty v (nilV k):Sem Value).run P w = .ok (.bool true) w /\
  (do eqGuard .neq ty x y (nilV k) v;binOp .neq ty (nilV k) v:Sem Value).run P w = .ok (.bool true) w:=by
 obtain⟨h1,h2⟩:=zUJ (w:=w) hd hk hv
 match k,d,v,hk,hv with
 | 0,.pointer _,.pointer (some _),_,_=>simp only[nilV] at *;simp [eqGuard,binOp,h1,h2]
 | 1,.slice _,.slice (some _) _ _,_,_=>simp only[nilV] at *;simp [eqGuard,binOp,h1,h2]
 | 2,.map _ _,.map (some _),_,_=>simp only[nilV] at *;simp [eqGuard,binOp,h1,h2]
 | 3,.func _ _ _,.func _ _ _,_,_=>simp only[nilV] at *;simp [eqGuard,binOp,h1,h2]
theorem zRA {ty yt : TypeId} {op : BinOp} {neg : Bool} {k : Nat} {x y q c : Operand} (ho : o.op = .binOp op ty x y yt) (hop : op = if neg then .neq else .eql)
    (hk : zJ9 P ty c = some k) (hxy : (x = q /\ y = c) ∨ (x = c /\ y = q)) (R : RelOn Γ P D μ M.get w) (H : ∀ x ∈ o.op.operands,VRel μ (zA5 t x) (a.eval x)) (Hq : VRel μ (zA5 t q) (a.eval q))
    (h : zA6 P call t M (.eqnil neg k q o) = some (r,M')) : zAN Γ P o W D a μ M w r M':=by
  obtain ⟨d,hd,hkt,rfl⟩:=zNT hk
  have fin : ∀ v,a.eval q = v -> zZ5 k v -> zAN Γ P o W D a μ M w (.sc (.bool neg)) M:=fun v hv hkv=>by
    obtain ⟨h1,h2,h3,h4⟩:=zTU (w:=w) hd hkt hkv x y
    refine .val R (.sc (.bool neg)) ?_
    rcases hxy with ⟨rfl,rfl⟩ | ⟨rfl,rfl⟩
    · cases neg
      · simp only [Bool.false_eq_true,if_false] at hop; subst hop
        simp only [execOp,ho,hv,show a.eval (.const (nilV k)) = nilV k from rfl]
        rw [Sem.run_bind,h1]; rfl
      · simp only [if_true] at hop; subst hop
        simp only [execOp,ho,hv,show a.eval (.const (nilV k)) = nilV k from rfl]
        rw [Sem.run_bind,h3]; rfl
    · cases neg
      · simp only [Bool.false_eq_true,if_false] at hop; subst hop
        simp only [execOp,ho,hv,show a.eval (.const (nilV k)) = nilV k from rfl]
        rw [Sem.run_bind,h2]; rfl
      · simp only [if_true] at hop; subst hop
        simp only [execOp,ho,hv,show a.eval (.const (nilV k)) = nilV k from rfl]
        rw [Sem.run_bind,h4]; rfl
  simp only [zA6] at h
  generalize hv : a.eval q = v at Hq
  split at h
  · split at h
    · rename_i hp; cases h
      exact zI1 R H (fun cs b e=>by rw [ho] at e; cases e) hp
    · cases h
  all_goals first
    | (rename_i hx; rw [hx] at Hq
       split at h
       · rename_i hb; cases h
         have hb:=Nat.eq_of_beq_eq_true hb
         subst hb
         exact fin v hv (by cases Hq <;> trivial)
       · cases h)
    | cases h
theorem zDC {x:AV}{v:Value}{n:Nat}(h:VRel μ x v)(hn:zCL x=some n):∃ k,v = .int k n:=by
 unfold zCL at hn
 split at hn
 ·cases hn;exact⟨_,zCS h⟩
 ·cases hn
theorem zC8 {x:Operand}{y d n:Nat}(H:VRel μ (zA5 t x) (a.eval x))(h:bound t y (some x) d=some n):n<=y /\ ∀ y',y<=y' -> ∀ code,(Instr.sliceBound (a.eval x) y' code).run P w = .ok n w:=by
 simp only[bound] at h
 split at h
 ·rename_i k i hx
  rw[hx] at H
  have hv:=zCS H
  split at h
  ·split at h
   ·rename_i m hb
    cases h
    have hb:=Nat.le_of_ble_eq_true hb
    refine⟨hb,fun y' hy code=>?_⟩
    simp only[Instr.sliceBound,hv]
    simp only[asIntOf,Sem.run_bind,Sem.run_pure,Result.andThen_ok]
    have h1:0<=(Int.ofNat n)/\(Int.ofNat n)<=(y':Int):=⟨Int.natCast_nonneg n,by simp;omega⟩
    simp only[if_pos h1]
    simp
   ·cases h
  ·cases h
 ·cases h
theorem zB6 {y d n:Nat}(h:bound t y none d=some n):n=d:=by simpa [bound] using h.symm
theorem zBL {isS:Bool}{len cap c' h l m av:Nat}{lo hi mx:Option Operand}(hc:av<=c')
  (Hlo:∀ x∈lo,VRel μ (zA5 t x) (a.eval x)) (Hhi:∀ x∈hi,VRel μ (zA5 t x) (a.eval x)) (Hmx:∀ x∈mx,VRel μ (zA5 t x) (a.eval x))
  (hm:mx=none/\m=c'∨(∃ x,mx=some x/\bound t av (some x) 0=some m/\hi≠none))
  (hh:bound t (if mx=none then av else m) hi len=some h) (hl:bound t h lo 0=some l) (hlen:len<=c') :
  (Instr.sliceBounds isS len c' (lo.map a.eval) (hi.map a.eval) (mx.map a.eval)).run P w = .ok (l,h,m) w/\l<=h/\(h<=m∨hi=none):=by
 unfold Instr.sliceBounds
 rcases hm with⟨rfl,rfl⟩ | ⟨x,rfl,hx,hne⟩
 ·simp only[if_true] at hh
  cases hi with
  | none =>
   have:=zB6 hh;subst this
   cases lo with
   | none=>have:=zB6 hl;subst this;simp
   | some y =>
    obtain⟨h1,h2⟩:=zC8 (P:=P) (w:=w) (Hlo y rfl) hl
    simp [h2 h (Nat.le_refl _),h1]
  | some z =>
   obtain⟨h3,h4⟩:=zC8 (P:=P) (w:=w) (Hhi z rfl) hh
   cases lo with
   | none=>have:=zB6 hl;subst this;simp [h4 _ hc];omega
   | some y =>
    obtain⟨h1,h2⟩:=zC8 (P:=P) (w:=w) (Hlo y rfl) hl
    simp [h4 _ hc,h2 h (Nat.le_refl _),h1];omega
 ·obtain⟨h5,h6⟩:=zC8 (P:=P) (w:=w) (Hmx x rfl) hx
  simp only[reduceCtorEq,if_false] at hh
  cases hi with
  | none=>exact absurd rfl hne
  | some z =>
   obtain⟨h3,h4⟩:=zC8 (P:=P) (w:=w) (Hhi z rfl) hh
   cases lo with
   | none=>have:=zB6 hl;subst this;simp [h6 _ hc,h4 m (Nat.le_refl _),h3]
   | some y =>
    obtain⟨h1,h2⟩:=zC8 (P:=P) (w:=w) (Hlo y rfl) hl
    simp [h6 _ hc,h4 m (Nat.le_refl _),h2 h (Nat.le_refl _),h1,h3]
end Go.Ax
