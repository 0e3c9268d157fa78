/-
 The executor on abstract memory, part 6: what it is, and that what it finds is so of the program.
-/
import Derived.Test.YtkfdflajadkfkaaGreatEe
import Derived.Lib.Overlaps
/-
 The executor: slices.Insert's own code,run where the capacity is known: what it comes to.
-/
set_option linter.unusedSimpArgs false
set_option linter.unusedVariables false
set_option linter.unusedSectionVars false
namespace Go.Ax
open Go
abbrev Cl:=Tg→List AV→Mem→Option (AV × Mem)
variable {P : Program} {call : Cl}
def Rm (M:Mem):Prop:=M.size≤M.t.length
theorem Rm.put {M M':Mem}{i:Nat}{o:AObj}(hs:Rm M)(h:M.put i o=some M'):Rm M':=by
 have hlt:=(Mem.put_spec h).1
 unfold Rm at *
 unfold Mem.put at h
 rw[(zAQ _ _).2 hlt] at h
 simp only[T.set_eq,if_pos (Nat.lt_of_lt_of_le hlt hs)] at h
 cases h
 simp only[List.length_set]
 exact hs
theorem Rm.new {M M':Mem}{k:Nat}{o:AObj}(hs:Rm M)(h:M.new o=some (k,M')):Rm M':=by
 unfold Rm at *
 unfold Mem.new at h
 simp only[T.set_eq] at h
 by_cases e:M.size<M.t.length
 ·rw[if_pos e] at h
  cases h
  simp only[List.length_set]
  omega
 ·rw[if_neg e,if_pos (by omega)] at h
  cases h
  simp only[List.length_append,List.length_singleton]
  omega
/-! ### Pure operations,as equations -/
section
variable {O : Nat → Oper} {ti tb : TypeId} {g : FuncId} {e : TypeId} {st by' : Nat} {z : Value} {M : Mem} {k id2 off off2 n m c i : Nat} {cap2 : Option Nat} {str : Bool} {cs cs2 : List AV}
end
end Go.Ax
/-
 The executor: slices.Insert is what the executor says.
-/
namespace Go.Ax
open Go
variable {P : Program} {Γ : Glob}
/-! ### What a value says of numbers that were there -/
mutual
theorem VRel.swap {μ μ2 μ':Inj}(hag:∀ i p,μ i=some p→μ' i=μ2 i)(hf:μ'.f=μ2.f):∀ {a:AV} {v0 v:Value},VRel μ a v0→VRel μ2 a v→VRel μ' a v
 | _,_,_,.sc _,h=>by cases h;exact .sc _
 | _,_,_,.ptr e,h=>by cases h with | ptr e2=>exact .ptr ((hag _ _ e).trans e2)
 | _,_,_,.sl e _,h=>by
  cases h with
  | sl e2 c2=>exact .sl ((hag _ _ e).trans e2) c2
  | sl0 e2 c2=>exact .sl0 ((hag _ _ e).trans e2) c2
 | _,_,_,.sl0 e _,h=>by
  cases h with
  | sl e2 c2=>exact .sl ((hag _ _ e).trans e2) c2
  | sl0 e2 c2=>exact .sl0 ((hag _ _ e).trans e2) c2
 | _,_,_,.mp e,h=>by cases h with | mp e2=>exact .mp ((hag _ _ e).trans e2)
 | _,_,_,.fn x y,h=>by cases h with | fn x2 y2=>exact .fn (VRels.swap hag hf x x2) (VRels.swap hag hf y y2)
 | _,_,_,.yl e,h=>by cases h with | yl e2=>exact .yl ((hag _ _ e).trans e2)
 | _,_,_,.agg x,h=>by cases h with | agg x2=>exact .agg (VRels.swap hag hf x x2)
 | _,_,_,.tup x,h=>by cases h with | tup x2=>exact .tup (VRels.swap hag hf x x2)
 | _,_,_,.pv _ _ _ _ _ _,h=>by
  cases h with
  | pv a b c d e g=>exact .pv (by rw[hf];exact a) b (by rw[hf];exact c) d e g
  | pv0 a=>exact .pv0 a
 | _,_,_,.pv0 _,h=>by
  cases h with
  | pv a b c d e g=>exact .pv (by rw[hf];exact a) b (by rw[hf];exact c) d e g
  | pv0 a=>exact .pv0 a
 | _,_,_,.cp _ _ _,h=>by cases h with | cp a b c=>exact .cp (by rw[hf];exact a) b (by rw[hf];exact c)
theorem VRels.swap {μ μ2 μ':Inj}(hag:∀ i p,μ i=some p→μ' i=μ2 i)(hf:μ'.f=μ2.f):∀ {l:List AV} {vs0 vs:List Value},VRels μ l vs0→VRels μ2 l vs→VRels μ' l vs
 | _,_,_,.nil,h=>by cases h;exact .nil
 | _,_,_,.cons x y,h=>by cases h with | cons x2 y2=>exact .cons (VRel.swap hag hf x x2) (VRels.swap hag hf y y2)
end
theorem zE6.swap {μ μ2 μ':Inj}(hag:∀ i p,μ i=some p→μ' i=μ2 i)(hf:μ'.f=μ2.f){obj:AObj}{p0 p:Pl}{w0 w:World}(h0:zE6 P μ obj p0 w0)(h:zE6 P μ2 obj p w):zE6 P μ' obj p w:=by
 cases obj with
 | row str cs =>
  obtain⟨_,_,_,_,_,_,_,k5,_⟩:=h0
  obtain⟨c,e,fz,h1,h2,h3,h4,h5,h6⟩:=h
  exact⟨c,e,fz,h1,h2,h3,h4,k5.swap hag hf h5,h6⟩
 | map es clock =>
  obtain⟨_,_,k2⟩:=h0
  obtain⟨es',h1,h2⟩:=h
  refine⟨es',h1,h2.1,fun i a b n hi=>?_⟩
  obtain⟨e,he,x1,x2,x3⟩:=h2.2 i a b n hi
  obtain⟨e0,_,y1,y2,_⟩:=k2.2 i a b n hi
  exact⟨e,he,y1.swap hag hf x1,y2.swap hag hf x2,x3⟩
 | loop st pend tm ps assign body dfr =>
  obtain⟨_,_,_,_,k4,_,_,_,q0,k8,_⟩:=h0
  obtain⟨r,h1,h2,h3,h4,h5,h6,h7,q,h8,h9⟩:=h
  exact⟨r,h1,h2,h3,k4.swap hag hf h4,h5,h6,h7,q,(hag _ _ k8).trans h8,h9⟩
 | dfr spent=>exact h
 | siter s pos=>exact h
 | fro cs =>
  obtain⟨_,_,_,_,_,_,_,k5⟩:=h0
  obtain⟨c,e,fz,h1,h2,h3,h4,h5⟩:=h
  exact⟨c,e,fz,by rw[hf];exact h1,h2,h3,h4,k5.swap hag hf h5⟩
 | dead=>trivial
end Go.Ax
/-
 The executor: slices.Insert is what the executor says: the calls;put together;for a program that is given.
-/
namespace Go.Ax
open Go
variable {P : Program} {Γ : Glob}
theorem VRels.slot {μ:Inj}{cs:List AV}{vs:List Value}(h:VRels μ cs vs)(o n:Nat):VRels μ (Ax.slot cs o n) ((vs.drop o).take n):=(h.drop o).take n
end Go.Ax
/-
 The executor,run on symbols: an element of many cells of a slice of ours: read,set;a slice of ours handed to a call.
-/
set_option maxRecDepth 100000
namespace Go.Ax
open Go
theorem zPF {α:Type}{N:Mem}{st:Nat}{T:List AV→α→Prop}{id n:Nat}{cap:Option Nat}{rows:List (List AV)}{l:List α}(hA:All2 T rows l)(hr:∀ r∈rows,r.length=st)(hn:n=rows.length)(hc:cap=none∨cap=some rows.length)(hg:N.get id=some (.row false rows.flatten)):SlM N st T (.sl id 0 n cap st) l:=by
 subst hn
 exact .inr ⟨id,rows,cap,rfl,hc,hg,hA,hr⟩
end Go.Ax
/-
 The executor,run on symbols: a range over a function whose body may end it.
-/
namespace Go.Ax
open Go
section
variable {P : Program} {fuel : Nat} {fs : Nat → Option AFunc} {call : Tg → List AV → Mem → Option (AV × Mem)} {M : Mem} {n : Nat}
end
end Go.Ax
/-
 The executor,run on symbols: the first part of a row of ours,as a stack.
-/
namespace Go.Ax
open Go
def SlP {α:Type}(M:Mem)(st:Nat)(T:List AV→α→Prop)(a:AV)(l:List α):Prop :=
 (a = .sc (.slice none 0 0)∧l=[]) ∨ ∃ (id:Nat) (rows:List (List AV)) (rest:List AV),a = .sl id 0 rows.length none st∧M.get id=some (.row false (rows.flatten++rest))∧All2 T rows l∧(∀ r∈rows,r.length=st)
section
variable {α : Type} {M N : Mem} {st : Nat} {T : List AV → α → Prop} {a : AV} {l : List α}
theorem SlP.nil:SlP M st T (.sc (.slice none 0 0)) ([]:List α):=.inl ⟨rfl,rfl⟩
theorem SlP.one (h:SlP M st T a l):oneA a=true:=by rcases h with⟨rfl,_⟩ | ⟨_,_,_,rfl,_⟩ <;> rfl
theorem SlP.cells (h:SlP M st T a l):cellsA a=[a]:=by rcases h with⟨rfl,_⟩ | ⟨_,_,_,rfl,_⟩ <;> rfl
theorem SlP.len (h:SlP M st T a l)(N:Mem):lenO N a=some (.sc (.int .i64 l.length),N):=by
 rcases h with⟨rfl,rfl⟩ | ⟨_,rows,_,rfl,_,hA,_⟩
 ·rfl
 ·rw[← hA.length_eq];rfl
theorem SlP.keep (h:SlP M st T a l)(k:∀ id,rowOf a=some id→N.get id=M.get id):SlP N st T a l:=by
 rcases h with h | ⟨id,rows,rest,rfl,hg,h⟩
 ·exact .inl h
 ·exact .inr ⟨id,rows,rest,rfl,(k id rfl).trans hg,h⟩
theorem SlP.lt (h:SlP M st T a l):∀ id,rowOf a=some id→id<M.size:=by
 rcases h with⟨rfl,_⟩ | ⟨i,rows,rest,rfl,hg,_⟩
 ·intro id h;cases h
 ·intro id h;cases h;exact Mem.get_lt hg
theorem SlP.rows (h:SlP M st T a l){m:Nat}(hm:M.size≤m):((rowsOf a).all fun i=>Nat.blt i m)=true:=by
 rcases h with⟨rfl,_⟩ | ⟨i,rows,rest,rfl,hg,_⟩
 ·rfl
 ·have:=Mem.get_lt hg
  simp only[rowsOf,List.all_cons,List.all_nil,Bool.and_true]
  exact Nat.blt_eq ▸ (show i<m by omega)
theorem SlP.at (h:SlP M st T a l){i:Nat}(hi:i<l.length):∃ id cs r,rowOf a=some id∧id<M.size∧M.get id=some (.row false cs)∧(∀ N,iadO N st a (some i)=some (.ptr id (i*st),N))∧T r l[i]∧r.length=st∧part cs (i*st) st true=some (.agg r):=by
 rcases h with⟨rfl,rfl⟩ | ⟨id,rows,rest,rfl,hg,hA,hr⟩
 ·exact absurd hi (by simp)
 ·have hl:=hA.length_eq
  have hfl:=zAI hr
  have hri':i<rows.length:=by omega
  have hrl:=hr rows[i] (List.getElem_mem hri')
  have hle:i*st+st≤rows.flatten.length:=by rw[hfl,← Nat.succ_mul];exact Nat.mul_le_mul_right _ (by omega)
  have hsl0:slot rows.flatten (i*st) st=rows[i]:=by
   rw[slot,zDM i hr,List.drop_eq_getElem_cons hri',List.flatten_cons,List.take_append_of_le_length (by omega),List.take_of_length_le (by omega)]
  have hsl:slot (rows.flatten++rest) (i*st) st=rows[i]:=by
   rw[← hsl0]
   simp only[slot]
   rw[List.drop_append_of_le_length (by omega),List.take_append_of_le_length (by rw[List.length_drop];omega)]
  have e:=zOU (off:=0) (n:=st) (ag:=true) hsl (by rw[List.length_append];omega) (by omega)
  rw[Nat.add_zero] at e
  refine⟨id,_,rows[i],rfl,Mem.get_lt hg,hg,fun N=>by rw[zLD (by omega)];simp,hA.get hri' hi,hrl, ?_⟩
  rw[e]
  exact zFD (ag:=true) hrl (by simp)
theorem SlP.cut (h:SlP M st T a l)(hs:0<st){n:Nat}(hn:n≤l.length):∃ a',(∀ N,(∀ id,rowOf a=some id→N.get id=M.get id)→slcO N st a none (some (I64 n)) none=some (a',N))∧SlP M st T a' (l.take n)∧rowOf a'=rowOf a:=by
 rcases h with⟨rfl,rfl⟩ | ⟨id,rows,rest,rfl,hg,hA,hr⟩
 ·obtain rfl:n=0:=by simpa using hn
  exact⟨_,fun N _=>rfl,.inl ⟨rfl,rfl⟩,rfl⟩
 ·have hl:=hA.length_eq
  have hfl:=zAI hr
  have hnr:n≤rows.length:=by omega
  refine⟨.sl id 0 n none st,fun N hN=>?_,.inr ⟨id,rows.take n,(rows.drop n).flatten++rest,by rw[List.length_take,Nat.min_eq_left hnr], ?_,zDJ n hA,fun r hr'=>hr r (List.mem_of_mem_take hr')⟩,rfl⟩
  ·have hrd:=zBJ ((hN id rfl).trans hg)
   have hav:n≤(rows.flatten++rest).length / st:=by
    rw[Nat.le_div_iff_mul_le hs,List.length_append,hfl]
    have:=Nat.mul_le_mul_right st hnr
    omega
   unfold slcO
   simp only[Nat.beq_refl,hrd,Nat.sub_zero,zF4 _ _ _ _ hav,zHV,Nat.zero_mul,Nat.add_zero]
  ·rw[← List.append_assoc,← List.flatten_append,List.take_append_drop];exact hg
theorem SlP.app1 {X:Mem}{bytes:Nat}{o:AV}{r:List AV}{x:α}{Q:AV→Mem→Prop}(wf:Wf X)(h:SlP X st T o l)(hT:FzT T)(hx:T r x)(hr:r.length=st)(hs:0<st)(hb1:(l.length+1)*bytes≤140737488355328)(hb2:l.length+1≤140737488355328)
  (k:∀ o' M',SlP M' st T o' (l++[x])→Wf M'→X.size≤M'.size→(∀ j,j<X.size→rowOf o≠some j→M'.get j=X.get j)→(∀ id,rowOf o'=some id→rowOf o=some id∨X.size≤id)→((rowsOf o').all fun i=>Nat.blt i M'.size)=true→oneA o'=true→cellsA o'=[o']→Q o' M'):W3 (appO (X.add (.row false r)) st bytes o (.sl X.size 0 1 (some 1) st)) Q:=by
 have hcell:cellsOf (X.add (.row false r)) (.sl X.size 0 1 (some 1) st)=some r:=zC3 (cs:=r) (n:=1) (st:=st) (zAG wf _ _ (Nat.le_refl _) (Nat.lt_succ_self _)) (by omega)
 have hro:r.all oneA=true:=by
  rw[List.all_eq_true]
  exact fun y hy=>(hT r x hx y hy).one
 have h1b:Nat.beq 1 0=false:=rfl
 have hrb:Nat.beq r.length (1*st)=true:=by rw[hr,Nat.one_mul];exact Nat.beq_refl _
 have fin:∀ o' M',SlP M' st T o' (l++[x])→Wf M'→X.size≤M'.size→(∀ j,j<X.size→rowOf o≠some j→M'.get j=X.get j)→(∀ id,rowOf o'=some id→rowOf o=some id∨X.size≤id)→Q o' M':=fun o' M' a b c d e=>k o' M' a b c d e (a.rows (Nat.le_refl _)) a.one a.cells
 rcases h with⟨rfl,rfl⟩ | ⟨id,rows,rest,rfl,hg,hA,hrs⟩
 ·simp only[List.length_nil,Nat.zero_add] at hb1 hb2
  refine⟨.sl (X.size+1) 0 1 none st,(X.add (.row false r)).add (.row false r), ?_,fin _ _ (.inr ⟨X.size+1,[r],[],rfl, ?_,.cons hx .nil,fun q hq=>by rw[List.mem_singleton] at hq;subst hq;exact hr⟩) ((wf.add _).add _) (by simp only[zA8];omega) (fun j hj _=>by rw[zAF (wf.add _) _ _ (by rw[zA8];omega),zAF wf _ _ hj]) (fun i h => .inr (by cases h;omega))⟩
  ·have hb0:Nat.ble ((0+1)*bytes) 140737488355328=true:=Nat.ble_eq_true_of_le (by omega)
   have h0:cellsOf (X.add (.row false r)) (.sc (.slice none 0 0))=some []:=rfl
   have hlx:lenA (.sl X.size 0 1 (some 1) st)=some 1:=rfl
   unfold appO
   simp only[hcell,hlx,h0]
   unfold zB2
   simp only[h1b,hro,hrb,Bool.and_self,Nat.ble_eq_true_of_le hb1,Nat.ble_eq_true_of_le hb2,zBO (wf.add (.row false r)),zA8,List.nil_append]
  ·refine(zAG (wf.add _) _ _ (by simp only[zA8];omega) (by simp only[zA8];omega)).trans ?_
   simp
 ·have hl:=hA.length_eq
  have hfl:=zAI hrs
  have hid:=Mem.get_lt hg
  rw[← hl] at hb1 hb2
  have wX:=wf.add (.row false r)
  have hg':(X.add (.row false r)).get id=some (.row false (rows.flatten++rest)):=(zAF wf _ _ hid).trans hg
  have hcl:cellsOf (X.add (.row false r)) (.sl id 0 rows.length none st)=some rows.flatten:=by
   have hb:Nat.ble (0+rows.length*st) (rows.flatten++rest).length=true:=Nat.ble_eq_true_of_le (by rw[List.length_append];omega)
   have hsl:slot (rows.flatten++rest) 0 (rows.length*st)=rows.flatten:=by
    simp only[slot,List.drop_zero]
    rw[List.take_append_of_le_length (by omega),List.take_of_length_le (by omega)]
   simp only[cellsOf,zBJ hg',hb,hsl]
  have hlx:lenA (.sl X.size 0 1 (some 1) st)=some 1:=rfl
  have hlr:∀ q∈rows++[r],q.length=st:=fun q hq=>by
   rcases List.mem_append.1 hq with h | h
   ·exact hrs q h
   ·rw[List.mem_singleton] at h;subst h;exact hr
  by_cases hc:(rows.length+1)*st≤(rows.flatten++rest).length
  ·have hcb:Nat.ble (0+(rows.length+1)*st) (rows.flatten++rest).length=true:=Nat.ble_eq_true_of_le (by omega)
   refine⟨.sl id 0 (rows.length+1) none st,(X.add (.row false r)).upd id (.row false (lay (rows.flatten++rest) (0+rows.length*st) r)), ?_,fin _ _ (.inr ⟨id,rows++[r],rest.drop st,by rw[List.length_append];rfl, ?_,hA.append (.cons hx .nil),hlr⟩) (wX.upd _ _) (by simp only[zAE,zA8];omega) (fun j hj hne=>?_) (fun i h => .inl h)⟩
   ·unfold appO
    simp only[hcell,hlx,hcl]
    unfold zB2
    simp only[h1b,hro,hrb,Bool.and_self,Nat.ble_eq_true_of_le hb1,Nat.ble_eq_true_of_le hb2,Nat.beq_refl,hg',hcb,zBD wX (show id<(X.add (.row false r)).size by rw[zA8];omega)]
   ·rw[zAP wX _ _ (by rw[zA8];omega)]
    congr 2
    unfold lay
    rw[Nat.zero_add,hr,List.flatten_append,List.take_append_of_le_length (by omega),List.take_of_length_le (by omega),← hfl,List.drop_length_add_append]
    simp
   ·rw[zAA wX _ _ _ (fun e=>hne (by rw[e];rfl)),zAF wf _ _ hj]
  ·have hcb:Nat.ble (0+(rows.length+1)*st) (rows.flatten++rest).length=false:=by
    cases hb:Nat.ble (0+(rows.length+1)*st) (rows.flatten++rest).length with
    | false=>rfl
    | true=>have:=Nat.le_of_ble_eq_true hb;omega
   refine⟨.sl (X.size+1) 0 (rows.length+1) none st,((X.add (.row false r)).upd id .dead).add (.row false (rows.flatten++r)), ?_,fin _ _ (.inr ⟨X.size+1,rows++[r],[],by rw[List.length_append];rfl, ?_,hA.append (.cons hx .nil),hlr⟩) ((wX.upd _ _).add _) (by simp only[zAE,zA8];omega) (fun j hj hne=>?_) (fun i h => .inr (by cases h;omega))⟩
   ·unfold appO
    simp only[hcell,hlx,hcl]
    unfold zB2
    simp only[h1b,hro,hrb,Bool.and_self,Bool.and_true,Nat.ble_eq_true_of_le hb1,Nat.ble_eq_true_of_le hb2,Nat.beq_refl,hg',hcb,zBD wX (show id<(X.add (.row false r)).size by rw[zA8];omega),zBO (wX.upd id .dead),zAE,zA8]
   ·refine(zAG (wX.upd _ _) _ _ (by simp only[zAE,zA8];omega) (by simp only[zAE,zA8];omega)).trans ?_
    simp
   ·rw[zAF (wX.upd _ _) _ _ (by simp only[zAE,zA8];omega),zAA wX _ _ _ (fun e=>hne (by rw[e];rfl)),zAF wf _ _ hj]
end
end Go.Ax
/-
 The executor,run on symbols: slices.Insert of one element.
-/
namespace Go.Ax
open Go
def SlN {α:Type}(M:Mem)(st:Nat)(T:List AV→α→Prop)(a:AV)(l:List α):Prop :=
 (l=[]∧(a = .sc (.slice none 0 0) ∨ ∃ id,a = .sl id 0 0 (some 0) st∧M.get id=some (.row false []))) ∨
 (l≠[] ∧ ∃ (id:Nat) (rows:List (List AV)),a = .sl id 0 rows.length none st∧M.get id=some (.row false rows.flatten)∧All2 T rows l ∧ ∀ r∈rows,r.length=st)
section
variable {P : Program} {fuel : Nat} {fs : Nat → Option AFunc} {call : Tg → List AV → Mem → Option (AV × Mem)} {M N X : Mem} {d : Nat} {t : List AV} {Q : AV → Mem → Prop}
variable {α : Type} {st : Nat} {T : List AV → α → Prop} {a o : AV} {l : List α}
theorem SlN.slm (h:SlN M st T a l):SlM M st T a l:=by
 rcases h with⟨rfl,rfl | ⟨id,rfl,hg⟩⟩ | ⟨_,id,rows,rfl,hg,hA,hr⟩
 ·exact .inl ⟨rfl,rfl⟩
 ·exact .inr ⟨id,[],some 0,rfl,.inr rfl,hg,.nil,fun r hr=>by cases hr⟩
 ·exact .inr ⟨id,rows,none,rfl,.inl rfl,hg,hA,hr⟩
def insO (call:Tg→List AV→Mem→Option (AV × Mem))(M:Mem)(g:FuncId)(st bytes:Nat)(x i y:AV):Option (AV × Mem) :=
 match x with
 | .sl id off len none st'=>match y with
  | .sl id' off' n cap' st''=>match cellsOf M (.sl id' off' n cap' st''),cellsOf M (.sl id off len none st'),zQZ i,M.get id,M.get id' with
   | some new,some old,some i,some (.row str _),some (.row false _) =>
    match Nat.beq st st'&&Nat.beq st st''&&Nat.blt 0 n&&Nat.blt 0 st&&Nat.ble i len&&Nat.ble ((len+n)*bytes) 140737488355328&&Nat.ble (len+n) 140737488355328 && !(Nat.beq id id')&&Nat.ble M.size 140737488355328&&old.all oneA&&new.all oneA with
    | true=>match M.put id .dead with
     | some M=>match M.new (.row str (old.take (i*st)++new++old.drop (i*st))) with
      | some (id,M)=>some (.sl id 0 (len+n) none st,M)
      | none=>none
     | none=>none
    | false=>none
   | _,_,_,_,_=>none
  | _=>none
 | x=>call (.fn g) [x,i,y] M
theorem SlN.ins {bytes g:Nat}{r:List AV}{x:α}(wf:Wf X)(h:SlN X st T o l)(hn:l≠[])(hT:Cel T)(hx:T r x)(hr:r.length=st)(hs:0<st){i:Nat}(hi:i≤l.length)(hb1:(l.length+1)*bytes≤140737488355328)(hb2:l.length+1≤140737488355328)(hsz:X.size+1≤140737488355328)
  (k:∀ o' M',SlM M' st T o' (l.take i++[x]++l.drop i)→Wf M'→X.size≤M'.size→(∀ j,j<X.size→rowOf o≠some j→M'.get j=X.get j)→(∀ id,rowOf o'=some id→X.size≤id)→Q o' M') :
  W3 (insO call (X.add (.row false r)) g st bytes o (I64 i) (.sl X.size 0 1 (some 1) st)) Q:=by
 rcases h with⟨rfl,_⟩ | ⟨_,id,rows,rfl,hg,hA,hrs⟩
 ·exact absurd rfl hn
 have hl:=hA.length_eq
 have hfl:=zAI hrs
 have hid:=Mem.get_lt hg
 have wX:=wf.add (.row false r)
 have hg':(X.add (.row false r)).get id=some (.row false rows.flatten):=(zAF wf _ _ hid).trans hg
 have hgn:(X.add (.row false r)).get X.size=some (.row false r):=zAG wf _ _ (Nat.le_refl _) (Nat.lt_succ_self _)
 have hcell:cellsOf (X.add (.row false r)) (.sl X.size 0 1 (some 1) st)=some r:=zC3 (cs:=r) (n:=1) (st:=st) hgn (by omega)
 have hcl:cellsOf (X.add (.row false r)) (.sl id 0 rows.length none st)=some rows.flatten:=zC3 hg' hfl
 have hro:r.all oneA=true:=by
  rw[List.all_eq_true]
  exact fun y hy=>(hT r x hx y hy).1
 have hrf:rows.flatten.all oneA=true:=hT.all hA
 have hsp:(rows.flatten).take (i*st)++r++(rows.flatten).drop (i*st)=(rows.take i++[r]++rows.drop i).flatten:=by
  rw[zDM i hrs]
  have:rows.flatten.take (i*st)=(rows.take i).flatten:=by
   have h2:rows.flatten=(rows.take i).flatten++(rows.drop i).flatten:=by rw[← List.flatten_append,List.take_append_drop]
   have h3:(rows.take i).flatten.length=i*st:=by
    rw[zAI fun q hq=>hrs q (List.mem_of_mem_take hq),List.length_take,Nat.min_eq_left (by omega)]
   rw[h2,List.take_append_of_le_length (by omega),List.take_of_length_le (by omega)]
  rw[this]
  simp
 refine⟨.sl (X.size+1) 0 (rows.length+1) none st,((X.add (.row false r)).upd id .dead).add (.row false ((rows.take i++[r]++rows.drop i).flatten)), ?_,k _ _ (.inr ⟨X.size+1,rows.take i++[r]++rows.drop i,none, ?_,.inl rfl, ?_, ?_, ?_⟩) ((wX.upd _ _).add _) (by simp only[zA8,zAE];omega) (fun j hj hne=>?_) (fun id h=>by cases h;omega)⟩
 ·unfold insO
  have hne:Nat.beq id X.size=false:=by
   cases hb:Nat.beq id X.size with
   | false=>rfl
   | true=>have:=Nat.eq_of_beq_eq_true hb;omega
  have e1:zQZ (I64 i)=some i:=by simp [zQZ]
  simp only[hcell,hcl,hg',hgn,e1,Nat.beq_refl,hne,hro,hrf,Nat.ble_eq_true_of_le (show i≤rows.length by omega),Nat.ble_eq_true_of_le (show (rows.length+1)*bytes≤140737488355328 by rw[hl];omega),Nat.ble_eq_true_of_le (show rows.length+1≤140737488355328 by omega),Nat.ble_eq_true_of_le hsz,show Nat.blt 0 1=true from rfl,(zAQ 0 st).2 hs,Bool.and_self,Bool.not_false,zBD wX (show id<(X.add (.row false r)).size by rw[zA8];omega),zBO (wX.upd id .dead),zAE,zA8,hsp]
 ·have:(rows.take i++[r]++rows.drop i).length=rows.length+1:=by simp;omega
  rw[this]
 ·rw[zAG (wX.upd _ _) _ _ (by simp only[zAE,zA8];omega) (by simp only[zAE,zA8];omega)]
 ·exact((zDJ i hA).append (.cons hx .nil)).append (zFZ i hA)
 ·intro q hq
  rcases List.mem_append.1 hq with hq | hq
  ·rcases List.mem_append.1 hq with hq | hq
   ·exact hrs q (List.mem_of_mem_take hq)
   ·rw[List.mem_singleton] at hq;subst hq;exact hr
  ·exact hrs q (List.mem_of_mem_drop hq)
 ·rw[zAF (wX.upd _ _) _ _ (by simp only[zAE,zA8];omega),zAA wX _ _ _ (fun e=>hne (by rw[e];rfl)),zAF wf _ _ hj]
def SlQ {α:Type}(M:Mem)(st:Nat)(T:List AV→α→Prop)(a:AV)(l:List α)(m:Nat):Prop :=
 ∃ (id:Nat) (rows:List (List AV)) (rest:List AV),a = .sl id 0 rows.length none st∧M.get id=some (.row false (rows.flatten++rest))∧All2 T rows l∧(∀ r∈rows,r.length=st)∧rest.length=m*st
theorem SlQ.one {m:Nat}(h:SlQ M st T a l m):oneA a=true:=by obtain⟨_,_,_,rfl,_⟩:=h;rfl
theorem SlQ.cells {m:Nat}(h:SlQ M st T a l m):cellsA a=[a]:=by obtain⟨_,_,_,rfl,_⟩:=h;rfl
theorem SlQ.lt {m:Nat}(h:SlQ M st T a l m):∀ id,rowOf a=some id→id<M.size:=by
 obtain⟨i,_,_,rfl,hg,_⟩:=h
 intro id h;cases h;exact Mem.get_lt hg
theorem SlQ.rl {m:Nat}(h:SlQ M st T a l m){k:Nat}(hk:M.size≤k):((rowsOf a).all fun i=>Nat.blt i k)=true:=by
 obtain⟨i,_,_,rfl,hg,_⟩:=h
 have:=Mem.get_lt hg
 simp only[rowsOf,List.all_cons,List.all_nil,Bool.and_true]
 exact Nat.blt_eq ▸ (show i<k by omega)
theorem SlQ.keep {m:Nat}(h:SlQ M st T a l m)(k:∀ id,rowOf a=some id→N.get id=M.get id):SlQ N st T a l m:=by
 obtain⟨i,rows,rest,rfl,hg,hh⟩:=h
 exact⟨i,rows,rest,rfl,(k i rfl).trans hg,hh⟩
theorem SlQ.slm (h:SlQ M st T a l 0):SlM M st T a l:=by
 obtain⟨i,rows,rest,rfl,hg,hA,hr,hl⟩:=h
 obtain rfl:rest=[]:=List.eq_nil_of_length_eq_zero (by omega)
 rw[List.append_nil] at hg
 exact .inr ⟨i,rows,none,rfl,.inl rfl,hg,hA,hr⟩
theorem SlQ.app {m bytes:Nat}{y:AV}{rows':List (List AV)}{l':List α}(wf:Wf X)(h:SlQ X st T o l m)(hy:cellsOf X y=some rows'.flatten)(hly:lenA y=some rows'.length)(hA':All2 T rows' l')(hr':∀ r∈rows',r.length=st)(hT:Cel T)(hm:l'.length≤m)(hb1:(l.length+l'.length)*bytes≤140737488355328)(hb2:l.length+l'.length≤140737488355328)
  (k:∀ o' M',SlQ M' st T o' (l++l') (m - l'.length)→Wf M'→M'.size=X.size→(∀ j,rowOf o≠some j→M'.get j=X.get j)→rowOf o'=rowOf o→M'.wm=X.wm→((∀ j,rowOf o=some j→X.wm≤j)→M'.dirty=X.dirty)→Q o' M'):W3 (appO X st bytes o y) Q:=by
 obtain⟨id,rows,rest,rfl,hg,hA,hr,hl⟩:=h
 have hid:=Mem.get_lt hg
 have hfl:=zAI hr
 have hfl':=zAI hr'
 have e1:=hA.length_eq
 have e2:=hA'.length_eq
 have hcl:cellsOf X (.sl id 0 rows.length none st)=some rows.flatten:=by
  have hb:Nat.ble (0+rows.length*st) (rows.flatten++rest).length=true:=Nat.ble_eq_true_of_le (by rw[List.length_append];omega)
  have hsl:slot (rows.flatten++rest) 0 (rows.length*st)=rows.flatten:=by
   simp only[slot,List.drop_zero]
   rw[List.take_append_of_le_length (by omega),List.take_of_length_le (by omega)]
  simp only[cellsOf,zBJ hg,hb,hsl]
 have hmul:l'.length*st≤m*st:=Nat.mul_le_mul_right _ hm
 by_cases hz:rows'.length=0
 ·obtain rfl:=List.eq_nil_of_length_eq_zero hz
  have:l'=[]:=List.eq_nil_of_length_eq_zero (by omega)
  subst this
  refine⟨.sl id 0 rows.length none st,X, ?_,k _ _ ⟨id,rows,rest,rfl,hg,by rw[List.append_nil];exact hA,hr,by rw[List.length_nil,Nat.sub_zero];exact hl⟩ wf rfl (fun _ _=>rfl) rfl rfl (fun _=>rfl)⟩
  unfold appO
  simp only[hy,hly,hcl]
  rfl
 ·have hb0:Nat.beq rows'.length 0=false:=by
   cases hb:Nat.beq rows'.length 0 with
   | false=>rfl
   | true=>exact absurd (Nat.eq_of_beq_eq_true hb) hz
  have hro:rows'.flatten.all oneA=true:=hT.all hA'
  have hrb:Nat.beq rows'.flatten.length (rows'.length*st)=true:=by rw[hfl'];exact Nat.beq_refl _
  have hcb:Nat.ble (0+(rows.length+rows'.length)*st) (rows.flatten++rest).length=true:=Nat.ble_eq_true_of_le (by rw[List.length_append,hfl,hl,Nat.zero_add,Nat.add_mul,e2];omega)
  refine⟨.sl id 0 (rows.length+rows'.length) none st,X.upd id (.row false (lay (rows.flatten++rest) (0+rows.length*st) rows'.flatten)), ?_,k _ _ ⟨id,rows++rows',rest.drop (l'.length*st),by rw[List.length_append], ?_,hA.append hA',fun r h=>(List.mem_append.1 h).elim (hr r) (hr' r), ?_⟩ (wf.upd _ _) rfl (fun j hj=>zAA wf _ _ _ (fun e=>hj (by rw[e];rfl))) rfl rfl (fun hw=>by
   show (X.dirty || Nat.blt id X.wm)=X.dirty
   have:=hw id rfl
   cases hb:Nat.blt id X.wm with
   | false=>simp
   | true=>have:=(zAQ _ _).1 hb;omega)⟩
  ·unfold appO
   simp only[hy,hly,hcl]
   unfold zB2
   simp only[hb0,hro,hrb,Bool.and_self,Nat.ble_eq_true_of_le (show (rows.length+rows'.length)*bytes≤140737488355328 by rw[e1,e2];omega),Nat.ble_eq_true_of_le (show rows.length+rows'.length≤140737488355328 by omega),Nat.beq_refl,hg,hcb,zBD wf hid]
  ·rw[zAP wf _ _ hid]
   congr 2
   unfold lay
   rw[Nat.zero_add,hfl',List.flatten_append,List.take_append_of_le_length (by omega),List.take_of_length_le (by omega),← hfl,List.drop_length_add_append,e2]
  ·rw[List.length_drop,hl,Nat.sub_mul]
theorem zKO (z:Value):∀ n,(zAD z n).length=n*(scs z).length
 | 0=>by simp [zAD]
 | n+1=>by rw[zAD,List.length_append,zKO z n,Nat.succ_mul];omega
theorem zP4 {z:Value}(h:(scs z).all oneA=true):∀ n,(zAD z n).all oneA=true
 | 0=>rfl
 | n+1=>by rw[zAD,List.all_append,h,zP4 h n];rfl
theorem zQ5 {bytes n:Nat}{z:Value}(wf:Wf X)(hz:(scs z).all oneA=true)(hl:(scs z).length=st)(hn:0<n)(hb1:n*bytes≤140737488355328)(hb2:n≤140737488355328)(hs:0<st):zTD X st bytes z (.sc (.slice none 0 0)) (some n)=some (.sl X.size 0 n none st,X.add (.row false (zAD z n))):=by
 have hb0:Nat.beq n 0=false:=by
  cases hb:Nat.beq n 0 with
  | false=>rfl
  | true=>have:=Nat.eq_of_beq_eq_true hb;omega
 have h0:cellsOf X (.sc (.slice none 0 0))=some []:=rfl
 have hrb:Nat.beq (zAD z n).length (n*st)=true:=by rw[zKO,hl];exact Nat.beq_refl _
 unfold zTD
 simp only[h0]
 unfold zB2
 simp only[hb0,zP4 hz,hrb,Bool.and_self,List.nil_append,Nat.ble_eq_true_of_le hb1,Nat.ble_eq_true_of_le hb2,Nat.zero_add,zBO wf]
theorem SlQ.fresh {n:Nat}{z:Value}(wf:Wf X)(hl:(scs z).length=st):SlQ (X.add (.row false (zAD z n))) st T (.sl X.size 0 0 none st) ([]:List α) n :=
 ⟨X.size,[],zAD z n,rfl,zAG wf _ _ (Nat.le_refl _) (Nat.lt_succ_self _),.nil,⟨fun r h=>absurd h (by simp),by rw[zKO,hl]⟩⟩
def capO (M:Mem)(a:AV):OR:=match a with
 | .sc (.slice none _ c)=>some (.sc (goInt c),M)
 | .sl _ _ _ (some c) _=>some (.sc (goInt c),M)
 | .pv _ _ (some c) _=>some (.sc (goInt c),M)
 | _=>none
theorem zYE (x:Operand):zA6 P call t M (.cap x)=capO M (zA7 t x):=rfl
theorem zNG (M:Mem):capO M (.sc (.slice none 0 0))=some (I64 0,M):=rfl
theorem zS5 (M:Mem)(st:Nat):slcO M st (.sc (.slice none 0 0)) none (some (I64 0)) none=some (.sc (.slice none 0 0),M):=rfl
theorem zVA {id n:Nat}{cs:List AV}(h:M.get id=some (.row false cs)):slcO M st (.sl id 0 n none st) none (some (I64 0)) none=some (.sl id 0 0 none st,M):=by
 have hrd:=zBJ h
 have b0:bnd (cs.length / st) (some (I64 0)) n=some 0:=by
  have:=zF4 (cs.length / st) 0 n .i64 (Nat.zero_le _)
  simpa using this
 unfold slcO
 simp only[Nat.beq_refl,hrd,Nat.sub_zero,zHV,Nat.zero_mul,Nat.add_zero]
 rw[b0]
theorem Sl.cells2 (h:Sl st T a l)(M:Mem):∃ rows:List (List AV),cellsOf M a=some rows.flatten∧lenA a=some rows.length∧All2 T rows l ∧ ∀ r∈rows,r.length=st:=by
 rcases h with⟨rfl,rfl⟩ | ⟨rows,cap,rfl,hA,hr⟩
 ·exact⟨[],rfl,rfl,.nil,fun r h=>by cases h⟩
 ·refine⟨rows, ?_,rfl,hA,hr⟩
  simp only[cellsOf]
theorem SlM.cells2 (h:SlM M st T a l):∃ rows:List (List AV),cellsOf M a=some rows.flatten∧lenA a=some rows.length∧All2 T rows l ∧ ∀ r∈rows,r.length=st:=by
 rcases h with⟨rfl,rfl⟩ | ⟨id,rows,cap,rfl,_,hg,hA,hr⟩
 ·exact⟨[],rfl,rfl,.nil,fun r h=>by cases h⟩
 ·exact⟨rows,zC3 hg (zAI hr),rfl,hA,hr⟩
def lq (K:Fr→Mem→Prop)(Q:AExit→Fr→Mem→Prop):AExit→Fr→Mem→Prop
 | .normal,fr,M=>K fr M
 | e,fr,M=>Q e fr M
theorem zCX (K:Fr→Mem→Prop)(Q:AExit→Fr→Mem→Prop)(fr:Fr)(M:Mem):lq K Q .normal fr M=K fr M:=rfl
theorem zGC (K:Fr→Mem→Prop)(Q:AExit→Fr→Mem→Prop)(i:Nat)(fr:Fr)(M:Mem):lq K Q (.exit i) fr M=Q (.exit i) fr M:=rfl
theorem w_un {rd:Option Nat}{body:ACode}{fr:Fr}{Q:AExit→Fr→Mem→Prop}{m:Nat}(hm:0<m)(h:W (zAB P fuel call rd body fr M) (lq (fun fr M=>W (iter (zAB P fuel call rd body) (m - 1) fr M) Q) Q)):W (iter (zAB P fuel call rd body) m fr M) Q:=by
 obtain⟨k,rfl⟩:∃ k,m=k+1:=⟨m - 1,by omega⟩
 obtain⟨e,fr',M',he,hq⟩:=h
 unfold iter
 rw[he]
 cases e with
 | normal=>exact hq
 | exit i=>exact⟨_,_,_,rfl,hq⟩
 | ret=>exact⟨_,_,_,rfl,hq⟩
end
end Go.Ax
/-
 The executor,run on symbols: IndexFunc as a call that is lent what it is asked about.
-/
namespace Go.Ax
open Go
variable {P : Program} {fuel : Nat} {fs : Nat → Option AFunc} {M : Mem}
section
variable {α : Type} {T : List AV → α → Prop} {st : Nat} {ag : Bool} {a : AV} {l : List α}
end
end Go.Ax
/-
 The executor,run on symbols: slices.DeleteFunc on a slice of ours.
-/
namespace Go.Ax
open Go
section
variable {P : Program} {fuel : Nat} {fs : Nat → Option AFunc} {M : Mem} {Q : AV → Mem → Prop}
variable {α : Type} {T : List AV → α → Prop} {st : Nat} {ag : Bool} {a o : AV} {l : List α}
def SlZ {α:Type}(M:Mem)(st:Nat)(T:List AV→α→Prop)(a:AV)(l:List α):Prop :=
 (a = .sc (.slice none 0 0)∧l=[]) ∨ ∃ (id:Nat) (rows:List (List AV)) (rest:List AV) (cap:Option Nat),a = .sl id 0 rows.length cap st∧M.get id=some (.row false (rows.flatten++rest))∧All2 T rows l∧(∀ r∈rows,r.length=st)∧(∀ y∈rest,∃ v,y = .sc v)
theorem SlZ.hand {N:Mem}(h:SlZ N st T a l)(wf:Wf N)(hT:FzT T){k:Nat}(hk:1<k):∃ a' N',icy k N a=some (a',N')∧Sl st T a' l∧Wf N'∧N'.size=N.size∧(∀ j,rowOf a≠some j→N'.get j=N.get j):=by
 obtain⟨k,rfl⟩:∃ j,k=j+1:=⟨k - 1,by omega⟩
 rcases h with⟨rfl,rfl⟩ | ⟨id,rows,rest,cap,rfl,hg,hA,hr,hp⟩
 ·exact⟨_,N,rfl,.inl ⟨rfl,rfl⟩,wf,rfl,fun _ _=>rfl⟩
 ·have hfl:=zAI hr
  have lid:=Mem.get_lt hg
  have hcs:∀ N,icyL (icy k) N (rows.flatten++rest)=some (rows.flatten++rest,N):=zC5 (by omega) fun x hx N=>by
   rcases List.mem_append.1 hx with hx | hx
   ·exact hT.celI.flat hA x hx N k (by omega)
   ·obtain⟨v,rfl⟩:=hp x hx
    exact zLE v (by omega)
  have hble:Nat.ble (0+rows.length*st) (rows.flatten++rest).length=true:=zFU (by rw[List.length_append];omega)
  have hsl:slot (rows.flatten++rest) 0 (rows.length*st)=rows.flatten:=by
   simp only[slot,List.drop_zero]
   rw[List.take_append_of_le_length (by omega),List.take_of_length_le (by omega)]
  refine⟨.pv rows.flatten rows.length cap st,N.upd id (.fro (rows.flatten++rest)), ?_,.inr ⟨rows,cap,rfl,hA,hr⟩,wf.upd _ _,rfl,fun j hj=>zAA wf _ _ _ (fun e=>hj (by rw[e];rfl))⟩
  simp only[icy,zBJ hg,hble,hcs,hg,zBD wf lid,hsl]
theorem SlZ.one {N:Mem}(h:SlZ N st T a l):oneA a=true:=by rcases h with⟨rfl,_⟩ | ⟨_,_,_,_,rfl,_⟩ <;> rfl
theorem SlZ.cells {N:Mem}(h:SlZ N st T a l):cellsA a=[a]:=by rcases h with⟨rfl,_⟩ | ⟨_,_,_,_,rfl,_⟩ <;> rfl
theorem SlZ.lt {N:Mem}(h:SlZ N st T a l):∀ id,rowOf a=some id→id<N.size:=by
 rcases h with⟨rfl,_⟩ | ⟨i,_,_,_,rfl,hg,_⟩
 ·intro id h;cases h
 ·intro id h;cases h;exact Mem.get_lt hg
theorem SlZ.rl {N:Mem}(h:SlZ N st T a l){k:Nat}(hk:N.size≤k):((rowsOf a).all fun i=>Nat.blt i k)=true:=by
 rcases h with⟨rfl,_⟩ | ⟨i,_,_,_,rfl,hg,_⟩
 ·rfl
 ·have:=Mem.get_lt hg
  simp only[rowsOf,List.all_cons,List.all_nil,Bool.and_true]
  exact Nat.blt_eq ▸ (show i<k by omega)
theorem SlZ.keep {N N':Mem}(h:SlZ N st T a l)(k:∀ id,rowOf a=some id→N'.get id=N.get id):SlZ N' st T a l:=by
 rcases h with h | ⟨i,rows,rest,cap,rfl,hg,hh⟩
 ·exact .inl h
 ·exact .inr ⟨i,rows,rest,cap,rfl,(k i rfl).trans hg,hh⟩
end
end Go.Ax
