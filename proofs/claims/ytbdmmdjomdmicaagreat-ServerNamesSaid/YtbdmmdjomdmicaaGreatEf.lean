/-
 The executor on abstract memory, part 6: what it is, and that what it finds is so of the program.
-/
import Derived.Test.YtbdmmdjomdmicaaGreatEe
import Derived.Lib.Overlaps
set_option linter.unusedSimpArgs false
set_option linter.unusedVariables false
set_option maxRecDepth 100000
namespace Go.Ax
open Go
variable {P : Program} {fs : Nat → Option AFunc} {fuel : Nat}
def FzT {α:Type}(T:List AV→α→Prop):Prop:=∀ r x,T r x → ∀ y∈r,Fz y
theorem FzT.cel {α:Type}{T:List AV→α→Prop}(h:FzT T):Cel T:=fun r x hr y hy=>⟨(h r x hr y hy).one,fun M k hk=>(h r x hr y hy).frz M 0 k hk⟩
theorem FzT.celI {α:Type}{T:List AV→α→Prop}(h:FzT T):CelI T:=fun r x hr y hy M k hk=>(h r x hr y hy).icy M k hk
theorem zH9 {k:Nat}(hk:0<k):∀ {r:List AV} (M:Mem),(∀ y∈r,Fz y)→icyL (icy k) M r=some (r,M)
 | [],_,_=>rfl
 | x::r,M,h=>by
  simp only[icyL,(h x (by simp)).icy M k hk,zH9 hk (r:=r) M fun y hy=>h y (List.mem_cons_of_mem _ hy)]
theorem zK3 {m k:Nat}(hk:0<k):∀ {r:List AV} (M:Mem),(∀ y∈r,Fz y)→frzL (frz M m k) r=some r
 | [],_,_=>rfl
 | x::r,M,h=>by
  simp only[frzL,(h x (by simp)).frz M m k hk,zK3 hk (r:=r) M fun y hy=>h y (List.mem_cons_of_mem _ hy)]
def elA (ag:Bool)(r:List AV):AV:=match ag with
 | true => .agg r
 | false=>nth zA6 r 0
theorem zPJ {st:Nat}{ag:Bool}{r:List AV}(hl:r.length=st)(h1:ag=false→st=1):part r 0 st ag=some (elA ag r):=by
 cases ag with
 | true=>rw[zKZ _ _ _ (by omega),zBC _ _ hl.symm];rfl
 | false =>
  have:=h1 rfl
  subst this
  match r,hl with
  | [x],_=>rw[zI6];rfl
section
variable {α : Type} {T : List AV → α → Prop} {st : Nat} {ag : Bool} {a : AV} {l : List α}
end
structure NK (α β:Type) where
 st:Nat
 H:α→List AV
 f:α→List β
 T:List AV→β→Prop
 ok:α→Prop
 hl:∀ x,(H x).length+1=st
 hz:∀ x,∀ y∈H x,Fz y
 ft:FzT T
namespace NK
variable {α β : Type} (K : NK α β)
def is (r:List AV)(x:α):Prop:=∃ ra,r=K.H x++[ra]∧Sl 1 K.T ra (K.f x)∧K.ok x
theorem fz:FzT K.is:=fun r x h y hy=>by
 obtain⟨ra,rfl,h,_⟩:=h
 rcases List.mem_append.1 hy with hy | hy
 ·exact K.hz x y hy
 ·rw[List.mem_singleton] at hy;subst hy;exact h.fz
def isN (r:List AV)(x:α × AV):Prop:=r=K.H x.1++[x.2]∧oneA x.2=true∧cellsA x.2=[x.2]
def InN (M:Mem)(B:Nat)(x:α × AV):Prop:=SlM M 1 K.T x.2 (K.f x.1)∧(∀ j,rowOf x.2=some j→B≤j)∧K.ok x.1
variable {K} {M N : Mem} {B : Nat}
theorem isN.len {r:List AV}{x:α × AV}(h:K.isN r x):r.length=K.st:=by rw[h.1,List.length_append,List.length_singleton];exact K.hl _
theorem InN.keep {x:α × AV}(h:K.InN M B x)(k:∀ j,rowOf x.2=some j→N.get j=M.get j):K.InN N B x:=⟨h.1.keep k,h.2.1,h.2.2⟩
theorem InN.lt {x:α × AV}(h:K.InN M B x):∀ j,rowOf x.2=some j→j<M.size:=h.1.lt
theorem InN.mono {B':Nat}{x:α × AV}(h:K.InN M B x)(hb:B'≤B):K.InN M B' x:=⟨h.1,fun j hj=>Nat.le_trans hb (h.2.1 j hj),h.2.2⟩
theorem zKB {rows:List (List AV)}{l:List (α × AV)}(h:All2 K.isN rows l):rows.flatten.all oneA=true:=by
 rw[List.all_eq_true]
 induction h with
 | nil=>simp
 | cons a _ ih =>
  intro y hy
  rw[List.flatten_cons,List.mem_append] at hy
  rcases hy with hy | hy
  ·rw[a.1,List.mem_append,List.mem_singleton] at hy
   rcases hy with hy | rfl
   ·exact(K.hz _ _ hy).one
   ·exact a.2.1
  ·exact ih y hy
variable (K) in
def NN (M:Mem)(B:Nat)(o:AV)(l:List α):Prop:=∃ lr:List (α × AV),lr.map (·.1)=l∧SlM M K.st K.isN o lr∧(∀ x∈lr,K.InN M B x)∧(∀ j,rowOf o=some j→B≤j)∧(∀ x∈lr,∀ j,rowOf o=some j→rowOf x.2≠some j)
theorem NN.nil (M:Mem)(B:Nat):K.NN M B NIL []:=⟨[],rfl,SlM.nil,by simp,(fun j h=>by cases h),by simp⟩
theorem NN.keep {o:AV}{l:List α}(h:K.NN M B o l)(k:∀ j,B≤j→j<M.size→N.get j=M.get j):K.NN N B o l:=by
 obtain⟨lr,h1,h2,h3,h4,h5⟩:=h
 exact⟨lr,h1,h2.keep fun j hj=>k j (h4 j hj) (h2.lt j hj),fun x hx=>(h3 x hx).keep fun j hj=>k j ((h3 x hx).2.1 j hj) ((h3 x hx).lt j hj),h4,h5⟩
theorem NN.mono {B':Nat}{o:AV}{l:List α}(h:K.NN M B o l)(hb:B'≤B):K.NN M B' o l:=by
 obtain⟨lr,h1,h2,h3,h4,h5⟩:=h
 exact⟨lr,h1,h2,fun x hx=>(h3 x hx).mono hb,fun j hj=>Nat.le_trans hb (h4 j hj),h5⟩
theorem NN.len {o:AV}{l:List α}(h:K.NN M B o l):∀ N,lenO N o=some (I64 l.length,N):=by
 obtain⟨lr,rfl,h2,_⟩:=h
 intro N
 rw[h2.len N,List.length_map]
theorem NN.one {o:AV}{l:List α}(h:K.NN M B o l):oneA o=true:=by obtain⟨lr,rfl,h2,_⟩:=h;exact h2.one
theorem NN.cells {o:AV}{l:List α}(h:K.NN M B o l):cellsA o=[o]:=by obtain⟨lr,rfl,h2,_⟩:=h;exact h2.cells
theorem NN.rows {o:AV}{l:List α}(h:K.NN M B o l){n:Nat}(hn:M.size≤n):((rowsOf o).all fun i=>Nat.blt i n)=true:=by obtain⟨lr,rfl,h2,_⟩:=h;exact zPR h2.rl hn
theorem NN.lt {o:AV}{l:List α}(h:K.NN M B o l):∀ j,rowOf o=some j→B≤j∧j<M.size:=by obtain⟨lr,rfl,h2,_,h4,_⟩:=h;exact fun j hj=>⟨h4 j hj,h2.lt j hj⟩
theorem NN.ok {o:AV}{l:List α}(h:K.NN M B o l):∀ x∈l,K.ok x:=by
 obtain⟨lr,rfl,_,h3,_⟩:=h
 intro x hx
 obtain⟨y,hy,rfl⟩:=List.mem_map.1 hx
 exact(h3 y hy).2.2
theorem NN.app {o ra:AV}{l:List α}{x:α}{by':Nat}{Q:AV→Mem→Prop}(wf:Wf N)(h:K.NN N B o l)(hx:K.isN (K.H x++[ra]) (x,ra))(hi:K.InN N B (x,ra))(hne:∀ j,rowOf o=some j→rowOf ra≠some j)(hb:(l.length+1)*by'≤140737488355328)(hb2:l.length+1≤140737488355328)(hB:B≤N.size)
  (kk:∀ o' M',K.NN M' B o' (l++[x])→Wf M'→N.size≤M'.size→(∀ j,j<N.size→rowOf o≠some j→M'.get j=N.get j)→(∀ id,rowOf o'=some id→rowOf o=some id∨N.size≤id)→M'.wm=N.wm→Q o' M'):W3 (appO (N.add (.row false (K.H x++[ra]))) K.st by' o (.sl N.size 0 1 (some 1) K.st)) Q:=by
 obtain⟨lr,rfl,h2,h3,h4,h5⟩:=h
 rw[List.length_map] at hb hb2
 have g:=zAN wf (.row false (K.H x++[ra])) N.size (Nat.le_refl _) (Nat.lt_succ_self _)
 have hA:All2 K.isN [K.H x++[ra]] [(x,ra)]:=.cons hx .nil
 have h':SlM (N.add (.row false (K.H x++[ra]))) K.st K.isN o lr:=h2.keep fun j hj=>zBJ wf _ _ (h2.lt j hj)
 have hlen:(K.H x++[ra]).length=K.st:=isN.len hx
 have hst:0<K.st:=by rw[← K.hl x];omega
 obtain⟨o',M',e,m,w,le,le2,kp,nw,wm⟩:=h'.appO (wf.add _) (y:=.sl N.size 0 1 (some 1) K.st) (l':=[(x,ra)]) (new:=[K.H x++[ra]]) (bytes:=by') (by rw[zCB g (by rw[hlen];omega)];simp) rfl hA (by simp only[List.mem_singleton,forall_eq];exact hlen) (zKB hA) hst (by simpa using hb) (by simpa using hb2)
 rw[zAK] at le kp nw
 have kp':∀ j,j<N.size→rowOf o≠some j→M'.get j=N.get j:=fun j hj hj2=>by rw[kp j (by omega) hj2,zBJ wf _ _ hj]
 refine⟨o',M',e,kk o' M' ⟨lr++[(x,ra)],by simp,m,fun y hy=>?_,fun j hj=>?_,fun y hy j hj=>?_⟩ w (by omega) kp' (fun id hid=>(nw id hid).imp (fun h=>h) (fun h=>by omega)) wm⟩
 ·exact zE0f
 ·rcases nw j hj with h | h
  ·exact h4 j h
  ·omega
 ·exact zE08
end NK
theorem zFN {f:AV→Option AV}:∀ {a b a' b':List AV},frzL f a=some a'→frzL f b=some b'→frzL f (a++b)=some (a'++b')
 | [],b,a',b',h1,h2=>by
  simp only[frzL,Option.some.injEq] at h1
  subst h1
  exact h2
 | x::a,b,a',b',h1,h2=>by
  simp only[frzL] at h1
  split at h1
  ·rename_i y hy
   split at h1
   ·rename_i r hr
    simp only[Option.some.injEq] at h1
    subst h1
    simp only[List.cons_append,frzL,hy,zFN hr h2]
   ·cases h1
  ·cases h1
theorem zCZ {f:Mem→AV→Option (AV × Mem)}:∀ {a b a' b':List AV} {M N K:Mem},icyL f M a=some (a',N)→icyL f N b=some (b',K)→icyL f M (a++b)=some (a'++b',K)
 | [],b,a',b',M,N,K,h1,h2=>by
  simp only[icyL,Option.some.injEq,Prod.mk.injEq] at h1
  obtain⟨rfl,rfl⟩:=h1
  exact h2
 | x::a,b,a',b',M,N,K,h1,h2=>by
  simp only[icyL] at h1
  split at h1
  ·rename_i y M1 hy
   split at h1
   ·rename_i r M2 hr
    simp only[Option.some.injEq,Prod.mk.injEq] at h1
    obtain⟨rfl,rfl⟩:=h1
    simp only[List.cons_append,icyL,hy,zCZ hr h2]
   ·cases h1
  ·cases h1
namespace NK
variable {α β : Type} {K : NK α β} {M N : Mem} {B : Nat}
theorem InN.frz {x:α × AV}(h:K.InN M B x){k:Nat}(hk:1<k):∃ ra,(∀ N:Mem,(∀ j,rowOf x.2=some j→N.get j=M.get j)→frzL (Go.Ax.frz N 0 k) (K.H x.1++[x.2])=some (K.H x.1++[ra]))∧Sl 1 K.T ra (K.f x.1):=by
 obtain⟨ra,b1,f1⟩:=zNH h.1 K.ft.cel k hk
 refine⟨ra,fun N hN=>?_,b1⟩
 refine zFN (zK3 (by omega) N (K.hz x.1)) ?_
 simp only[frzL,f1 N hN]
theorem zIA {k:Nat}(hk:1<k):∀ {rows:List (List AV)} {lr:List (α × AV)},All2 K.isN rows lr→(∀ x∈lr,K.InN M B x) →
  ∃ rows',(∀ N:Mem,(∀ j,B≤j→N.get j=M.get j)→frzL (Go.Ax.frz N 0 k) rows.flatten=some rows'.flatten)∧All2 K.is rows' (lr.map (·.1))∧(∀ r∈rows',r.length=K.st)
 | _,_,.nil,_=>⟨[],fun _ _=>rfl,.nil,by simp⟩
 | _,_,.cons (y:=x) (m:=lr) a t,h=>by
  have hx:=h x (by simp)
  obtain⟨ra,i1,b1⟩:=hx.frz hk
  obtain⟨rows',i2,hA,hl⟩:=zIA hk t fun y hy=>h y (by simp [hy])
  obtain⟨rfl,_⟩:=a
  refine⟨(K.H x.1++[ra])::rows',fun N hN=>?_,.cons ⟨ra,rfl,b1,hx.2.2⟩ hA, ?_⟩
  ·rw[List.flatten_cons,List.flatten_cons]
   exact zFN (i1 N fun j hj=>hN j (hx.2.1 j hj)) (i2 N hN)
  ·exact zE0c
theorem NN.frz {o:AV}{l:List α}(h:K.NN M B o l){k:Nat}(hk:1<k):∃ o',(∀ N:Mem,(∀ j,B≤j→N.get j=M.get j)→Go.Ax.frz N 0 (k+1) o=some o')∧Sl K.st K.is o' l:=by
 obtain⟨lr,rfl,h2,h3,h4,_⟩:=h
 rcases h2 with⟨rfl,rfl⟩ | ⟨id,rows,cap,rfl,_,hg,hA,hr⟩
 ·exact⟨NIL,fun _ _=>rfl,.inl ⟨rfl,rfl⟩⟩
 ·obtain⟨rows',i1,hA',hl'⟩:=zIA (k:=k) hk hA h3
  have hfl:=zAE hr
  have hfl':=zAE hl'
  have hn:rows'.length=rows.length:=by rw[hA'.length_eq,List.length_map,hA.length_eq]
  have hble:Nat.ble (0+rows.length*K.st) rows.flatten.length=true:=zAT (by omega)
  have hsl:slot rows'.flatten 0 (rows.length*K.st)=rows'.flatten:=zBC _ _ (by rw[hfl',hn])
  refine⟨.pv rows'.flatten rows.length cap K.st,fun N hN=>?_,.inr ⟨rows',cap,by rw[hn],hA',hl'⟩⟩
  simp only[Go.Ax.frz,zBA ((hN id (h4 id rfl)).trans hg),hble,i1 N hN,hsl,Nat.ble_eq_true_of_le (Nat.zero_le id)]
def Rd1 {β:Type}(M:Mem)(T:List AV→β→Prop)(v:AV)(l:List β):Prop :=
 (v=NIL∧l=[]) ∨ ∃ (id:Nat) (rows:List (List AV)) (cap:Option Nat),v = .sl id 0 rows.length cap 1∧M.rd id=some rows.flatten∧All2 T rows l ∧ ∀ r∈rows,r.length=1
theorem Rd1.of {T:List AV→β→Prop}{v:AV}{l:List β}(h:SlM M 1 T v l):Rd1 M T v l:=by
 rcases h with h | ⟨id,rows,cap,rfl,_,hg,hA,hr⟩
 ·exact .inl h
 ·exact .inr ⟨id,rows,cap,rfl,zBA hg,hA,hr⟩
theorem Rd1.keep {T:List AV→β→Prop}{v:AV}{l:List β}(h:Rd1 M T v l)(k:∀ j,N.rd j=M.rd j):Rd1 N T v l:=by
 rcases h with h | ⟨id,rows,cap,rfl,hg,hA,hr⟩
 ·exact .inl h
 ·exact .inr ⟨id,rows,cap,rfl,(k id).trans hg,hA,hr⟩
theorem zL3 {id:Nat}{ds:List AV}{b:Bool}(wf:Wf M)(hg:M.get id=some (.row b ds)):∀ j,(M.upd id (.fro ds)).rd j=M.rd j:=by
 intro j
 have lid:=Mem.get_lt hg
 by_cases e:id=j
 ·subst e
  rw[zD6,zD6,zDE wf _ _ lid,hg];rfl
 ·rw[zD6,zD6,zB5 wf _ _ _ e]
theorem Rd1.icy {T:List AV→β→Prop}{v:AV}{l:List β}(h:Rd1 M T v l)(wf:Wf M)(hT:FzT T){k:Nat}(hk:1<k):∃ v' M',Go.Ax.icy k M v=some (v',M')∧Sl 1 T v' l∧Wf M'∧M'.size=M.size ∧ ∀ j,M'.rd j=M.rd j:=by
 obtain⟨k,rfl⟩:∃ j,k=j+1:=⟨k - 1,by omega⟩
 rcases h with⟨rfl,rfl⟩ | ⟨id,rows,cap,rfl,hg,hA,hr⟩
 ·exact⟨NIL,M,rfl,.inl ⟨rfl,rfl⟩,wf,rfl,fun _=>rfl⟩
 ·have hfl:=zAE hr
  have hcs:∀ N,icyL (Go.Ax.icy k) N rows.flatten=some (rows.flatten,N):=zEA (by omega) fun x hx N=>hT.celI.flat hA x hx N k (by omega)
  have hble:Nat.ble (0+rows.length*1) rows.flatten.length=true:=zAT (by omega)
  have hsl:slot rows.flatten 0 (rows.length*1)=rows.flatten:=zBC _ _ hfl.symm
  have hrd:=hg
  rw[zD6] at hrd
  cases ho:M.get id with
  | none=>rw[ho] at hrd;cases hrd
  | some x =>
   rw[ho] at hrd
   cases x with
   | row b ds =>
    have e:ds=rows.flatten:=by simpa [rd1] using hrd
    subst e
    exact⟨_,M.upd id (.fro rows.flatten),by simp only[Go.Ax.icy,hg,hble,hcs,ho,zC8 wf (Mem.get_lt ho),hsl],.inr ⟨rows,cap,rfl,hA,hr⟩,wf.upd _ _,rfl,zL3 wf ho⟩
   | fro ds=>exact⟨_,M,by simp only[Go.Ax.icy,hg,hble,hcs,ho,hsl],.inr ⟨rows,cap,rfl,hA,hr⟩,wf,rfl,fun _=>rfl⟩
   | _=>simp [rd1] at hrd
theorem zIB {k:Nat}(hk:1<k):∀ {rows:List (List AV)} {lr:List (α × AV)} {M:Mem},All2 K.isN rows lr→Wf M→(∀ x∈lr,Rd1 M K.T x.2 (K.f x.1)∧K.ok x.1) →
  ∃ rows' M',icyL (Go.Ax.icy k) M rows.flatten=some (rows'.flatten,M')∧All2 K.is rows' (lr.map (·.1))∧(∀ r∈rows',r.length=K.st)∧Wf M'∧M'.size=M.size ∧ ∀ j,M'.rd j=M.rd j
 | _,_,M,.nil,wf,_=>⟨[],M,rfl,.nil,by simp,wf,rfl,fun _=>rfl⟩
 | _,_,M,.cons (y:=x) (m:=lr) a t,wf,h=>by
  obtain⟨ra,M1,i1,b1,w1,s1,r1⟩:=(h x (by simp)).1.icy wf K.ft hk
  obtain⟨rows',M2,i2,hA,hl,w2,s2,r2⟩:=zIB hk t w1 fun y hy=>⟨(h y (by simp [hy])).1.keep r1,(h y (by simp [hy])).2⟩
  obtain⟨rfl,_⟩:=a
  refine⟨(K.H x.1++[ra])::rows',M2, ?_,.cons ⟨ra,rfl,b1,(h x (by simp)).2⟩ hA, ?_,w2,s2.trans s1,fun j=>(r2 j).trans (r1 j)⟩
  ·rw[List.flatten_cons,List.flatten_cons]
   refine zCZ (zCZ (zH9 (by omega) M (K.hz x.1)) ?_) i2
   simp only[icyL,i1]
  ·exact zE0c
theorem NN.icyk {o:AV}{l:List α}(h:K.NN M B o l)(wf:Wf M){k:Nat}(hk:1<k):∃ o' M',Go.Ax.icy (k+1) M o=some (o',M')∧Sl K.st K.is o' l:=by
 obtain⟨lr,rfl,h2,h3,_,_⟩:=h
 rcases h2 with⟨rfl,rfl⟩ | ⟨id,rows,cap,rfl,_,hg,hA,hr⟩
 ·exact⟨NIL,M,rfl,.inl ⟨rfl,rfl⟩⟩
 ·obtain⟨rows',M1,i1,hA',hl',w1,s1,r1⟩:=zIB (k:=k) hk hA wf fun x hx=>⟨Rd1.of (h3 x hx).1,(h3 x hx).2.2⟩
  have hfl:=zAE hr
  have hfl':=zAE hl'
  have hn:rows'.length=rows.length:=by rw[hA'.length_eq,List.length_map,hA.length_eq]
  have hrd:=(r1 id).trans (zBA hg)
  have hble:Nat.ble (0+rows.length*K.st) rows.flatten.length=true:=zAT (by omega)
  have hsl:slot rows'.flatten 0 (rows.length*K.st)=rows'.flatten:=zBC _ _ (by rw[hfl',hn])
  have hsl':Sl K.st K.is (.pv rows'.flatten rows.length cap K.st) (lr.map (·.1)):=.inr ⟨rows',cap,by rw[hn],hA',hl'⟩
  rw[zD6] at hrd
  cases ho:M1.get id with
  | none=>rw[ho] at hrd;cases hrd
  | some x =>
   rw[ho] at hrd
   cases x with
   | row b ds=>exact⟨_,M1.upd id (.fro ds),by simp only[Go.Ax.icy,zBA hg,hble,i1,ho,zC8 w1 (Mem.get_lt ho),hsl],hsl'⟩
   | fro ds=>exact⟨_,M1,by simp only[Go.Ax.icy,zBA hg,hble,i1,ho,hsl],hsl'⟩
   | _=>simp [rd1] at hrd
theorem NN.icy {o:AV}{l:List α}(h:K.NN M B o l)(wf:Wf M):∃ o' M',Go.Ax.icy 12 M o=some (o',M')∧Sl K.st K.is o' l:=h.icyk wf (k:=11) (by omega)
end NK
structure Kept (M N:Mem):Prop where
 wf:Wf N
 le:M.size≤N.size
 get:∀ j,j<M.size→N.get j=M.get j
 wm:N.wm=M.wm
 di:N.dirty=M.dirty
theorem Kept.refl {M:Mem}(wf:Wf M):Kept M M:=⟨wf,Nat.le_refl _,fun _ _=>rfl,rfl,rfl⟩
theorem Kept.trans {M N K:Mem}(h:Kept M N)(k:Kept N K):Kept M K :=
 ⟨k.wf,Nat.le_trans h.le k.le,fun j hj=>(k.get j (Nat.lt_of_lt_of_le hj h.le)).trans (h.get j hj),k.wm.trans h.wm,k.di.trans h.di⟩
theorem Kept.add {M N:Mem}(h:Kept M N)(o:AObj):Kept M (N.add o) :=
 ⟨h.wf.add _,by rw[zAK];have:=h.le;omega,fun j hj=>by rw[zBJ h.wf _ _ (by have:=h.le;omega)];exact h.get j hj,h.wm,h.di⟩
theorem Kept.upd {M N:Mem}(h:Kept M N)(hw:M.wm≤M.size){i:Nat}(hi:M.size≤i)(o:AObj):Kept M (N.upd i o):=by
 refine⟨h.wf.upd _ _,by rw[zAX];exact h.le,fun j hj=>by rw[zB5 h.wf _ _ _ (by omega)];exact h.get j hj,h.wm, ?_⟩
 show (N.dirty || Nat.blt i N.wm)=M.dirty
 have hb:Nat.blt i N.wm=false:=by
  rw[h.wm];exact(zBX _ _).2 (by omega)
 rw[hb,h.di,Bool.or_false]
variable {α : Type} {T : List AV → α → Prop} {st : Nat} {ag : Bool} {a : AV} {l : List α}
set_option linter.unusedSectionVars false
variable {call : Tg → List AV → Mem → Option (AV × Mem)} {t : List AV} {M : Mem}
structure KeyT (P:Program) (kt:TypeId) {α:Type} [DecidableEq α] (A:α→AV) where
 val:α→Value
 hval:∀ x,zAP (A x)=some (val x)
 ck:∀ b x,(zA9 P (Instr.checkKey b 10000 kt (val x))).isSome=true
 eq:∀ x y,zA9 P (Op.equal kt (val x) (val y))=some (decide (x=y))
 same:∀ x,Instr.sameBits 10000 (val x) (val x)=true
section
variable {kt : TypeId} [DecidableEq α] {A : α → AV} (K : KeyT P kt A)
def zQE (A:α→AV)(v:AV)(o:AObj)(l:List α):Prop:=∃ es c,o = .map es c∧es.map (fun e=>(e.1,e.2.1))=l.map fun x=>(A x,v)
theorem zQE.nil (A:α→AV)(v:AV):zQE A v (.map [] 0) []:=⟨[],0,rfl,rfl⟩
include K in
include K in
end
section
variable {Q : AV → Mem → Prop}
end
theorem Kept.bk {M N:Mem}(h:Kept M.lo N):Kept M (M.bk N):=by
 have hd:N.dirty=false:=h.di
 exact⟨h.wf,h.le,h.get,rfl,by show (M.dirty || N.dirty)=M.dirty;rw[hd,Bool.or_false]⟩
theorem All2.set2 {α β:Type}{T:α→β→Prop}:∀ {l:List α} {m:List β},All2 T l m → ∀ (i:Nat) {x:α} {y:β},T x y→All2 T (l.set i x) (m.set i y)
 | _,_,.nil,_,_,_,_ => .nil
 | _,_,.cons a t,0,_,_,h => .cons h t
 | _,_,.cons a t,i+1,_,_,h => .cons a (t.set2 i h)
namespace NK
variable {β : Type} {K : NK α β} {N : Mem} {B : Nat}
def Apart (x y:α × AV):Prop:=∀ j,rowOf x.2=some j→rowOf y.2≠some j
variable (K) in
def ND (M:Mem)(B:Nat)(o:AV)(l:List α):Prop:=∃ lr:List (α × AV),lr.map (·.1)=l∧SlM M K.st K.isN o lr∧(∀ x∈lr,K.InN M B x)∧(∀ j,rowOf o=some j→B≤j)∧(∀ x∈lr,∀ j,rowOf o=some j→rowOf x.2≠some j)∧lr.Pairwise Apart
theorem ND.nn {o:AV}{l:List α}(h:K.ND M B o l):K.NN M B o l:=by
 obtain⟨lr,h1,h2,h3,h4,h5,_⟩:=h
 exact⟨lr,h1,h2,h3,h4,h5⟩
theorem ND.nil (M:Mem)(B:Nat):K.ND M B NIL []:=⟨[],rfl,SlM.nil,by simp,(fun j h=>by cases h),by simp,.nil⟩
theorem ND.keep {o:AV}{l:List α}(h:K.ND M B o l)(k:∀ j,B≤j→j<M.size→N.get j=M.get j):K.ND N B o l:=by
 obtain⟨lr,h1,h2,h3,h4,h5,h6⟩:=h
 exact⟨lr,h1,h2.keep fun j hj=>k j (h4 j hj) (h2.lt j hj),fun x hx=>(h3 x hx).keep fun j hj=>k j ((h3 x hx).2.1 j hj) ((h3 x hx).lt j hj),h4,h5,h6⟩
theorem ND.app {o ra:AV}{l:List α}{x:α}{by':Nat}{Q:AV→Mem→Prop}(wf:Wf N)(h0:K.ND M B o l)(kp0:∀ j,B≤j→j<M.size→N.get j=M.get j)(le0:M.size≤N.size)(hx:K.isN (K.H x++[ra]) (x,ra))(hi:K.InN N B (x,ra))(hnew:∀ j,rowOf ra=some j→M.size≤j)(hb:(l.length+1)*by'≤140737488355328)(hb2:l.length+1≤140737488355328)(hB:B≤N.size)
  (kk:∀ o' M',K.ND M' B o' (l++[x])→Wf M'→N.size≤M'.size→(∀ j,j<N.size→rowOf o≠some j→M'.get j=N.get j)→(∀ id,rowOf o'=some id→rowOf o=some id∨N.size≤id)→M'.wm=N.wm→Q o' M'):W3 (appO (N.add (.row false (K.H x++[ra]))) K.st by' o (.sl N.size 0 1 (some 1) K.st)) Q:=by
 obtain⟨lr,rfl,h2',h3',h4,h5,h6⟩:=h0
 have h2:SlM N K.st K.isN o lr:=h2'.keep fun j hj=>kp0 j (h4 j hj) (h2'.lt j hj)
 have h3:∀ x∈lr,K.InN N B x:=fun x hx=>(h3' x hx).keep fun j hj=>kp0 j ((h3' x hx).2.1 j hj) ((h3' x hx).lt j hj)
 have hne:∀ j,rowOf o=some j→rowOf ra≠some j:=fun j hj e=>by have a:=h2'.lt j hj;have b:=hnew j e;omega
 rw[List.length_map] at hb hb2
 have g:=zAN wf (.row false (K.H x++[ra])) N.size (Nat.le_refl _) (Nat.lt_succ_self _)
 have hA:All2 K.isN [K.H x++[ra]] [(x,ra)]:=.cons hx .nil
 have h':SlM (N.add (.row false (K.H x++[ra]))) K.st K.isN o lr:=h2.keep fun j hj=>zBJ wf _ _ (h2.lt j hj)
 have hlen:(K.H x++[ra]).length=K.st:=isN.len hx
 have hst:0<K.st:=by rw[← K.hl x];omega
 obtain⟨o',M',e,m,w,le,le2,kp,nw,wm⟩:=h'.appO (wf.add _) (y:=.sl N.size 0 1 (some 1) K.st) (l':=[(x,ra)]) (new:=[K.H x++[ra]]) (bytes:=by') (by rw[zCB g (by rw[hlen];omega)];simp) rfl hA (by simp only[List.mem_singleton,forall_eq];exact hlen) (zKB hA) hst (by simpa using hb) (by simpa using hb2)
 rw[zAK] at le kp nw
 have kp':∀ j,j<N.size→rowOf o≠some j→M'.get j=N.get j:=fun j hj hj2=>by rw[kp j (by omega) hj2,zBJ wf _ _ hj]
 refine⟨o',M',e,kk o' M' ⟨lr++[(x,ra)],by simp,m,fun y hy=>?_,fun j hj=>?_,fun y hy j hj=>?_, ?_⟩ w (by omega) kp' (fun id hid=>(nw id hid).imp (fun h=>h) (fun h=>by omega)) wm⟩
 ·exact zE0f
 ·rcases nw j hj with h | h
  ·exact h4 j h
  ·omega
 ·exact zE08
 ·rw[List.pairwise_append]
  refine⟨h6,List.pairwise_singleton _ _,fun y hy z hz=>?_⟩
  rw[List.mem_singleton] at hz
  subst hz
  intro j hj e
  have a:=(h3' y hy).lt j hj
  have b:=hnew j e
  omega
theorem ND.at {o:AV}{l:List α}(h:K.ND M B o l){i:Nat}(hi:i<l.length):∃ id cs ra,rowOf o=some id∧B≤id∧M.get id=some (.row false cs)∧(∀ N,iadO N K.st o (some i)=some (.ptr id (i*K.st),N))∧slot cs (i*K.st) K.st=K.H l[i]++[ra]∧(i+1)*K.st≤cs.length∧K.InN M B (l[i],ra)∧rowOf ra≠some id ∧
  ∀ (N:Mem) (y:α),K.H y=K.H l[i]→K.ok y→(∀ j,B≤j→j<M.size→rowOf ra≠some j→N.get j=M.get j)→SlM N 1 K.T ra (K.f y)→K.ND N B o (l.set i y):=by
 obtain⟨lr,rfl,h2,h3,h4,h5,h6⟩:=h
 have hi':i<lr.length:=by simpa using hi
 have h2s:=h2
 rcases h2 with⟨rfl,rfl⟩ | ⟨id,rows,cap,rfl,hc,hg,hA,hr⟩
 ·exact absurd hi' (by simp)
 ·have hlen:=hA.length_eq
  have hfl:=zAE hr
  have hri:i<rows.length:=by omega
  have hn:=hA.get hri hi'
  have hrl:=hr rows[i] (List.getElem_mem hri)
  have hmem:=List.getElem_mem hi'
  have hle:(i+1)*K.st≤rows.flatten.length:=by rw[hfl];exact Nat.mul_le_mul_right _ (by omega)
  refine⟨id,rows.flatten,lr[i].2,rfl,h4 id rfl,hg,fun N=>by rw[zHZ (by omega)];simp, ?_,hle, ?_,h5 _ hmem id rfl, ?_⟩
  ·exact zE0q
  ·simpa using h3 _ hmem
  ·intro N y hH hok hk hs
   simp only[List.getElem_map] at hH
   refine⟨lr.set i (y,lr[i].2),by rw[List.map_set], ?_,fun x hx=>?_,h4,fun x hx=>?_, ?_⟩
   ·refine .inr ⟨id,rows.set i rows[i],cap,by simp,by simpa using hc, ?_,hA.set2 i ⟨by rw[hn.1];simp only[hH],hn.2⟩,fun r hr'=>?_⟩
    ·rw[List.set_getElem_self,hk id (h4 id rfl) (Mem.get_lt hg) (h5 _ hmem id rfl)];exact hg
    ·rw[List.set_getElem_self] at hr';exact hr r hr'
   ·rcases List.mem_or_eq_of_mem_set hx with hx' | rfl
    ·obtain⟨j,hj,rfl⟩:=List.getElem_of_mem hx
     rw[List.length_set] at hj
     by_cases e:i=j
     ·subst e
      rw[List.getElem_set_self]
      exact⟨hs,(h3 _ hmem).2.1,hok⟩
     ·rw[List.getElem_set_ne e]
      have hmj:=List.getElem_mem hj
      refine(h3 _ hmj).keep fun q hq=>hk q ((h3 _ hmj).2.1 q hq) ((h3 _ hmj).lt q hq) fun hrow=>?_
      rcases Nat.lt_or_gt_of_ne e with e' | e'
      ·exact List.pairwise_iff_getElem.1 h6 i j hi' hj e' q hrow hq
      ·exact List.pairwise_iff_getElem.1 h6 j i hj hi' e' q hq hrow
    ·exact⟨hs,(h3 _ hmem).2.1,hok⟩
   ·rcases List.mem_or_eq_of_mem_set hx with hx' | rfl
    ·exact h5 x hx'
    ·exact fun j hj e=>h5 lr[i] hmem j hj e
   ·rw[List.pairwise_iff_getElem]
    intro p q hp hq hpq
    rw[List.length_set] at hp hq
    have key:=List.pairwise_iff_getElem.1 h6 p q hp hq hpq
    unfold Apart at key ⊢
    have e1:(lr.set i (y,lr[i].2))[p].2=lr[p].2:=by
     by_cases e:i=p
     ·subst e;rw[List.getElem_set_self]
     ·rw[List.getElem_set_ne e]
    have e2:(lr.set i (y,lr[i].2))[q].2=lr[q].2:=by
     by_cases e:i=q
     ·subst e;rw[List.getElem_set_self]
     ·rw[List.getElem_set_ne e]
    rw[e1,e2]
    exact key
theorem Rd1.icyG {T:List AV→β→Prop}{v:AV}{l:List β}(h:Rd1 M T v l)(wf:Wf M)(hT:FzT T){k:Nat}(hk:1<k):∃ v' M',Go.Ax.icy k M v=some (v',M')∧Sl 1 T v' l∧Wf M'∧M'.size=M.size∧(∀ j,M'.rd j=M.rd j) ∧ ∀ j,rowOf v≠some j→M'.get j=M.get j:=by
 obtain⟨k,rfl⟩:∃ j,k=j+1:=⟨k - 1,by omega⟩
 rcases h with⟨rfl,rfl⟩ | ⟨id,rows,cap,rfl,hg,hA,hr⟩
 ·exact⟨NIL,M,rfl,.inl ⟨rfl,rfl⟩,wf,rfl,fun _=>rfl,fun _ _=>rfl⟩
 ·have hfl:=zAE hr
  have hcs:∀ N,icyL (Go.Ax.icy k) N rows.flatten=some (rows.flatten,N):=zEA (by omega) fun x hx N=>hT.celI.flat hA x hx N k (by omega)
  have hble:Nat.ble (0+rows.length*1) rows.flatten.length=true:=zAT (by omega)
  have hsl:slot rows.flatten 0 (rows.length*1)=rows.flatten:=zBC _ _ hfl.symm
  have hrd:=hg
  rw[zD6] at hrd
  cases ho:M.get id with
  | none=>rw[ho] at hrd;cases hrd
  | some x =>
   rw[ho] at hrd
   cases x with
   | row b ds =>
    have e:ds=rows.flatten:=by simpa [rd1] using hrd
    subst e
    exact⟨_,M.upd id (.fro rows.flatten),by simp only[Go.Ax.icy,hg,hble,hcs,ho,zC8 wf (Mem.get_lt ho),hsl],.inr ⟨rows,cap,rfl,hA,hr⟩,wf.upd _ _,rfl,zL3 wf ho,fun j hj=>zB5 wf _ _ _ (fun e=>hj (by rw[e];rfl))⟩
   | fro ds=>exact⟨_,M,by simp only[Go.Ax.icy,hg,hble,hcs,ho,hsl],.inr ⟨rows,cap,rfl,hA,hr⟩,wf,rfl,fun _=>rfl,fun _ _=>rfl⟩
   | _=>simp [rd1] at hrd
theorem zGP {k:Nat}(hk:1<k):∀ {rows:List (List AV)} {lr:List (α × AV)} {M:Mem},All2 K.isN rows lr→Wf M→(∀ x∈lr,Rd1 M K.T x.2 (K.f x.1)∧K.ok x.1) →
  ∃ rows' M',icyL (Go.Ax.icy k) M rows.flatten=some (rows'.flatten,M')∧All2 K.is rows' (lr.map (·.1))∧(∀ r∈rows',r.length=K.st)∧Wf M'∧M'.size=M.size∧(∀ j,M'.rd j=M.rd j) ∧ ∀ j,(∀ x∈lr,rowOf x.2≠some j)→M'.get j=M.get j
 | _,_,M,.nil,wf,_=>⟨[],M,rfl,.nil,by simp,wf,rfl,fun _=>rfl,fun _ _=>rfl⟩
 | _,_,M,.cons (y:=x) (m:=lr) a t,wf,h=>by
  obtain⟨ra,M1,i1,b1,w1,s1,r1,g1⟩:=(h x (by simp)).1.icyG wf K.ft hk
  obtain⟨rows',M2,i2,hA,hl,w2,s2,r2,g2⟩:=zGP hk t w1 fun y hy=>⟨(h y (by simp [hy])).1.keep r1,(h y (by simp [hy])).2⟩
  obtain⟨rfl,_⟩:=a
  refine⟨(K.H x.1++[ra])::rows',M2, ?_,.cons ⟨ra,rfl,b1,(h x (by simp)).2⟩ hA, ?_,w2,s2.trans s1,fun j=>(r2 j).trans (r1 j),fun j hj=>(g2 j fun y hy=>hj y (by simp [hy])).trans (g1 j (hj x (by simp)))⟩
  ·rw[List.flatten_cons,List.flatten_cons]
   refine zCZ (zCZ (zH9 (by omega) M (K.hz x.1)) ?_) i2
   simp only[icyL,i1]
  ·exact zE0c
variable (K) in
def NR (M:Mem)(B:Nat)(o:AV)(l:List α):Prop:=(o=NIL∧l=[]) ∨ ∃ (id:Nat) (rows:List (List AV)) (cap:Option Nat) (lr:List (α × AV)),o = .sl id 0 rows.length cap K.st∧lr.map (·.1)=l∧M.rd id=some rows.flatten∧All2 K.isN rows lr∧(∀ r∈rows,r.length=K.st)∧(∀ x∈lr,Rd1 M K.T x.2 (K.f x.1)∧K.ok x.1 ∧ ∀ j,rowOf x.2=some j→B≤j)∧B≤id
theorem NR.keep {o:AV}{l:List α}(h:K.NR M B o l)(k:∀ j,N.rd j=M.rd j):K.NR N B o l:=by
 rcases h with h | ⟨id,rows,cap,lr,h1,h2,h3,h4,h5,h6,h7⟩
 ·exact .inl h
 ·exact .inr ⟨id,rows,cap,lr,h1,h2,(k id).trans h3,h4,h5,fun x hx=>⟨(h6 x hx).1.keep k,(h6 x hx).2⟩,h7⟩
theorem NR.len {o:AV}{l:List α}(h:K.NR M B o l):∀ N,lenO N o=some (I64 l.length,N):=by
 intro N
 rcases h with⟨rfl,rfl⟩ | ⟨id,rows,cap,lr,rfl,rfl,_,h4,_⟩
 ·rfl
 ·rw[List.length_map,← h4.length_eq];rfl
theorem NR.icyk {o:AV}{l:List α}(h:K.NR M B o l)(wf:Wf M){k:Nat}(hk:1<k):∃ o' M',Go.Ax.icy (k+1) M o=some (o',M')∧Sl K.st K.is o' l∧Wf M'∧M'.size=M.size∧(∀ j,M'.rd j=M.rd j) ∧ ∀ j,j<B→M'.get j=M.get j:=by
 rcases h with⟨rfl,rfl⟩ | ⟨id,rows,cap,lr,rfl,rfl,hg,hA,hr,h3,hB⟩
 ·exact⟨NIL,M,rfl,.inl ⟨rfl,rfl⟩,wf,rfl,fun _=>rfl,fun _ _=>rfl⟩
 ·obtain⟨rows',M1,i1,hA',hl',w1,s1,r1,g1⟩:=zGP (k:=k) hk hA wf fun x hx=>⟨(h3 x hx).1,(h3 x hx).2.1⟩
  have hfl:=zAE hr
  have hfl':=zAE hl'
  have hn:rows'.length=rows.length:=by rw[hA'.length_eq,List.length_map,hA.length_eq]
  have hrd:=(r1 id).trans hg
  have hble:Nat.ble (0+rows.length*K.st) rows.flatten.length=true:=zAT (by omega)
  have hsl:slot rows'.flatten 0 (rows.length*K.st)=rows'.flatten:=zBC _ _ (by rw[hfl',hn])
  have hsl':Sl K.st K.is (.pv rows'.flatten rows.length cap K.st) (lr.map (·.1)):=.inr ⟨rows',cap,by rw[hn],hA',hl'⟩
  have gB:∀ j,j<B→M1.get j=M.get j:=fun j hj=>g1 j fun x hx e=>by have:=(h3 x hx).2.2 j e;omega
  rw[zD6] at hrd
  cases ho:M1.get id with
  | none=>rw[ho] at hrd;cases hrd
  | some x =>
   rw[ho] at hrd
   cases x with
   | row b ds=>exact⟨_,M1.upd id (.fro ds),by simp only[Go.Ax.icy,hg,hble,i1,ho,zC8 w1 (Mem.get_lt ho),hsl],hsl',w1.upd _ _,s1,fun j=>(zL3 w1 ho j).trans (r1 j),fun j hj=>by rw[zB5 w1 _ _ _ (by omega)];exact gB j hj⟩
   | fro ds=>exact⟨_,M1,by simp only[Go.Ax.icy,hg,hble,i1,ho,hsl],hsl',w1,s1,r1,gB⟩
   | _=>simp [rd1] at hrd
end NK
theorem zL0 {cs r:List AV}{at_ st off n:Nat}{ag:Bool}(h:slot cs at_ st=r)(hl:at_+st≤cs.length)(ho:off+n≤st):part cs (at_+off) n ag=part r off n ag:=by
 have hr:r.length=st:=by rw[← h];simp [slot];omega
 have e:slot cs (at_+off) n=slot r off n:=by
  rw[← h]
  simp only[slot]
  rw[List.drop_take,List.take_take,List.drop_drop,Nat.min_eq_left (by omega)]
 unfold part
 rw[e,Nat.ble_eq_true_of_le (show at_+off+n≤cs.length by omega),Nat.ble_eq_true_of_le (show off+n≤r.length by omega)]
abbrev Cl:=Tg→List AV→Mem→Option (AV × Mem)
variable {call : Cl}
def insA (O:Nat→Oper)(g:FuncId)(e:TypeId)(st by':Nat)(z:Value):ACode :=
 (.seq (.region [⟨some 6,.mov (.const (.slice none 0 0)),none,[]⟩] false)
 (.seq (.region [⟨some 10,.mov (.tmp 0),none,[]⟩,
  ⟨some 11,.mov (.tmp 1),none,[]⟩,
  ⟨some 12,.slc st (.tmp 10) (some (.tmp 11)) none none,none,[]⟩] false)
 (.seq (.region [⟨some 13,.mov (.tmp 2),none,[]⟩,
  ⟨some 14,.len (.tmp 13),none,[]⟩,
  ⟨some 7,.mov (.tmp 14),none,[]⟩] false)
 (.seq (.seq (.region [⟨some 15,.mov (.tmp 7),none,[]⟩,
  ⟨some 16,.pur (O 0),none,[]⟩] false)
 (.cond (.tmp 16)
  (.seq (.region [⟨some 17,.mov (.tmp 0),none,[]⟩,
   ⟨some 6,.mov (.tmp 17),none,[]⟩] false)
  .ret)
  .skip))
 (.seq (.region [⟨some 18,.mov (.tmp 0),none,[]⟩,
  ⟨some 19,.len (.tmp 18),none,[]⟩,
  ⟨some 8,.mov (.tmp 19),none,[]⟩] false)
 (.seq (.seq (.region [⟨some 20,.mov (.tmp 1),none,[]⟩,
  ⟨some 21,.mov (.tmp 8),none,[]⟩,
  ⟨some 22,.pur (O 1),none,[]⟩] false)
 (.cond (.tmp 22)
  (.seq (.region [⟨some 23,.mov (.tmp 0),none,[]⟩,
   ⟨some 24,.mov (.tmp 2),none,[]⟩,
   ⟨some 25,.app e st by' z (.tmp 23) (.tmp 24),none,[]⟩,
   ⟨some 6,.mov (.tmp 25),none,[]⟩] false)
  .ret)
  .skip))
 (.seq (.seq (.region [⟨some 26,.mov (.tmp 8),none,[]⟩,
  ⟨some 27,.mov (.tmp 7),none,[]⟩,
  ⟨some 28,.pur (O 2),none,[]⟩,
  ⟨some 29,.mov (.tmp 0),none,[]⟩,
  ⟨some 30,.cap (.tmp 29),none,[]⟩,
  ⟨some 31,.pur (O 3),none,[]⟩] false)
 (.cond (.tmp 31)
  (.seq (.region [⟨some 32,.mov (.tmp 0),none,[]⟩,
   ⟨some 33,.mov (.tmp 1),none,[]⟩,
   ⟨some 34,.slc st (.tmp 32) none (some (.tmp 33)) none,none,[]⟩,
   ⟨some 35,.mov (.tmp 8),none,[]⟩,
   ⟨some 36,.mov (.tmp 7),none,[]⟩,
   ⟨some 37,.pur (O 4),none,[]⟩,
   ⟨some 38,.mov (.tmp 1),none,[]⟩,
   ⟨some 39,.pur (O 5),none,[]⟩,
   ⟨some 40,.appz e st by' z (.tmp 34) (.tmp 39),none,[]⟩,
   ⟨some 9,.mov (.tmp 40),none,[]⟩] false)
  (.seq (.region [⟨some 41,.mov (.tmp 9),none,[]⟩,
   ⟨some 42,.mov (.tmp 1),none,[]⟩,
   ⟨some 43,.slc st (.tmp 41) (some (.tmp 42)) none none,none,[]⟩,
   ⟨some 44,.mov (.tmp 2),none,[]⟩,
   ⟨some 45,.cpy st (.tmp 43) (.tmp 44),none,[]⟩] false)
  (.seq (.region [⟨some 46,.mov (.tmp 9),none,[1,2,3,5,6,7]⟩,
   ⟨some 47,.mov (.tmp 1),none,[0,2,5,6,7]⟩,
   ⟨some 48,.mov (.tmp 7),none,[0,1,5,6,7]⟩,
   ⟨some 49,.pur (O 6),none,[0,5,6,7]⟩,
   ⟨some 50,.slc st (.tmp 46) (some (.tmp 49)) none none,none,[5,6,7]⟩,
   ⟨some 51,.mov (.tmp 0),none,[0,1,2,3,4,6]⟩,
   ⟨some 52,.mov (.tmp 1),none,[0,1,2,3,4,5]⟩,
   ⟨some 53,.slc st (.tmp 51) (some (.tmp 52)) none none,none,[0,1,2,3,4]⟩,
   ⟨some 54,.cpy st (.tmp 50) (.tmp 53),none,[]⟩] true)
  (.seq (.region [⟨some 55,.mov (.tmp 9),none,[]⟩,
   ⟨some 6,.mov (.tmp 55),none,[]⟩] false)
  .ret))))
  .skip))
 (.seq (.region [⟨some 56,.mov (.tmp 0),none,[]⟩,
  ⟨some 57,.mov (.tmp 8),none,[]⟩,
  ⟨some 58,.mov (.tmp 7),none,[]⟩,
  ⟨some 59,.pur (O 7),none,[]⟩,
  ⟨some 60,.slc st (.tmp 56) none (some (.tmp 59)) none,none,[]⟩,
  ⟨some 0,.mov (.tmp 60),none,[]⟩] false)
 (.seq (.seq (.region [⟨some 61,.mov (.tmp 2),none,[]⟩,
  ⟨some 62,.mov (.tmp 0),none,[]⟩,
  ⟨some 63,.mov (.tmp 1),none,[]⟩,
  ⟨some 64,.mov (.tmp 7),none,[]⟩,
  ⟨some 65,.pur (O 8),none,[]⟩,
  ⟨some 66,.slc st (.tmp 62) (some (.tmp 65)) none none,none,[]⟩,
  ⟨some 67,.ovl st (.tmp 61) (.tmp 66),none,[]⟩,
  ⟨some 68,.pur (O 9),none,[]⟩] false)
 (.cond (.tmp 68)
  (.seq (.region [⟨some 69,.mov (.tmp 0),none,[1,2,3,5,6,7]⟩,
   ⟨some 70,.mov (.tmp 1),none,[0,2,5,6,7]⟩,
   ⟨some 71,.mov (.tmp 7),none,[0,1,5,6,7]⟩,
   ⟨some 72,.pur (O 10),none,[0,5,6,7]⟩,
   ⟨some 73,.slc st (.tmp 69) (some (.tmp 72)) none none,none,[5,6,7]⟩,
   ⟨some 74,.mov (.tmp 0),none,[0,1,2,3,4,6]⟩,
   ⟨some 75,.mov (.tmp 1),none,[0,1,2,3,4,5]⟩,
   ⟨some 76,.slc st (.tmp 74) (some (.tmp 75)) none none,none,[0,1,2,3,4]⟩,
   ⟨some 77,.cpy st (.tmp 73) (.tmp 76),none,[]⟩] true)
  (.seq (.region [⟨some 78,.mov (.tmp 0),none,[]⟩,
   ⟨some 79,.mov (.tmp 1),none,[]⟩,
   ⟨some 80,.slc st (.tmp 78) (some (.tmp 79)) none none,none,[]⟩,
   ⟨some 81,.mov (.tmp 2),none,[]⟩,
   ⟨some 82,.cpy st (.tmp 80) (.tmp 81),none,[]⟩] false)
  (.seq (.region [⟨some 83,.mov (.tmp 0),none,[]⟩,
   ⟨some 6,.mov (.tmp 83),none,[]⟩] false)
  .ret)))
  .skip))
 (.seq (.region [⟨some 84,.mov (.tmp 0),none,[]⟩,
  ⟨some 85,.mov (.tmp 8),none,[]⟩,
  ⟨some 86,.slc st (.tmp 84) (some (.tmp 85)) none none,none,[]⟩,
  ⟨some 87,.mov (.tmp 2),none,[]⟩,
  ⟨some 88,.cpy st (.tmp 86) (.tmp 87),none,[]⟩] false)
 (.seq (.region [⟨some 89,.mov (.tmp 0),none,[]⟩,
  ⟨some 90,.mov (.tmp 1),none,[]⟩,
  ⟨some 91,.slc st (.tmp 89) (some (.tmp 90)) none none,none,[]⟩,
  ⟨some 92,.mov (.tmp 7),none,[]⟩,
  ⟨some 93,.call (.func g) [(.tmp 91),(.tmp 92)],none,[]⟩] false)
 (.seq (.region [⟨some 94,.mov (.tmp 0),none,[]⟩,
  ⟨some 6,.mov (.tmp 94),none,[]⟩] false)
 .ret))))))))))))
structure InsO (O:Nat→Oper) (ti tb:TypeId):Prop where
 h0:(O 0).op = .binOp .eql ti (.tmp 15) (.const (.int .i64 0)) ti
 h1:(O 1).op = .binOp .eql ti (.tmp 20) (.tmp 21) ti
 h2:(O 2).op = .binOp .add ti (.tmp 26) (.tmp 27) ti
 h3:(O 3).op = .binOp .gtr ti (.tmp 28) (.tmp 30) ti
 h4:(O 4).op = .binOp .add ti (.tmp 35) (.tmp 36) ti
 h5:(O 5).op = .binOp .sub ti (.tmp 37) (.tmp 38) ti
 h6:(O 6).op = .binOp .add ti (.tmp 47) (.tmp 48) ti
 h7:(O 7).op = .binOp .add ti (.tmp 57) (.tmp 58) ti
 h8:(O 8).op = .binOp .add ti (.tmp 63) (.tmp 64) ti
 h9:(O 9).op = .unOp .not tb (.tmp 67)
 h10:(O 10).op = .binOp .add ti (.tmp 70) (.tmp 71) ti
def Rm (M:Mem):Prop:=M.size≤M.t.length
theorem Mem.put_ok {M:Mem}{i:Nat}(h:i<M.size)(hs:Rm M)(o:AObj):∃ M',M.put i o=some M':=by
 unfold Mem.put
 rw[(zAB _ _).2 h]
 simp only[T.set_eq]
 rw[if_pos (Nat.lt_of_lt_of_le h hs)]
 exact⟨_,rfl⟩
theorem Mem.new_ok {M:Mem}(hs:Rm M)(o:AObj):∃ M',M.new o=some (M.size,M'):=by
 unfold Mem.new
 simp only[T.set_eq]
 unfold Rm at hs
 by_cases e:M.size<M.t.length
 ·rw[if_pos e];exact⟨_,rfl⟩
 ·rw[if_neg e,if_pos (by omega)];exact⟨_,rfl⟩
theorem Rm.put {M M':Mem}{i:Nat}{o:AObj}(hs:Rm M)(h:M.put i o=some M'):Rm M':=by
 have hlt:=(Mem.put_spec h).1
 unfold Rm at *
 unfold Mem.put at h
 rw[(zAB _ _).2 hlt] at h
 simp only[T.set_eq,if_pos (Nat.lt_of_lt_of_le hlt hs)] at h
 cases h
 simp only[List.length_set]
 exact hs
theorem Rm.new {M M':Mem}{k:Nat}{o:AObj}(hs:Rm M)(h:M.new o=some (k,M')):Rm M':=by
 unfold Rm at *
 unfold Mem.new at h
 simp only[T.set_eq] at h
 by_cases e:M.size<M.t.length
 ·rw[if_pos e] at h
  cases h
  simp only[List.length_set]
  omega
 ·rw[if_neg e,if_pos (by omega)] at h
  cases h
  simp only[List.length_append,List.length_singleton]
  omega
theorem Rm.of_new {M M1 M':Mem}{id k:Nat}{o o2:AObj}{r:AObj}(hg:M.get id=some r)(hp:M.put id o=some M1)(h:M1.new o2=some (k,M')):Rm M:=by
 have hlt:=(Mem.put_spec hp).1
 have hget:T.get M.t id=some r:=by
  unfold Mem.get at hg
  rw[(zAB _ _).2 hlt] at hg
  exact hg
 rw[T.get_eq] at hget
 have hl:id<M.t.length:=by
  by_cases e:id<M.t.length
  ·exact e
  ·rw[List.getElem?_eq_none (by omega)] at hget;cases hget
 unfold Mem.put at hp
 rw[(zAB _ _).2 hlt] at hp
 simp only[T.set_eq,if_pos hl] at hp
 cases hp
 unfold Mem.new at h
 simp only[T.set_eq,List.length_set] at h
 unfold Rm
 by_cases e:M.size<M.t.length
 ·omega
 ·by_cases e2:M.size=M.t.length
  ·omega
  ·rw[if_neg e,if_neg e2] at h
   cases h
theorem zLY {a b:Nat}(h:b<a):Nat.ble a b=false:=by
 cases hb:Nat.ble a b with
 | false=>rfl
 | true=>have:=Nat.le_of_ble_eq_true hb;omega
theorem zE1 {a b:Nat}(h:a≠b):Nat.beq a b=false:=by
 cases hb:Nat.beq a b with
 | false=>rfl
 | true=>exact absurd (Nat.eq_of_beq_eq_true hb) h
theorem zG6 (a:Nat):Nat.beq a a=true:=Nat.beq_refl a
def fr0 (X I Y:AV):Fr:=⟨[X,I,Y]++List.replicate 92 zA6,[]⟩
def zPS (a b:IntKind):Bool:=a == b
theorem zNC {a b:IntKind}(h:zPS a b=true):a=b:=by
 cases a <;> cases b <;> first | rfl | cases h
theorem zD8:zPS .i64 .i64=true:=rfl
theorem zK7 (P:Program)(op:BinOp)(ty:TypeId)(x y:Operand)(k k':IntKind)(a b:Int):zA9 P (eqGuard op ty x y (.int k a) (.int k' b))=some ():=by
 cases op <;> rfl
theorem zJ1 {P:Program}{l:List AV}{o:Oper}{op:BinOp}{ty yt:TypeId}{x y:Operand}{k:IntKind}{a b:Int}(ho:o.op = .binOp op ty x y yt)(hx:zA2 l x = .sc (.int k a))(hy:zA2 l y = .sc (.int k b)){v:Value}
  (h:zA9 P (binOp op ty (.int k a) (.int k b))=some v):zB1 P l o=some (.sc v):=by
 unfold zB1
 have h1:o.op.operands.toList.all (fun x=>(zAP (zA2 l x)).isSome)=true:=by
  rw[ho];simp [Op.operands,hx,hy,zAP]
 simp only[h1]
 have h2:zA9 P (execOp (fun x=>(zAP (zA2 l x)).getD undef) o)=some (.value v):=by
  have hg:=zK7 P op ty x y k k a b
  simp only[execOp,ho,hx,hy,zAP,Option.getD_some]
  exact zA3 _ (zA3 _ hg h) rfl
 rw[h2]
theorem zAW {P:Program}{t:List AV}{o:Oper}{op:BinOp}{ty yt:TypeId}{x y:Operand}(ho:o.op = .binOp op ty x y yt) :
  zB1 P t o=(match zA2 t x with
   | .sc (.int k a)=>match zA2 t y with
    | .sc (.int j b)=>match zPS k j with
     | true=>match zA9 P (binOp op ty (.int k a) (.int k b)) with
      | some v=>some (.sc v)
      | none=>zES P t o
     | false=>zES P t o
    | _=>zES P t o
   | _=>zES P t o):=by
 split
 ·rename_i k a hx
  split
  ·rename_i j b hy
   split
   ·rename_i hk
    have:=zNC hk;subst this
    split
    ·rename_i v hv;exact zJ1 ho hx hy hv
    ·rfl
   ·rfl
  ·rfl
 ·rfl
theorem zN7 {P:Program}{t:List AV}{o:Oper}{ty:TypeId}{x:Operand}(ho:o.op = .unOp .not ty x) :
  zB1 P t o=(match zA2 t x with
   | .sc (.bool b)=>some (.sc (.bool (!b)))
   | _=>zES P t o):=by
 split
 ·rename_i b hx
  unfold zB1
  have h1:o.op.operands.toList.all (fun x=>(zAP (zA2 t x)).isSome)=true:=by
   rw[ho];simp [Op.operands,hx,zAP]
  simp only[h1]
  have h2:zA9 P (execOp (fun x=>(zAP (zA2 t x)).getD undef) o)=some (.value (.bool (!b))):=by
   simp only[execOp,ho,hx,zAP,Option.getD_some]
   rfl
  rw[h2]
 ·rfl
theorem rEql (P:Program)(ty:TypeId)(k:IntKind)(a b:Int):zA9 P (binOp .eql ty (.int k a) (.int k b))=some (.bool (decide (a=b))):=vEql ty k a b
theorem rGtr (P:Program)(ty:TypeId)(k:IntKind)(a b:Int):zA9 P (binOp .gtr ty (.int k a) (.int k b))=some (.bool (decide (b<a))):=vGtr ty k a b
theorem rAdd (P:Program)(ty:TypeId)(k:IntKind)(a b:Int):zA9 P (binOp .add ty (.int k a) (.int k b))=some (.int k (k.wrap (a+b))):=vAdd ty k a b
theorem rSub (P:Program)(ty:TypeId)(k:IntKind)(a b:Int):zA9 P (binOp .sub ty (.int k a) (.int k b))=some (.int k (k.wrap (a - b))):=vSub ty k a b
theorem zD1 (k:IntKind)(n:Nat):zEB (.sc (.int k (n:Int)))=some n:=rfl
section
variable {O : Nat → Oper} {ti tb : TypeId} {g : FuncId} {e : TypeId} {by' : Nat} {z : Value} {k id2 off off2 n m c i : Nat} {cap2 : Option Nat} {str : Bool} {cs cs2 : List AV}
structure InsHyp (M:Mem) (k id2 off2 n m c i st by':Nat) (str:Bool) (cs cs2:List AV):Prop where
 gk:M.get k=some (.row str cs)
 g2:M.get id2=some (.row false cs2)
 lk:cs.length=c*st
 l2:off2+m*st≤cs2.length
 nc:n≤c
 im:i≤n
 m0:0<m
 s0:0<st
 ne:k≠id2
 b1:(n+m)*by'≤140737488355328
 b2:n+m≤140737488355328
 ms:Rm M
 o1:(slot cs 0 (n*st)).all oneA=true
 o2:(slot cs2 off2 (m*st)).all oneA=true
structure InsHypG (M:Mem) (k id2 off off2 n m c i st by':Nat) (str:Bool) (cs cs2:List AV):Prop where
 gk:M.get k=some (.row str cs)
 g2:M.get id2=some (.row false cs2)
 lk:off+n*st≤cs.length
 l2:off2+m*st≤cs2.length
 nc:n≤c
 im:i≤n
 m0:0<m
 s0:0<st
 ne:k≠id2
 b1:(n+m)*by'≤140737488355328
 b2:n+m≤140737488355328
 ms:Rm M
 o1:(slot cs off (n*st)).all oneA=true
 o2:(slot cs2 off2 (m*st)).all oneA=true
theorem zAZ {l:List AV}{o n:Nat}(h:o+n≤l.length):(slot l o n).length=n:=by
 unfold slot;simp;omega
theorem zDL {id off len c:Nat}{old new:List AV}{by':Nat}{M1:Mem}{j:Nat}(h0:0<m)(h1:new.all oneA=true)(hl:new.length=m*st)(b1:(len+m)*by'≤140737488355328)(b2:len+m≤140737488355328)
  (gk:M.get id=some (.row str cs)) (hc:c<len+m) (hn:M.new (.row false (old++new))=some (j,M1)):zAM M (.sl id off len (some c) st) old new m st by'=some (.sl j 0 (len+m) none st,M1):=by
 unfold zAM
 simp only[zE1 (show m≠0 by omega),h1,hl,zG6,Bool.and_self,zAT b1,zAT b2,gk,zLY hc,hn]
theorem zG5 {id off len c:Nat}{old new:List AV}{by':Nat}{M1:Mem}(h0:0<m)(h1:new.all oneA=true)(hl:new.length=m*st)(b1:(len+m)*by'≤140737488355328)(b2:len+m≤140737488355328)
  (gk:M.get id=some (.row str cs)) (hc:len+m≤c) (hcs:off+(len+m)*st≤cs.length) (hp:M.put id (.row str (lay cs (off+len*st) new))=some M1):zAM M (.sl id off len (some c) st) old new m st by'=some (.sl id off (len+m) (some c) st,M1):=by
 unfold zAM
 simp only[zE1 (show m≠0 by omega),h1,hl,zG6,Bool.and_self,zAT b1,zAT b2,gk,zAT hc,zAT hcs,hp]
def out6:Option (AExit × Fr × Mem)→Option (AExit × AV × List Nat × Mem)
 | some (e,fr,M)=>some (e,nth zA6 fr.t 6,fr.marks,M)
 | none=>none
theorem zKV {x:Option (AExit × Fr × Mem)}{e:AExit}{v:AV}{mk:List Nat}{M:Mem}(h:out6 x=some (e,v,mk,M)):∃ t,x=some (e,⟨t,mk⟩,M)∧nth zA6 t 6=v:=by
 cases x with
 | none=>cases h
 | some q=>obtain⟨e',fr,M'⟩:=q;cases h;exact⟨fr.t,rfl,rfl⟩
set_option maxRecDepth 10000 in
theorem zGB (hO:InsO O ti tb)(H:InsHypG M k id2 off off2 n m c n st by' str cs cs2)(hc:c<n+m) :
  ∃ M',out6 (zA4 P 20000 call none (insA O g e st by' z) (fr0 (.sl k off n (some c) st) (.sc (.int .i64 (n:Int))) (.sl id2 off2 m cap2 st)) M)=some (.ret,.sl M.size 0 (n+m) none st,[],M') ∧
   M.new (.row false (slot cs off (n*st)++slot cs2 off2 (m*st)))=some (M.size,M'):=by
 obtain⟨gk,g2,lk,l2,nc,im,m0,s0,ne,b1,b2,ms,o1,o2⟩:=H
 obtain⟨M',hM'⟩:=Mem.new_ok (M:=M) ms (.row false (slot cs off (n*st)++slot cs2 off2 (m*st)))
 have kM:=zBY (Mem.get_lt gk)
 have k2M:=zBY (Mem.get_lt g2)
 have hnn:=zAT (Nat.le_refl n)
 have hm0:((m:Int)=0)=False:=eq_false (by omega)
 have hst:=zG6 st
 have hcs:Nat.ble (off+n*st) cs.length=true:=zAT lk
 have hcs2:Nat.ble (off2+m*st) cs2.length=true:=zAT l2
 have hap:=zDL (off:=off) (old:=slot cs off (n*st)) (by':=by') m0 o2 (zAZ l2) b1 b2 gk hc hM'
 exact zE01
set_option maxRecDepth 10000 in
theorem zGC (hO:InsO O ti tb)(H:InsHyp M k id2 off2 n m c n st by' str cs cs2)(hc:n+m≤c) :
  ∃ M',out6 (zA4 P 20000 call none (insA O g e st by' z) (fr0 (.sl k 0 n (some c) st) (.sc (.int .i64 (n:Int))) (.sl id2 off2 m cap2 st)) M)=some (.ret,.sl k 0 (n+m) (some c) st,[],M') ∧
   M.put k (.row str (lay cs (n*st) (slot cs2 off2 (m*st))))=some M':=by
 obtain⟨gk,g2,lk,l2,nc,im,m0,s0,ne,b1,b2,ms,o1,o2⟩:=H
 have kM:=zBY (Mem.get_lt gk)
 obtain⟨M',hM'⟩:=Mem.put_ok (M:=M) (Mem.get_lt gk) ms (.row str (lay cs (n*st) (slot cs2 off2 (m*st))))
 have k2M:=zBY (Mem.get_lt g2)
 have hnn:=zAT (Nat.le_refl n)
 have hm0:((m:Int)=0)=False:=eq_false (by omega)
 have hst:=zG6 st
 have hcs:Nat.ble (n*st) cs.length=true:=zAT (by rw[lk];exact Nat.mul_le_mul_right st nc)
 have hcs2:Nat.ble (off2+m*st) cs2.length=true:=zAT l2
 have hap:=zG5 (off:=0) (old:=slot cs 0 (n*st)) (by':=by') m0 o2 (zAZ l2) b1 b2 gk hc (by rw[lk,Nat.zero_add];exact Nat.mul_le_mul_right st hc) (by rw[Nat.zero_add];exact hM')
 exact zE01
theorem zSH {n:Nat}(h:(n:Int)≤9223372036854775807):IntKind.i64.wrap (n:Int)=n:=wrap_i64 (by omega) h
theorem zBR {a b:Nat}(h:a+b≤9223372036854775807):IntKind.i64.wrap ((a:Int)+(b:Int))=((a+b:Nat):Int):=by
 have:=zSH (n:=a+b) (by omega)
 simpa using this
theorem zGT {a b:Nat}(hb:b≤a)(h:a≤9223372036854775807):IntKind.i64.wrap ((a:Int) - (b:Int))=((a - b:Nat):Int):=by
 have:=zSH (n:=a - b) (by omega)
 have e:(a:Int) - (b:Int)=((a - b:Nat):Int):=by omega
 rw[e]
 simpa using this
theorem zFO {A B C new:List AV}{o:Nat}(hA:A.length=o)(hB:B.length=new.length):lay (A++(B++C)) o new=A++(new++C):=by
 subst hA
 unfold lay
 rw[List.take_left,← List.append_assoc,List.drop_append_of_le_length (by simp;omega)]
 simp [hB]
theorem zB0 {a b s:Nat}(h:a≤b):a*s≤b*s:=Nat.mul_le_mul_right s h
set_option maxRecDepth 10000 in
set_option maxHeartbeats 1000000 in
theorem zGE (hO:InsO O ti tb)(H:InsHypG M k id2 off off2 n m c i st by' str cs cs2)(hz:∀ q,(zA5 z q).all oneA=true∧(zA5 z q).length=q*st)(oc:(slot cs (off+i*st) ((n - i)*st)).all oneA=true)(hi:i<n)(hc:c<n+m) :
  ∃ M',out6 (zA4 P 20000 call none (insA O g e st by' z) (fr0 (.sl k off n (some c) st) (.sc (.int .i64 (i:Int))) (.sl id2 off2 m cap2 st)) M)=some (.ret,.sl M.size 0 (n+m) none st,[],M') ∧
   M'.size=M.size+1∧(∀ j,j<M.size→M'.get j=M.get j)∧M'.get M.size=some (.row false (slot cs off (i*st)++(slot cs2 off2 (m*st)++slot cs (off+i*st) ((n - i)*st)))):=by
 obtain⟨gk,g2,lk,l2,nc,im,m0,s0,ne,b1,b2,ms,o1,o2⟩:=H
 have kM:=zBY (Mem.get_lt gk)
 have k2M:=zBY (Mem.get_lt g2)
 have e1:i+(n+m - i)=n+m:=by omega
 obtain⟨hz1,hz2⟩:=hz (n+m - i)
 obtain⟨M1,hM1⟩:=Mem.new_ok (M:=M) ms (.row false (slot cs off (i*st)++zA5 z (n+m - i)))
 obtain⟨_,s1,q1,r1,_,_⟩:=Mem.new_spec hM1
 obtain⟨M2,hM2⟩:=Mem.put_ok (M:=M1) (i:=M.size) (by omega) (ms.new hM1) (.row false (lay (slot cs off (i*st)++zA5 z (n+m - i)) (i*st) (slot cs2 off2 (m*st))))
 obtain⟨_,s2,q2,_,_⟩:=Mem.put_spec hM2
 obtain⟨M3,hM3⟩:=Mem.put_ok (M:=M2) (i:=M.size) (by omega) ((ms.new hM1).put hM2) (.row false (lay (lay (slot cs off (i*st)++zA5 z (n+m - i)) (i*st) (slot cs2 off2 (m*st))) ((i+m)*st) (slot cs (off+i*st) ((n - i)*st))))
 obtain⟨_,s3,q3,_,_⟩:=Mem.put_spec hM3
 have hin':n*st=i*st+(n - i)*st:=by rw[← Nat.add_mul];congr 1;omega
 have lA:(slot cs off (i*st)).length=i*st:=zAZ (by omega)
 have lN:(slot cs2 off2 (m*st)).length=m*st:=zAZ l2
 have lT:(slot cs (off+i*st) ((n - i)*st)).length=(n - i)*st:=zAZ (by omega)
 have hst:=zG6 st
 have hst0:Nat.beq c 0=false:=zE1 (by omega)
 have hm0:((m:Int)=0)=False:=eq_false (by omega)
 have hin:((i:Int)=(n:Int))=False:=eq_false (by omega)
 have hw1:=zBR (a:=n) (b:=m) (by omega)
 have hw2:=zGT (a:=n+m) (b:=i) (by omega) (by omega)
 have hw3:=zBR (a:=i) (b:=m) (by omega)
 have hgt:((c:Int)<((n+m:Nat):Int))=True:=eq_true (by omega)
 have a1:Nat.ble i n=true:=zAT (by omega)
 have a2:Nat.ble i c=true:=zAT (by omega)
 have a3:Nat.ble 0 i=true:=zAT (by omega)
 have a4:Nat.ble (off+i*st) cs.length=true:=zAT (by omega)
 have hap:=zDL (off:=off) (len:=i) (c:=c) (m:=n+m - i) (old:=slot cs off (i*st)) (by':=by') (by omega) hz1 hz2 (by rw[e1];exact b1) (by rw[e1];exact b2) gk (by omega) hM1
 rw[e1] at hap
 have gM1:M1.get M.size=some (.row false (slot cs off (i*st)++zA5 z (n+m - i))):=r1
 have g12:M1.get id2=some (.row false cs2):=by rw[q1 _ (Mem.get_lt g2),g2]
 have b1M:Nat.blt M.size M1.size=true:=zBY (by omega)
 have b2M:Nat.blt id2 M1.size=true:=zBY (by have:=Mem.get_lt g2;omega)
 have a5:Nat.ble i (n+m)=true:=zAT (by omega)
 have hmin1:Nat.min m (n+m - i)=m:=Nat.min_eq_left (by omega)
 have a6:Nat.ble m m=true:=zAT (Nat.le_refl _)
 have a7:Nat.ble (off2+m*st) cs2.length=true:=zAT l2
 have a8:Nat.ble (i*st+(slot cs2 off2 (m*st)).length) (slot cs off (i*st)++zA5 z (n+m - i)).length=true:=zAT (by rw[List.length_append,lA,lN,hz2];have:=zB0 (s:=st) (show m≤n+m - i by omega);omega)
 have gM2:M2.get M.size=some (.row false (lay (slot cs off (i*st)++zA5 z (n+m - i)) (i*st) (slot cs2 off2 (m*st)))):=by rw[q2,if_pos rfl]
 have gM2k:M2.get k=some (.row str cs):=by have:=Mem.get_lt gk;rw[q2,if_neg (by omega),q1 _ this,gk]
 have b3M:Nat.blt M.size M2.size=true:=zBY (by omega)
 have b4M:Nat.blt k M2.size=true:=zBY (by have:=Mem.get_lt gk;omega)
 have f1:Nat.ble M2.size k=false:=zLY (by have:=Mem.get_lt gk;omega)
 have f2:Nat.ble M2.size M.size=false:=zLY (by omega)
 have a9:Nat.ble (i+m) (n+m)=true:=zAT (by omega)
 have a10:Nat.beq c i=false:=zE1 (by omega)
 have hmin2:Nat.min (n - i) (n+m - (i+m))=n - i:=Nat.min_eq_left (by omega)
 have a11:Nat.ble (n - i) (n - i)=true:=zAT (Nat.le_refl _)
 have a12:Nat.ble (off+i*st+(n - i)*st) cs.length=true:=zAT (by omega)
 have lR1:lay (slot cs off (i*st)++zA5 z (n+m - i)) (i*st) (slot cs2 off2 (m*st))=slot cs off (i*st)++(slot cs2 off2 (m*st)++(zA5 z (n+m - i)).drop (m*st)):=by
  have:=zFO (A:=slot cs off (i*st)) (B:=(zA5 z (n+m - i)).take (m*st)) (C:=(zA5 z (n+m - i)).drop (m*st)) (new:=slot cs2 off2 (m*st)) lA (by
   rw[List.length_take,hz2,lN];have:=zB0 (s:=st) (show m≤n+m - i by omega);omega)
  rwa [List.take_append_drop] at this
 have a13:Nat.ble ((i+m)*st+(slot cs (off+i*st) ((n - i)*st)).length) (lay (slot cs off (i*st)++zA5 z (n+m - i)) (i*st) (slot cs2 off2 (m*st))).length=true:=zAT (by
  rw[lR1]
  simp only[List.length_append,List.length_drop,lA,lN,lT,hz2]
  have h1:(n+m - i)*st=(n - i)*st+m*st:=by rw[← Nat.add_mul];congr 1;omega
  rw[h1,Nat.add_mul];omega)
 have o3:=oc
 refine⟨M3, ?_,by omega,fun j hj=>by rw[q3,if_neg (by omega),q2,if_neg (by omega),q1 _ hj], ?_⟩
 ·simp only[List.cons_append,List.nil_append,List.all_nil,List.all_cons,Bool.and_self,Bool.and_true,Bool.true_and,decide_false,decide_true,Bool.not_true,Bool.not_false,Nat.zero_add,Nat.add_zero,Nat.zero_mul,Nat.sub_zero,out6,fr0,insA,zA4,zAC,zA1,zAQ,zCC,zAD,rowsOf,zA2,nth,putA,zBE,bound,lenA,goInt,List.replicate,zAW hO.h0,zAW hO.h1,zAW hO.h2,zAW hO.h3,zAW hO.h4,zAW hO.h5,zAW hO.h6,zAW hO.h7,zAW hO.h8,zN7 hO.h9,zAW hO.h10,zD8,rEql,rGtr,rAdd,rSub,zD1,cellsOf,zBZ,Mem.rd,kM,k2M,gk,g2,hst,decide_eq_true_eq,eq_self_iff_true,zA8,zAJ,zAH,zBW,FP.apart,FP.reads,FP.writes,disj,List.isEmpty_nil,List.isEmpty_cons,Bool.false_and,List.contains_cons,List.contains_nil,Bool.false_or,Bool.or_false,Bool.true_or,Bool.or_true,beq_self_eq_true,Nat.reduceBEq,Bool.and_false,hm0,hin,hw1,hw2,hw3,hgt,a1,a2,a3,a4,hap,gM1,g12,b1M,b2M,a5,hmin1,a6,a7,a8,o2,hM2,gM2,gM2k,b3M,b4M,f1,f2,a9,a10,hmin2,a11,a12,a13,o3,hM3,hst0,zG6]
 ·rw[q3,if_pos rfl,lR1]
  have h1:(i+m)*st=i*st+m*st:=Nat.add_mul ..
  have h2:(n+m - i)*st=(n - i)*st+m*st:=by rw[← Nat.add_mul];congr 1;omega
  have:=zFO (A:=slot cs off (i*st)++slot cs2 off2 (m*st)) (B:=(zA5 z (n+m - i)).drop (m*st)) (C:=[]) (new:=slot cs (off+i*st) ((n - i)*st)) (o:=(i+m)*st) (by rw[List.length_append,lA,lN,h1]) (by
   rw[List.length_drop,hz2,lT,h2];omega)
  simp only[List.append_nil,List.append_assoc] at this
  rw[this]
theorem zEO {l:List AV}{o n:Nat}(h:o+n≤l.length):l.drop o=slot l o n++l.drop (o+n):=by
 unfold slot
 rw[← List.drop_drop,List.take_append_drop]
set_option maxRecDepth 10000 in
set_option maxHeartbeats 1000000 in
theorem zGF (hO:InsO O ti tb)(H:InsHyp M k id2 off2 n m c i st by' str cs cs2)(oc:(slot cs (i*st) ((n - i)*st)).all oneA=true)(hi:i<n)(hc:n+m≤c) :
  ∃ M' rest,out6 (zA4 P 20000 call none (insA O g e st by' z) (fr0 (.sl k 0 n (some c) st) (.sc (.int .i64 (i:Int))) (.sl id2 off2 m cap2 st)) M)=some (.ret,.sl k 0 (n+m) (some c) st,[],M') ∧
   M'.size=M.size∧(∀ j,j≠k→M'.get j=M.get j)∧M'.get k=some (.row str ((slot cs 0 (i*st)++(slot cs2 off2 (m*st)++slot cs (i*st) ((n - i)*st)))++rest)):=by
 obtain⟨gk,g2,lk,l2,nc,im,m0,s0,ne,b1,b2,ms,o1,o2⟩:=H
 have kM:=zBY (Mem.get_lt gk)
 have k2M:=zBY (Mem.get_lt g2)
 have hkk:=Mem.get_lt gk
 obtain⟨M1,hM1⟩:=Mem.put_ok (M:=M) hkk ms (.row str (lay cs ((i+m)*st) (slot cs (i*st) ((n+m - (i+m))*st))))
 obtain⟨_,s1,q1,_,_⟩:=Mem.put_spec hM1
 obtain⟨M2,hM2⟩:=Mem.put_ok (M:=M1) (i:=k) (by omega) (ms.put hM1) (.row str (lay (lay cs ((i+m)*st) (slot cs (i*st) ((n+m - (i+m))*st))) (i*st) (slot cs2 off2 (m*st))))
 obtain⟨_,s2,q2,_,_⟩:=Mem.put_spec hM2
 have eT:n+m - (i+m)=n - i:=by omega
 have lA:(slot cs 0 (i*st)).length=i*st:=zAZ (by rw[lk,Nat.zero_add];exact zB0 (by omega))
 have lN:(slot cs2 off2 (m*st)).length=m*st:=zAZ l2
 have lT:(slot cs (i*st) ((n+m - (i+m))*st)).length=(n - i)*st:=by rw[eT];exact zAZ (by rw[lk,← Nat.add_mul];exact zB0 (by omega))
 have hst:=zG6 st
 have hm0:((m:Int)=0)=False:=eq_false (by omega)
 have hin:((i:Int)=(n:Int))=False:=eq_false (by omega)
 have hw1:=zBR (a:=n) (b:=m) (by omega)
 have hw3:=zBR (a:=i) (b:=m) (by omega)
 have hgt:((c:Int)<((n+m:Nat):Int))=False:=eq_false (by omega)
 have a1:Nat.ble i n=true:=zAT (by omega)
 have a2:Nat.ble (n+m) c=true:=zAT (by omega)
 have a3:Nat.ble 0 (n+m)=true:=zAT (by omega)
 have hst0:Nat.beq c 0=false:=zE1 (by omega)
 have a4:Nat.ble (i+m) (n+m)=true:=zAT (by omega)
 have a5:Nat.beq c (i+m)=false:=zE1 (by omega)
 have a6:Nat.beq id2 k=false:=zE1 (fun e=>ne e.symm)
 have a7:Nat.beq m 0=false:=zE1 (by omega)
 have a8:Nat.beq (n+m - (i+m)) 0=false:=zE1 (by omega)
 have a9:Nat.beq st 0=false:=zE1 (by omega)
 have a10:Nat.ble i (n+m)=true:=zAT (by omega)
 have a11:Nat.beq c i=false:=zE1 (by omega)
 have hmin1:Nat.min (n+m - i) (n+m - (i+m))=n+m - (i+m):=Nat.min_eq_right (by omega)
 have a12:Nat.ble (n+m - (i+m)) (n+m - i)=true:=zAT (by omega)
 have a13:Nat.ble (i*st+(n+m - (i+m))*st) cs.length=true:=zAT (by rw[lk,← Nat.add_mul];exact zB0 (by omega))
 have a14:Nat.ble ((i+m)*st+(slot cs (i*st) ((n+m - (i+m))*st)).length) cs.length=true:=zAT (by rw[lT,lk,← Nat.add_mul];exact zB0 (by omega))
 have o3:(slot cs (i*st) ((n+m - (i+m))*st)).all oneA=true:=by rw[eT];exact oc
 have gM1:M1.get k=some (.row str (lay cs ((i+m)*st) (slot cs (i*st) ((n+m - (i+m))*st)))):=by rw[q1,if_pos rfl]
 have g12:M1.get id2=some (.row false cs2):=by rw[q1,if_neg (fun e=>ne e.symm),g2]
 have b1M:Nat.blt k M1.size=true:=zBY (by omega)
 have b2M:Nat.blt id2 M1.size=true:=zBY (by have:=Mem.get_lt g2;omega)
 have hmin2:Nat.min m (n+m - i)=m:=Nat.min_eq_left (by omega)
 have a15:Nat.ble m m=true:=zAT (Nat.le_refl _)
 have a16:Nat.ble (off2+m*st) cs2.length=true:=zAT l2
 have h1:(i+m)*st=i*st+m*st:=Nat.add_mul ..
 have h3:n*st=i*st+(n - i)*st:=by rw[← Nat.add_mul];congr 1;omega
 have h4:(n+m)*st≤c*st:=zB0 hc
 have h5:(n+m)*st=i*st+(m*st+(n - i)*st):=by rw[← Nat.add_mul,← Nat.add_mul];congr 1;omega
 -- the row,in pieces
 have d1:cs=slot cs 0 (i*st)++(slot cs (i*st) (m*st)++(slot cs ((i+m)*st) ((n - i)*st)++cs.drop ((n+m)*st))):=by
  have x1:=zEO (l:=cs) (o:=0) (n:=i*st) (by rw[lk];omega)
  have x2:=zEO (l:=cs) (o:=i*st) (n:=m*st) (by rw[lk];omega)
  have x3:=zEO (l:=cs) (o:=(i+m)*st) (n:=(n - i)*st) (by rw[lk];omega)
  rw[List.drop_zero,Nat.zero_add] at x1
  rw[← h1] at x2
  rw[show (i+m)*st+(n - i)*st=(n+m)*st by omega] at x3
  rw[← x3,← x2,← x1]
 have lB:(slot cs (i*st) (m*st)).length=m*st:=zAZ (by rw[lk];omega)
 have lC:(slot cs ((i+m)*st) ((n - i)*st)).length=(n - i)*st:=zAZ (by rw[lk];omega)
 have r1:lay cs ((i+m)*st) (slot cs (i*st) ((n+m - (i+m))*st))=slot cs 0 (i*st)++(slot cs (i*st) (m*st)++(slot cs (i*st) ((n+m - (i+m))*st)++cs.drop ((n+m)*st))):=by
  conv=>lhs;arg 1;rw[d1]
  have:=zFO (A:=slot cs 0 (i*st)++slot cs (i*st) (m*st)) (B:=slot cs ((i+m)*st) ((n - i)*st)) (C:=cs.drop ((n+m)*st)) (new:=slot cs (i*st) ((n+m - (i+m))*st)) (o:=(i+m)*st) (by rw[List.length_append,lA,lB,h1]) (by rw[lC,lT])
  simpa only[List.append_assoc] using this
 have r2:lay (lay cs ((i+m)*st) (slot cs (i*st) ((n+m - (i+m))*st))) (i*st) (slot cs2 off2 (m*st))=(slot cs 0 (i*st)++(slot cs2 off2 (m*st)++slot cs (i*st) ((n - i)*st)))++cs.drop ((n+m)*st):=by
  rw[r1,zFO lA (by rw[lB,lN]),eT]
  simp only[List.append_assoc]
 have a17:Nat.ble (i*st+(slot cs2 off2 (m*st)).length) (lay cs ((i+m)*st) (slot cs (i*st) ((n+m - (i+m))*st))).length=true:=zAT (by
  rw[r1];simp only[List.length_append,lA,lB,lN];omega)
 have a18:Nat.ble M.size k=false:=zLY hkk
 refine⟨M2,cs.drop ((n+m)*st), ?_,by omega,fun j hj=>by rw[q2,if_neg hj,q1,if_neg hj], ?_⟩
 ·simp only[List.cons_append,List.nil_append,List.all_nil,List.all_cons,Bool.and_self,Bool.and_true,Bool.true_and,decide_false,decide_true,Bool.not_true,Bool.not_false,Nat.zero_add,Nat.add_zero,Nat.zero_mul,Nat.sub_zero,out6,fr0,insA,zA4,zAC,zA1,zAQ,zCC,zAD,rowsOf,zA2,nth,putA,zBE,bound,lenA,goInt,List.replicate,zAW hO.h0,zAW hO.h1,zAW hO.h2,zAW hO.h3,zAW hO.h4,zAW hO.h5,zAW hO.h6,zAW hO.h7,zAW hO.h8,zN7 hO.h9,zAW hO.h10,zD8,rEql,rGtr,rAdd,rSub,zD1,cellsOf,zBZ,Mem.rd,kM,k2M,gk,g2,hst,decide_eq_true_eq,eq_self_iff_true,zA8,zAJ,zAH,zBW,FP.apart,FP.reads,FP.writes,disj,List.isEmpty_nil,List.isEmpty_cons,Bool.false_and,List.contains_cons,List.contains_nil,Bool.false_or,Bool.or_false,Bool.true_or,Bool.or_true,beq_self_eq_true,Nat.reduceBEq,Bool.and_false,hm0,hin,hw1,hw3,hgt,a1,a2,a3,a4,a5,a6,a7,a8,a9,a10,a11,hmin1,a12,a13,a14,o3,hM1,gM1,g12,b1M,b2M,hmin2,a15,a16,a17,a18,o2,hM2,hst0,zG6]
 ·rw[q2,if_pos rfl,r2]
end
variable {Γ : Glob}
mutual
theorem VRel.swap {μ μ2 μ':Inj}(hag:∀ i p,μ i=some p→μ' i=μ2 i)(hf:μ'.f=μ2.f):∀ {a:AV} {v0 v:Value},VRel μ a v0→VRel μ2 a v→VRel μ' a v
 | _,_,_,.sc _,h=>by cases h;exact .sc _
 | _,_,_,.ptr e,h=>by cases h with | ptr e2=>exact .ptr ((hag _ _ e).trans e2)
 | _,_,_,.sl e _,h=>by
  cases h with
  | sl e2 c2=>exact .sl ((hag _ _ e).trans e2) c2
  | sl0 e2 c2=>exact .sl0 ((hag _ _ e).trans e2) c2
 | _,_,_,.sl0 e _,h=>by
  cases h with
  | sl e2 c2=>exact .sl ((hag _ _ e).trans e2) c2
  | sl0 e2 c2=>exact .sl0 ((hag _ _ e).trans e2) c2
 | _,_,_,.mp e,h=>by cases h with | mp e2=>exact .mp ((hag _ _ e).trans e2)
 | _,_,_,.fn x y,h=>by cases h with | fn x2 y2=>exact .fn (VRels.swap hag hf x x2) (VRels.swap hag hf y y2)
 | _,_,_,.yl e,h=>by cases h with | yl e2=>exact .yl ((hag _ _ e).trans e2)
 | _,_,_,.agg x,h=>by cases h with | agg x2=>exact .agg (VRels.swap hag hf x x2)
 | _,_,_,.tup x,h=>by cases h with | tup x2=>exact .tup (VRels.swap hag hf x x2)
 | _,_,_,.pv _ _ _ _ _ _,h=>by
  cases h with
  | pv a b c d e g=>exact .pv (by rw[hf];exact a) b (by rw[hf];exact c) d e g
  | pv0 a=>exact .pv0 a
 | _,_,_,.pv0 _,h=>by
  cases h with
  | pv a b c d e g=>exact .pv (by rw[hf];exact a) b (by rw[hf];exact c) d e g
  | pv0 a=>exact .pv0 a
 | _,_,_,.cp _ _ _,h=>by cases h with | cp a b c=>exact .cp (by rw[hf];exact a) b (by rw[hf];exact c)
theorem VRels.swap {μ μ2 μ':Inj}(hag:∀ i p,μ i=some p→μ' i=μ2 i)(hf:μ'.f=μ2.f):∀ {l:List AV} {vs0 vs:List Value},VRels μ l vs0→VRels μ2 l vs→VRels μ' l vs
 | _,_,_,.nil,h=>by cases h;exact .nil
 | _,_,_,.cons x y,h=>by cases h with | cons x2 y2=>exact .cons (VRel.swap hag hf x x2) (VRels.swap hag hf y y2)
end
theorem zCK.swap {μ μ2 μ':Inj}(hag:∀ i p,μ i=some p→μ' i=μ2 i)(hf:μ'.f=μ2.f){obj:AObj}{p0 p:Pl}{w0 w:World}(h0:zCK P μ obj p0 w0)(h:zCK P μ2 obj p w):zCK P μ' obj p w:=by
 cases obj with
 | row str cs =>
  obtain⟨_,_,_,_,_,_,_,k5,_⟩:=h0
  obtain⟨c,e,fz,h1,h2,h3,h4,h5,h6⟩:=h
  exact⟨c,e,fz,h1,h2,h3,h4,k5.swap hag hf h5,h6⟩
 | map es clock =>
  obtain⟨_,_,k2⟩:=h0
  obtain⟨es',h1,h2⟩:=h
  refine⟨es',h1,h2.1,fun i a b n hi=>?_⟩
  obtain⟨e,he,x1,x2,x3⟩:=h2.2 i a b n hi
  obtain⟨e0,_,y1,y2,_⟩:=k2.2 i a b n hi
  exact⟨e,he,y1.swap hag hf x1,y2.swap hag hf x2,x3⟩
 | loop st pend tm ps assign body dfr =>
  obtain⟨_,_,_,_,k4,_,_,_,q0,k8,_⟩:=h0
  obtain⟨r,h1,h2,h3,h4,h5,h6,h7,q,h8,h9⟩:=h
  exact⟨r,h1,h2,h3,k4.swap hag hf h4,h5,h6,h7,q,(hag _ _ k8).trans h8,h9⟩
 | dfr spent=>exact h
 | siter s pos=>exact h
 | fro cs =>
  obtain⟨_,_,_,_,_,_,_,k5⟩:=h0
  obtain⟨c,e,fz,h1,h2,h3,h4,h5⟩:=h
  exact⟨c,e,fz,by rw[hf];exact h1,h2,h3,h4,k5.swap hag hf h5⟩
 | dead=>trivial
theorem zEZ {μ:Inj}{i j:Nat}{p:Pl}(h:j≠i):μ.upd i p j=μ j:=by rw[Inj.upd_m,if_neg h]
def Inj.upf (μ:Inj)(i:Nat)(p:Pl)(f:Nat→Option Obj):Inj:=⟨(μ.upd i p).m,f⟩
theorem zF0 {μ:Inj}{i j:Nat}{p:Pl}{f:Nat→Option Obj}(h:j≠i):μ.upf i p f j=μ j:=zEZ h
theorem Inj.upf_same (μ:Inj)(i:Nat)(p:Pl)(f:Nat→Option Obj):μ.upf i p f i=some p:=Inj.upd_same ..
theorem Inj.le_upf {μ:Inj}{i:Nat}{p:Pl}{f:Nat→Option Obj}(h:μ i=none)(hf:∀ b x,μ.f b=some x→f b=some x):μ.le (μ.upf i p f):=⟨(Inj.le_upd h).app,hf⟩
theorem zOX {μ μx μ2:Inj}{M M1 Mx M2 M':Mem}{w w2:World}{id k kk n:Nat}{p qx q2:Pl}{str s2:Bool}{Tg rest cellsx:List AV}{vs0:List Value}{v:Value}{st:Nat}{cap:Option Nat}
  (R:RelOn Γ P (· < M.size) μ M.get w) (hfr:μ M.size=none) (hid:μ id=some p) (hlive:live M.get id)
  (hput:M.put id .dead=some M1) (hx:M1.new (.row str cellsx)=some (k,Mx)) (hμx:μx=μ.upd M.size qx) (hqx:qx.b=p.b)
  (S:Seg Γ P μx Mx w μ2 M2 w2) (hkeep:∀ j,j<M.size→M2.get j=M1.get j) (hkk:M.size≤kk) (hq2:μ2 kk=some q2) (hg2:M2.get kk=some (.row s2 (Tg++rest))) (hs:s2=str∨s2=false)
  (hb:q2.b=p.b∨w.heap.size≤q2.b) (hT:VRels μ Tg vs0) (hTl:Tg.length=n*st) (hn:0<n) (hv:VRel μ2 (.sl kk 0 n cap st) v) (hM':M1.new (.row str Tg)=some (k,M')) :
  Res Γ P (· < M.size) (· < M.size) μ M w (.sl k 0 n none st) M' v w2 (μ.upf M.size ⟨q2.b,q2.o,n*st,q2.sz⟩ μ2.f):=by
 obtain⟨hlt,hsz,hget,_,_⟩:=Mem.put_spec hput
 obtain⟨rfl,hs1,hold1,hnew1,_,_⟩:=Mem.new_spec hx
 obtain⟨_,hs2,hold2,hnew2,_,_⟩:=Mem.new_spec hM'
 rw[hsz] at hs1 hold1 hnew1 hs2 hold2 hnew2
 have hkM:M1.size=M.size:=hsz
 rw[hkM]
 have lex:μ.le μx:=by rw[hμx];exact Inj.le_upd hfr
 have le2:μ.le μ2:=Inj.le_trans lex S.ext.sub
 have le':μ.le (μ.upf M.size ⟨q2.b,q2.o,n*st,q2.sz⟩ μ2.f):=Inj.le_upf hfr le2.fz
 have hag:∀ i q,μ i=some q→(μ.upf M.size ⟨q2.b,q2.o,n*st,q2.sz⟩ μ2.f) i=μ2 i:=fun i q h=>by rw[le' _ _ h,le2 _ _ h]
 have old:∀ i q,(μ.upf M.size ⟨q2.b,q2.o,n*st,q2.sz⟩ μ2.f) i=some q→i≠M.size→μ i=some q:=fun i q h hne=>by rwa [zF0 hne] at h
 have gM':∀ i,i<M.size→M'.get i=M2.get i:=fun i hi=>by rw[hold2 i hi,hkeep i hi]
 have kkM:kk<M2.size:=Mem.get_lt hg2
 obtain⟨kb,obj,ko,kok⟩:=S.on.ok kk q2 kkM hq2
 rw[hg2] at ko;cases ko
 have livekk:live M2.get kk:=zB8 hg2 rfl
 refine⟨?_, ?_, ?_⟩
 ·-- the value
  cases hv with
  | sl e c2 =>
   rename_i c' pp
   rw[hq2] at e;cases e
   have h1:n≤c'∧q2.o+0+c'*st≤q2.sz:=by
    cases cap with
    | some c=>exact⟨c2.2.1,c2.2.2⟩
    | none=>exact⟨c2.1,c2.2.1⟩
   refine .sl (p:=⟨q2.b,q2.o,n*st,q2.sz⟩) (Inj.upf_same ..) ⟨h1.1,h1.2, ?_⟩
   show n*st≤0+c'*st
   rw[Nat.zero_add];exact zB0 h1.1
  | sl0 e c2=>omega
 ·refine⟨le',fun i q h1 h2=>?_,fun b x h1 h2=>?fn,by omega,S.ext.hs,fun b hb' hf=>?_,fun i hi hn'=>absurd hi hn',fun i hi hd=>?_,S.ext.os,S.ext.tape,S.ext.output⟩
  ·have:i=M.size:=by
    by_cases e:i=M.size
    ·exact e
    ·rw[old i q h1 e] at h2;cases h2
   subst this
   rw[Inj.upf_same] at h1;cases h1
   refine⟨Nat.le_refl _,by omega, ?_⟩
   rcases hb with hb | hb
   ·exact .inr ⟨id,p,hlt,hlt,hid,hb.symm,hlive,zCD (o:=.dead) (by rw[hold2 id hlt,hget,if_pos rfl]) rfl⟩
   ·exact .inl hb
  case fn =>
   have h1:μ2.f b=some x:=h1
   rcases S.ext.fnew b x h1 (by rw[hμx];exact h2) with h | ⟨i,q,_,hi,hq,hqb,hl,hd⟩
   ·exact .inl h
   ·by_cases e:i=M.size
    ·subst e
     rw[hμx,Inj.upd_same] at hq;cases hq
     exact .inr ⟨id,p,hlt,hlt,hid,by rw[← hqx];exact hqb,hlive,zCD (o:=.dead) (by rw[hold2 id hlt,hget,if_pos rfl]) rfl⟩
    ·exfalso
     have hi':i<M.size:=by omega
     exact hd ((zAL ((hold1 i hi').trans (hkeep i hi').symm)).1 hl)
  ·refine S.ext.frame b hb' fun i q _ hi hq hl=>?_
   by_cases e:i=M.size
   ·subst e
    rw[hμx,Inj.upd_same] at hq;cases hq
    rw[hqx];exact hf id p hlt hlt hid hlive
   ·have hi':i<M.size:=by omega
    rw[hμx,zEZ e] at hq
    refine hf i q hi' hi' hq ?_
    have e':i≠id:=fun h=>by subst h;exact zCD (o:=.dead) (by rw[hold1 i hi',hget,if_pos rfl]) rfl hl
    exact(zAL (by rw[hold1 i hi',hget,if_neg e'])).1 hl
  ·rw[hold2 i hi,hget,if_neg (fun (e:i=id)=>hd (e ▸ hlive))]
 ·constructor
  ·intro i q hi hq
   by_cases e:i=M.size
   ·subst e
    rw[Inj.upf_same] at hq;cases hq
    refine⟨kb,_,hnew2, ?_⟩
    obtain⟨c,e,fz,h1,h2,h3,h4,h5,h6,h7⟩:=kok
    have hL:n*st≤q2.L:=by rw[← h3,List.length_append,hTl];omega
    refine⟨c,e,fz,h1,h2,hTl,by show q2.o+n*st≤q2.sz;omega, ?_,h6,fun hstr=>h7 ?_⟩
    ·have:=h5.take (n*st)
     rw[List.take_left' hTl,List.take_take,Nat.min_eq_left hL] at this
     exact hT.swap hag rfl this
    ·rcases hs with hs | hs
     ·exact hs.trans hstr
     ·exact hs
   ·have hi':i<M.size:=by omega
    have hμ:=old i q hq e
    obtain⟨a1,obj,a2,a3⟩:=S.on.ok i q (by have:=S.ext.le;omega) (le2 _ _ hμ)
    refine⟨a1,obj,by rw[gM' i hi',a2], ?_⟩
    by_cases hd:i=id
    ·subst hd
     rw[hkeep i hi',hget,if_pos rfl] at a2
     cases a2;trivial
    ·rw[hkeep i hi',hget,if_neg hd] at a2
     obtain⟨_,obj0,b2,b3⟩:=R.ok i q hi' hμ
     rw[a2] at b2;cases b2
     exact b3.swap hag rfl a3
  ·intro i j pi pj hi hj hpi hpj hli hlj e
   by_cases ei:i=M.size
   ·by_cases ej:j=M.size
    ·rw[ei,ej]
    ·exfalso
     have hj':j<M.size:=by omega
     subst ei
     rw[Inj.upf_same] at hpi;cases hpi
     have:=S.on.ex kk j q2 pj kkM (by have:=S.ext.le;omega) hq2 (le2 _ _ (old j pj hpj ej)) livekk ((zAL (gM' j hj')).1 hlj) e
     omega
   ·have hi':i<M.size:=by omega
    by_cases ej:j=M.size
    ·exfalso
     subst ej
     rw[Inj.upf_same] at hpj;cases hpj
     have:=S.on.ex i kk pi q2 (by have:=S.ext.le;omega) kkM (le2 _ _ (old i pi hpi ei)) hq2 ((zAL (gM' i hi')).1 hli) livekk e
     omega
    ·have hj':j<M.size:=by omega
     exact S.on.ex i j pi pj (by have:=S.ext.le;omega) (by have:=S.ext.le;omega) (le2 _ _ (old i pi hpi ei)) (le2 _ _ (old j pj hpj ej)) ((zAL (gM' i hi')).1 hli) ((zAL (gM' j hj')).1 hlj) e
  ·exact S.on.fz
  ·intro b x i pi hb1 hi hpi hli
   have hb1:μ2.f b=some x:=hb1
   by_cases ei:i=M.size
   ·subst ei
    rw[Inj.upf_same] at hpi;cases hpi
    exact S.on.sep b x kk q2 hb1 kkM hq2 livekk
   ·have hi':i<M.size:=by omega
    exact S.on.sep b x i pi hb1 (by have:=S.ext.le;omega) (le2 _ _ (old i pi hpi ei)) ((zAL (gM' i hi')).1 hli)
  ·exact S.on.gl
theorem zGD {μ μ2:Inj}{M M1 M2 M':Mem}{w w2:World}{id k n:Nat}{str:Bool}{Tg:List AV}{vs0:List Value}{v:Value}{st:Nat}
  (R:RelOn Γ P (· < M.size) μ M.get w) (hfr:μ M.size=none) (hlive:live M.get id)
  (hput:M.put id .dead=some M1) (S:Seg Γ P μ M w μ2 M2 w2) (hsz2:M2.size=M.size+1) (hkeep:∀ j,j<M.size→M2.get j=M.get j) (hg2:M2.get M.size=some (.row false Tg))
  (hT:VRels μ Tg vs0) (hTl:Tg.length=n*st) (hn:0<n) (hv:VRel μ2 (.sl M.size 0 n none st) v) (hM':M1.new (.row str Tg)=some (k,M')) :
  ∃ μ',Res Γ P (· < M.size) (· < M.size) μ M w (.sl k 0 n none st) M' v w2 μ':=by
 obtain⟨hlt,hsz,hget,_,_⟩:=Mem.put_spec hput
 obtain⟨rfl,hs2,hold2,hnew2,_,_⟩:=Mem.new_spec hM'
 rw[hsz] at hs2 hold2 hnew2
 have hq:∃ q2,μ2 M.size=some q2:=by
  cases hv with
  | sl e _=>exact⟨_,e⟩
  | sl0 e _=>exact⟨_,e⟩
 obtain⟨q2,hq2⟩:=hq
 have hnewq:=S.ext.new M.size q2 hq2 hfr
 have hb:w.heap.size≤q2.b:=by
  rcases hnewq.2.2 with h | ⟨i,q,_,hi,_,_,hl,hd⟩
  ·exact h
  ·exact absurd ((zAL (hkeep i hi)).2 hl) hd
 have hkM:M1.size=M.size:=hsz
 rw[hkM]
 have le2:μ.le μ2:=S.ext.sub
 have hag:∀ i q,μ i=some q→(μ.upf M.size ⟨q2.b,q2.o,n*st,q2.sz⟩ μ2.f) i=μ2 i:=fun i q h=>by rw[Inj.le_upf hfr le2.fz _ _ h,le2 _ _ h]
 have old:∀ i q,(μ.upf M.size ⟨q2.b,q2.o,n*st,q2.sz⟩ μ2.f) i=some q→i≠M.size→μ i=some q:=fun i q h hne=>by rwa [zF0 hne] at h
 have kkM:M.size<M2.size:=by omega
 obtain⟨kb,obj,ko,kok⟩:=S.on.ok M.size q2 kkM hq2
 rw[hg2] at ko;cases ko
 have livekk:live M2.get M.size:=zB8 hg2 rfl
 have lv:∀ i,i<M.size→live M'.get i→live M2.get i:=fun i hi hl=>by
  have e':i≠id:=fun h=>by subst h;exact zCD (o:=.dead) (by rw[hold2 i hi,hget,if_pos rfl]) rfl hl
  exact(zAL (by rw[hold2 i hi,hget,if_neg e',hkeep i hi])).1 hl
 refine⟨μ.upf M.size ⟨q2.b,q2.o,n*st,q2.sz⟩ μ2.f, ?_, ?_, ?_⟩
 ·cases hv with
  | sl e c2 =>
   rename_i c' pp
   rw[hq2] at e;cases e
   refine .sl (p:=⟨q2.b,q2.o,n*st,q2.sz⟩) (Inj.upf_same ..) ⟨c2.1,c2.2.1, ?_⟩
   show n*st≤0+c'*st
   rw[Nat.zero_add];exact Nat.mul_le_mul_right st c2.1
  | sl0 e c2=>omega
 ·refine⟨Inj.le_upf hfr le2.fz,fun i q h1 h2=>?_,fun b x h1 h2=>?fn2,by omega,S.ext.hs,fun b hb' hf=>S.ext.frame b hb' hf,fun i hi hn'=>absurd hi hn',fun i hi hd=>?_,S.ext.os,S.ext.tape,S.ext.output⟩
  ·have:i=M.size:=by
    by_cases e:i=M.size
    ·exact e
    ·rw[old i q h1 e] at h2;cases h2
   subst this
   rw[Inj.upf_same] at h1;cases h1
   exact⟨Nat.le_refl _,by omega,.inl hb⟩
  case fn2 =>
   have h1:μ2.f b=some x:=h1
   rcases S.ext.fnew b x h1 h2 with h | ⟨i,q,_,hi,_,_,hl,hd⟩
   ·exact .inl h
   ·exfalso
    rw[zAL (hkeep i hi)] at hd
    exact hd hl
  ·rw[hold2 i hi,hget,if_neg (fun (e:i=id)=>hd (e ▸ hlive))]
 ·constructor
  ·intro i q hi hq
   by_cases e:i=M.size
   ·subst e
    rw[Inj.upf_same] at hq;cases hq
    refine⟨kb,_,hnew2, ?_⟩
    obtain⟨c,e,fz,h1,h2,h3,h4,h5,h6,h7⟩:=kok
    refine⟨c,e,fz,h1,h2,hTl,by show q2.o+n*st≤q2.sz;omega, ?_,h6,fun hstr=>h7 rfl⟩
    have:q2.L=n*st:=by rw[← h3,hTl]
    rw[this] at h5
    exact hT.swap hag rfl h5
   ·have hi':i<M.size:=by omega
    have hμ:=old i q hq e
    obtain⟨a1,obj,a2,a3⟩:=S.on.ok i q (by omega) (le2 _ _ hμ)
    by_cases hd:i=id
    ·subst hd
     exact⟨a1,.dead,by rw[hold2 i hi',hget,if_pos rfl],trivial⟩
    ·refine⟨a1,obj,by rw[hold2 i hi',hget,if_neg hd,← hkeep i hi',a2], ?_⟩
     rw[hkeep i hi'] at a2
     obtain⟨_,obj0,b2,b3⟩:=R.ok i q hi' hμ
     rw[a2] at b2;cases b2
     exact b3.swap hag rfl a3
  ·intro i j pi pj hi hj hpi hpj hli hlj e
   by_cases ei:i=M.size
   ·by_cases ej:j=M.size
    ·rw[ei,ej]
    ·exfalso
     have hj':j<M.size:=by omega
     subst ei
     rw[Inj.upf_same] at hpi;cases hpi
     have:=S.on.ex M.size j q2 pj kkM (by omega) hq2 (le2 _ _ (old j pj hpj ej)) livekk (lv j hj' hlj) e
     omega
   ·have hi':i<M.size:=by omega
    by_cases ej:j=M.size
    ·exfalso
     subst ej
     rw[Inj.upf_same] at hpj;cases hpj
     have:=S.on.ex i M.size pi q2 (by omega) kkM (le2 _ _ (old i pi hpi ei)) hq2 (lv i hi' hli) livekk e
     omega
    ·have hj':j<M.size:=by omega
     exact S.on.ex i j pi pj (by omega) (by omega) (le2 _ _ (old i pi hpi ei)) (le2 _ _ (old j pj hpj ej)) (lv i hi' hli) (lv j hj' hlj) e
  ·exact S.on.fz
  ·intro b x i pi hb1 hi hpi hli
   have hb1:μ2.f b=some x:=hb1
   by_cases ei:i=M.size
   ·subst ei
    rw[Inj.upf_same] at hpi;cases hpi
    exact S.on.sep b x M.size q2 hb1 kkM hq2 livekk
   ·have hi':i<M.size:=by omega
    exact S.on.sep b x i pi hb1 (by omega) (le2 _ _ (old i pi hpi ei)) (lv i hi' hli)
  ·exact S.on.gl
end Go.Ax
