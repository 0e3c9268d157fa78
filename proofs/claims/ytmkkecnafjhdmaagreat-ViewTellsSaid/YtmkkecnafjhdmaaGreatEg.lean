/-
 The executor on abstract memory, part 7: what it is, and that what it finds is so of the program.
-/
import Derived.Test.YtmkkecnafjhdmaaGreatEf
set_option linter.unusedSimpArgs false
set_option linter.unusedVariables false
set_option maxRecDepth 100000
set_option linter.unusedSectionVars false
namespace Go.Ax
open Go
section
variable {P : Program} {fuel : Nat} {fs : Nat → Option AFunc} {M : Mem} {Q : AV → Mem → Prop}
variable {α : Type} {T : List AV → α → Prop} {st : Nat} {ag : Bool} {a o : AV} {l : List α}
def SlZ {α:Type}(M:Mem)(st:Nat)(T:List AV→α→Prop)(a:AV)(l:List α):Prop :=
 (a = .sc (.slice none 0 0)∧l=[]) ∨ ∃ (id:Nat) (rows:List (List AV)) (rest:List AV) (cap:Option Nat),a = .sl id 0 rows.length cap st∧M.get id=some (.row false (rows.flatten++rest))∧All2 T rows l∧(∀ r∈rows,r.length=st)∧(∀ y∈rest,∃ v,y = .sc v)
theorem SlZ.hand {N:Mem}(h:SlZ N st T a l)(wf:Wf N)(hT:FzT T){k:Nat}(hk:1<k):∃ a' N',icy k N a=some (a',N')∧Sl st T a' l∧Wf N'∧N'.size=N.size∧(∀ j,rowOf a≠some j→N'.get j=N.get j):=by
 obtain⟨k,rfl⟩:∃ j,k=j+1:=⟨k - 1,by omega⟩
 rcases h with⟨rfl,rfl⟩ | ⟨id,rows,rest,cap,rfl,hg,hA,hr,hp⟩
 ·exact⟨_,N,rfl,.inl ⟨rfl,rfl⟩,wf,rfl,fun _ _=>rfl⟩
 ·have hfl:=flat_len hr
  have lid:=Mem.get_lt hg
  have hcs:∀ N,icyL (icy k) N (rows.flatten++rest)=some (rows.flatten++rest,N):=icyL_same (by omega) fun x hx N=>by
   rcases List.mem_append.1 hx with hx | hx
   ·exact hT.celI.flat hA x hx N k (by omega)
   ·obtain⟨v,rfl⟩:=hp x hx
    exact icy_sc v (by omega)
  have hble:Nat.ble (0+rows.length*st) (rows.flatten++rest).length=true:=ble_t (by rw[List.length_append];omega)
  have hsl:slot (rows.flatten++rest) 0 (rows.length*st)=rows.flatten:=by
   exact zE0e
  refine⟨.pv rows.flatten rows.length cap st,N.upd id (.fro (rows.flatten++rest)), ?_,.inr ⟨rows,cap,rfl,hA,hr⟩,wf.upd _ _,rfl,fun j hj=>get_upd_ne wf _ _ _ (fun e=>hj (by rw[e];rfl))⟩
  simp only[icy,rd_row hg,hble,hcs,hg,put_upd wf lid,hsl]
theorem SlZ.one {N:Mem}(h:SlZ N st T a l):oneA a=true:=by rcases h with⟨rfl,_⟩ | ⟨_,_,_,_,rfl,_⟩ <;> rfl
theorem SlZ.cells {N:Mem}(h:SlZ N st T a l):cellsA a=[a]:=by rcases h with⟨rfl,_⟩ | ⟨_,_,_,_,rfl,_⟩ <;> rfl
theorem SlZ.lt {N:Mem}(h:SlZ N st T a l):∀ id,rowOf a=some id→id<N.size:=by
 rcases h with⟨rfl,_⟩ | ⟨i,_,_,_,rfl,hg,_⟩
 ·intro id h;cases h
 ·intro id h;cases h;exact Mem.get_lt hg
theorem SlZ.rl {N:Mem}(h:SlZ N st T a l){k:Nat}(hk:N.size≤k):((rowsOf a).all fun i=>Nat.blt i k)=true:=by
 rcases h with⟨rfl,_⟩ | ⟨i,_,_,_,rfl,hg,_⟩
 ·rfl
 ·have:=Mem.get_lt hg
  simp only[rowsOf,List.all_cons,List.all_nil,Bool.and_true]
  exact Nat.blt_eq ▸ (show i<k by omega)
theorem SlZ.keep {N N':Mem}(h:SlZ N st T a l)(k:∀ id,rowOf a=some id→N'.get id=N.get id):SlZ N' st T a l:=by
 rcases h with h | ⟨i,rows,rest,cap,rfl,hg,hh⟩
 ·exact .inl h
 ·exact .inr ⟨i,rows,rest,cap,rfl,(k i rfl).trans hg,hh⟩
theorem has_g10 {f f' ti tb tr ti' tr':Nat}(hf':fs f'=some ⟨9,hasC f ti' tr',[.tmp 4],1⟩)(hf:fs f=some ⟨19,indexC st ag ti tb tr,[.tmp 4],0⟩)(h1':ag=false→st=1)(hT:FzT T)(hS:Sl st T a l)(hl:l.length≤1000000000000000)(hfu:l.length<fuel)
  {n:Nat} {g:FuncId} {first cap:List AV} {p:α→Bool} (fz:Fz (.fn g first cap)) (hp:∀ r x,T r x→x∈l → ∀ M,callN P fs fuel n (.fn g) (first++[elA ag r]++cap) M=some (BL (p x),M)) (M:Mem) :
  callN P fs fuel (n+2) (.fn f') [a,.fn g first cap] M=some (BL (l.any p),M):=by
 have e:=posF_any p l
 have frw:=fz.rows
 simp only[ro_fn] at frw
 apply w3_eq
 refine call_gc hf' rfl (by simp only[icyL,hS.icy M 12 (by omega),fz.icy M 12 (by omega)]) (by simp) fun b' ht hx=>?_
 have h0:=hx 0 _ rfl
 have h1:=hx 1 _ rfl
 clear hx
 simp only[hasC] at ht ⊢
 simp (disch:=try exact SX) only[RV,seval,fillA,h0,h1,hS.fz.rows,hS.fz.one,hS.fz.cells,hS.fz.icy,hS.fz.frz,frw]
 refine index_0 hf h1' hT hS hl hfu Wf.mem0 (fun N _=>by rw[fz.rows];rfl) (fun r x hr hx N Q' _ kq=>⟨_,_,hp r x hr hx N,kq N ‹_›⟩) fun N hk=>?_
 simp (disch:=try exact SX) only[RV,seval,fillA,h0,h1,e]
end
variable {P : Program} {fuel : Nat} {fs : Nat → Option AFunc} {M N M2 : Mem}
def Mem.app (M M2:Mem):Mem:=⟨M.t++(objsOf M2).map (shO M.size),M.size+M2.size,M.wm,M.dirty⟩
def Own (P:Program)(fs:Nat→Option AFunc)(fuel n:Nat)(f:FuncId)(args:List AV)(R:AV→Mem→Prop):Prop :=
 ∃ r M2,R r M2 ∧ ∀ M args0 M0,icyL (icy 12) M args0=some (args,M0)→Wf M0→callN P fs fuel (n+1) (.fn f) args0 M=some (shA M0.size r,M0.app M2)
theorem Own.mono {n:Nat}{f:FuncId}{args:List AV}{R R':AV→Mem→Prop}(h:Own P fs fuel n f args R)(k:∀ r M,R r M→R' r M):Own P fs fuel n f args R':=by
 obtain⟨r,M2,hR,hc⟩:=h
 exact⟨r,M2,k _ _ hR,hc⟩
theorem icy_sh {k:Nat}:∀ (n:Nat) (a:AV) (M M':Mem),icy n M a=some (a,M')→shA k a=a:=by
 intro n
 induction n with
 | zero=>intro a M M' h;simp [icy] at h
 | succ n ih =>
  have hl:∀ (l r:List AV) (M M':Mem),icyL (icy n) M l=some (r,M')→r=l→shL k l=l:=by
   intro l
   induction l with
   | nil=>intros;simp [shL]
   | cons x l ihl =>
    intro r M M' h e
    simp only[icyL] at h
    split at h
    ·rename_i y M1 h1
     split at h
     ·rename_i r' M2 h2
      simp only[Option.some.injEq,Prod.mk.injEq] at h
      obtain⟨rfl,rfl⟩:=h
      simp only[List.cons.injEq] at e
      obtain⟨rfl,e⟩:=e
      simp only[shL,ih _ _ _ h1,ihl _ _ _ h2 e]
     ·cases h
    ·cases h
  intro a M M' h
  cases a with
  | sc v=>simp [shA]
  | pv=>simp [shA]
  | cp=>simp [shA]
  | agg l =>
   simp only[icy] at h
   split at h
   ·rename_i r M1 h1
    simp only[Option.some.injEq,Prod.mk.injEq,AV.agg.injEq] at h
    simp only[shA,hl _ _ _ _ h1 h.1]
   ·cases h
  | tup l =>
   simp only[icy] at h
   split at h
   ·rename_i r M1 h1
    simp only[Option.some.injEq,Prod.mk.injEq,AV.tup.injEq] at h
    simp only[shA,hl _ _ _ _ h1 h.1]
   ·cases h
  | fn f a b =>
   simp only[icy] at h
   split at h
   ·rename_i r M1 h1
    split at h
    ·rename_i r' M2 h2
     simp only[Option.some.injEq,Prod.mk.injEq,AV.fn.injEq] at h
     simp only[shA,hl _ _ _ _ h1 h.1.2.1,hl _ _ _ _ h2 h.1.2.2]
    ·cases h
   ·cases h
  | sl id off len cap st =>
   exfalso
   simp only[icy] at h
   split at h
   ·split at h
    ·split at h
     ·split at h
      ·simp at h
      ·split at h
       ·simp at h
       ·cases h
      ·cases h
     ·cases h
    ·cases h
   ·cases h
  | _=>simp [icy] at h
theorem Fz.sh {a:AV}(h:Fz a)(k:Nat):shA k a=a:=icy_sh 1 a mem0 mem0 (h.icy mem0 1 (by omega))
theorem fz_shL {r:List AV}(h:∀ y∈r,Fz y)(k:Nat):shL k r=r:=by
 induction r with
 | nil=>simp [shL]
 | cons x r ih=>simp only[shL,(h x (by simp)).sh k,ih fun y hy=>h y (by simp [hy])]
theorem shL_app (k:Nat):∀ a b:List AV,shL k (a++b)=shL k a++shL k b
 | [],b=>by simp [shL]
 | x::a,b=>by simp [shL,shL_app k a b]
theorem shL_flat (k:Nat):∀ rows:List (List AV),shL k rows.flatten=(rows.map (shL k)).flatten
 | []=>by simp [shL]
 | r::rows=>by simp [shL_app,shL_flat k rows]
theorem sh_nil (k:Nat):shA k NIL=NIL:=by simp [shA]
theorem sh_rowOf (k:Nat)(a:AV):rowOf (shA k a)=(rowOf a).map (· + k):=by cases a <;> simp [shA,rowOf]
theorem sh_one (k:Nat)(a:AV):oneA (shA k a)=oneA a:=by
 cases a <;> simp only[shA,oneA]
theorem sh_cells {k:Nat}{a:AV}(h:cellsA a=[a])(h1:oneA a=true):cellsA (shA k a)=[shA k a]:=by
 cases a with
 | sc v=>simp only[shA];exact h
 | agg l=>simp [oneA] at h1
 | _=>simp [shA,cellsA]
def Sh (k:Nat)(M2 N:Mem):Prop:=∀ i o,M2.get i=some o→N.get (i+k)=some (shO k o)
theorem All2.map2 {α β α' β':Type}{R:α→β→Prop}{R':α'→β'→Prop}{g:α→α'}{f:β→β'}(h:∀ a b,R a b→R' (g a) (f b)):∀ {l:List α} {m:List β},All2 R l m→All2 R' (l.map g) (m.map f)
 | _,_,.nil => .nil
 | _,_,.cons a t => .cons (h _ _ a) (All2.map2 h t)
theorem SlM.shG {α β:Type}{st k:Nat}{T:List AV→α→Prop}{T':List AV→β→Prop}{g:α→β}{a:AV}{l:List α}(h:SlM M2 st T a l)(hT:∀ r x,T r x→T' (shL k r) (g x))(hs:Sh k M2 N):SlM N st T' (shA k a) (l.map g):=by
 rcases h with⟨rfl,rfl⟩ | ⟨id,rows,cap,rfl,hc,hg,hA,hr⟩
 ·exact .inl ⟨sh_nil k,rfl⟩
 ·refine .inr ⟨id+k,rows.map (shL k),cap,by simp [shA],by simpa using hc, ?_,hA.map2 hT,fun r hr'=>?_⟩
  ·rw[hs _ _ hg,shO,shL_flat]
  ·obtain⟨q,hq,rfl⟩:=List.mem_map.1 hr'
   rw[shL_len]
   exact hr q hq
theorem SlM.sh {α:Type}{st k:Nat}{T:List AV→α→Prop}{a:AV}{l:List α}(h:SlM M2 st T a l)(hT:FzT T)(hs:Sh k M2 N):SlM N st T (shA k a) l:=by
 have:=h.shG (g:=id) (T':=T) (fun r x hx=>by rw[fz_shL (hT r x hx)];exact hx) hs
 rwa [List.map_id] at this
namespace NK
variable {α β : Type} {K : NK α β}
theorem ND.sh {o:AV}{l:List α}{k:Nat}(h:K.ND M2 0 o l)(hs:Sh k M2 N):K.ND N k (shA k o) l:=by
 obtain⟨lr,rfl,h2,h3,h4,h5,h6⟩:=h
 have hr:∀ (a:AV) j,rowOf (shA k a)=some j → ∃ i,rowOf a=some i∧j=i+k:=fun a j hj=>by
  rw[sh_rowOf] at hj
  cases ha:rowOf a with
  | none=>rw[ha] at hj;cases hj
  | some i=>rw[ha] at hj;cases hj;exact⟨i,rfl,rfl⟩
 refine⟨lr.map fun x=>(x.1,shA k x.2),by simp,h2.shG (fun r x hx=>?_) hs,fun x hx=>?_,fun j hj=>?_,fun x hx j hj=>?_, ?_⟩
 ·obtain⟨rfl,h1,hc⟩:=hx
  refine⟨?_,by rw[sh_one];exact h1,sh_cells hc h1⟩
  rw[shL_app,fz_shL (K.hz x.1)]
  simp [shL]
 ·obtain⟨y,hy,rfl⟩:=List.mem_map.1 hx
  obtain⟨q1,q2,q3⟩:=h3 y hy
  exact⟨q1.sh K.ft hs,fun j hj=>by obtain⟨i,_,rfl⟩:=hr _ _ hj;omega,q3⟩
 ·obtain⟨i,_,rfl⟩:=hr _ _ hj;omega
 ·obtain⟨y,hy,rfl⟩:=List.mem_map.1 hx
  obtain⟨i,hi,rfl⟩:=hr _ _ hj
  intro e
  obtain⟨i',hi',e'⟩:=hr _ _ e
  obtain rfl:i'=i:=by omega
  exact h5 y hy i' hi hi'
 ·rw[List.pairwise_map]
  refine h6.imp fun {a b} hab j hj e=>?_
  obtain⟨i,hi,rfl⟩:=hr _ _ hj
  obtain⟨i',hi',e'⟩:=hr _ _ e
  obtain rfl:i'=i:=by omega
  exact hab i' hi hi'
theorem ND.put {B:Nat}{o:AV}{l:List α}(h:K.ND M B o l){i:Nat}(hi:i<l.length):∃ id cs ra,rowOf o=some id∧B≤id∧id<M.size∧M.get id=some (.row false cs)∧(∀ N,iadO N K.st o (some i)=some (.ptr id (i*K.st),N))∧slot cs (i*K.st) K.st=K.H l[i]++[ra]∧(i+1)*K.st≤cs.length∧K.InN M B (l[i],ra)∧rowOf ra≠some id ∧
  ∀ (N:Mem) (y:α) (rb:AV),M.size≤N.size→K.InN N M.size (y,rb)→oneA rb=true→cellsA rb=[rb]→(∀ j,B≤j→j<M.size→rowOf ra≠some j→j≠id→N.get j=M.get j)→N.get id=some (.row false (lay cs (i*K.st) (K.H y++[rb])))→B≤M.size→K.ND N B o (l.set i y):=by
 obtain⟨lr,rfl,h2,h3,h4,h5,h6⟩:=h
 have hi':i<lr.length:=by simpa using hi
 rcases h2 with⟨rfl,rfl⟩ | ⟨id,rows,cap,rfl,hc,hg,hA,hr⟩
 ·exact absurd hi' (by simp)
 ·have hlen:=hA.length_eq
  have hfl:=flat_len hr
  have hri:i<rows.length:=by omega
  have hn:=hA.get hri hi'
  have hrl:=hr rows[i] (List.getElem_mem hri)
  have hmem:=List.getElem_mem hi'
  have hle:(i+1)*K.st≤rows.flatten.length:=by rw[hfl];exact Nat.mul_le_mul_right _ (by omega)
  refine⟨id,rows.flatten,lr[i].2,rfl,h4 id rfl,Mem.get_lt hg,hg,fun N=>by rw[iad_sl (by omega)];simp, ?_,hle, ?_,h5 _ hmem id rfl, ?_⟩
  ·exact zE0q
  ·simpa using h3 _ hmem
  ·intro N y rb hsz hin ho hcl hk hgn hB
   have hlH:(K.H y++[rb]).length=K.st:=by rw[List.length_append,List.length_singleton];exact K.hl y
   have hlay:lay rows.flatten (i*K.st) (K.H y++[rb])=(rows.set i (K.H y++[rb])).flatten:=by
    rw[lay,List.set_eq_take_append_cons_drop,if_pos hri,List.flatten_append,List.flatten_cons,hlH]
    have e1:rows.flatten.take (i*K.st)=(rows.take i).flatten:=by
     have:=flat_take2 (st:=K.st) i hr
     simpa using this
    have e2:rows.flatten.drop (i*K.st+K.st)=(rows.drop (i+1)).flatten:=by
     rw[show i*K.st+K.st=(i+1)*K.st by rw[Nat.succ_mul]]
     exact flat_drop (i+1) hr
    rw[e1,e2,List.append_assoc]
   have hother:∀ j (hj:j<lr.length),j≠i→K.InN N B lr[j]:=fun j hj e=>by
    have hmj:=List.getElem_mem hj
    refine(h3 _ hmj).keep fun q hq=>hk q ((h3 _ hmj).2.1 q hq) ((h3 _ hmj).lt q hq) (fun hrow=>?_) (fun e=>h5 _ hmj id rfl (by rw[hq,e]))
    rcases Nat.lt_or_gt_of_ne e with e' | e'
    ·exact List.pairwise_iff_getElem.1 h6 j i hj hi' e' q hq hrow
    ·exact List.pairwise_iff_getElem.1 h6 i j hi' hj e' q hrow hq
   refine⟨lr.set i (y,rb),by rw[List.map_set],.inr ⟨id,rows.set i (K.H y++[rb]),cap,by simp,by simpa using hc,by rw[← hlay];exact hgn,hA.set2 i ⟨rfl,ho,hcl⟩,fun r hr'=>?_⟩,fun x hx=>?_,h4,fun x hx=>?_, ?_⟩
   ·rcases List.mem_or_eq_of_mem_set hr' with h | rfl
    ·exact hr r h
    ·exact hlH
   ·obtain⟨j,hj,rfl⟩:=List.getElem_of_mem hx
    rw[List.length_set] at hj
    by_cases e:i=j
    ·subst e
     rw[List.getElem_set_self]
     exact hin.mono hB
    ·rw[List.getElem_set_ne e]
     exact hother j hj (fun h=>e h.symm)
   ·rcases List.mem_or_eq_of_mem_set hx with hx' | rfl
    ·exact h5 x hx'
    ·exact fun j hj e=>by cases hj;have:=hin.2.1 id e;have:=Mem.get_lt hg;omega
   ·rw[List.pairwise_iff_getElem]
    intro p q hp hq hpq
    rw[List.length_set] at hp hq
    intro j hj e
    by_cases e1:i=p
    ·subst e1
     rw[List.getElem_set_self] at hj
     rw[List.getElem_set_ne (by omega)] at e
     have a:=hin.2.1 j hj
     have b:=(h3 _ (List.getElem_mem hq)).lt j e
     omega
    ·rw[List.getElem_set_ne e1] at hj
     by_cases e2:i=q
     ·subst e2
      rw[List.getElem_set_self] at e
      have a:=hin.2.1 j e
      have b:=(h3 _ (List.getElem_mem hp)).lt j hj
      omega
     ·rw[List.getElem_set_ne e2] at e
      exact List.pairwise_iff_getElem.1 h6 p q hp hq hpq j hj e
end NK
end Go.Ax
