/-
 The executor on abstract memory, part 5: what it is, and that what it finds is so of the program.
-/
import Derived.Test.YtmkkecnafjhdmaaGreatEd
import Derived.ProofKit
import Derived.OpenShut
import Derived.ShutString
import Derived.ChangeOld
import Derived.ChangeMaps5
import Derived.Laws.StructEq
set_option linter.unusedSimpArgs false
set_option linter.unusedVariables false
namespace Go.Ax
open Go Go.RowKit Go.ChangeShapes Go.WideShapes Go.ChangeAt
open Go.ChangeMaps (open_string)
theorem all2_of {α:Type}{T:List AV→α→Prop}:∀ {rows:List (List AV)},(∀ r∈rows,∃ x,T r x) → ∃ xs,All2 T rows xs
 | [],_=>⟨[],.nil⟩
 | r::rows,h=>by
  obtain⟨x,hx⟩:=h r (by simp)
  obtain⟨xs,hxs⟩:=all2_of (rows:=rows) fun r hr=>h r (by simp [hr])
  exact⟨x::xs,.cons hx hxs⟩
theorem Is.slice {α:Type}{g:GT}{T:List AV→α→Prop}(hT:∀ r,Is g r → ∃ x,T r x){l:List AV}(h:Is (.sl g) l):∃ a xs,l=[a]∧Sl g.n T a xs:=by
 simp only[Is] at h
 rcases h with rfl | ⟨rows,cap,rfl,_,_,hr⟩
 ·exact⟨_,[],rfl,.inl ⟨rfl,rfl⟩⟩
 ·obtain⟨xs,hxs⟩:=all2_of fun r hr'=>hT r (hr r hr')
  exact⟨_,xs,rfl,.inr ⟨rows,some cap,rfl,hxs,fun r hr'=>Is.len g (hr r hr')⟩⟩
theorem Is.u8 {r:List AV}(h:Is (.int .u8) r):∃ b,isU8 r b:=by
 simp only[Is] at h
 obtain⟨n,rfl,hw⟩:=h
 have hb:0≤n∧n≤255:=by
  simp [Lit.wf,IntKind.min,IntKind.max,IntKind.signed,IntKind.bits] at hw
  omega
 refine⟨UInt8.ofNat n.toNat, ?_⟩
 show [AV.sc (.int .u8 n)]=[U8 _]
 simp only[UInt8.toNat_ofNat']
 congr 3
 rw[Nat.mod_eq_of_lt (by omega)];omega
theorem Is.i64 {r:List AV}(h:Is (.int .i64) r):∃ n,r=[I64 n] ∧ -9223372036854775808≤n∧n≤9223372036854775807:=by
 simp only[Is] at h
 obtain⟨n,rfl,hw⟩:=h
 refine⟨n,rfl, ?_⟩
 simp [Lit.wf,IntKind.min,IntKind.max,IntKind.signed,IntKind.bits] at hw
 omega
theorem Is.bytes {r:List AV}(h:Is (.sl (.int .u8)) r):∃ a b,r=[a]∧Bs a b:=Is.slice (fun _=>Is.u8) h
section
variable {H : Type} {enc : TypeId × Value → H} {P : Program} {w : World}
def IsA (g:GT)(a:AV):Prop:=match g with
 | .ag gs => ∃ as,a = .agg as∧IsL gs as
 | g=>Is g [a]
def WsA (g:GT)(a:AV):Prop:=match g with
 | .ag gs => ∀ as,a = .agg as→WsL gs as
 | g=>Ws g [a]
theorem open_arg (g:GT){r:Reach}{base:Nat}{t:TypeId}{v:Value}{d:DataW H}{p:List MemPlace}(hf:fits P g t=true)(hok:Value.okWide P w r base t v)(h:DataW.Trod enc P w 0 (fun _=>true) true t v d p):∃ a,FRel (fun b=>w.heap[b]?) a v∧IsA g a∧((d.weights P t).all (· ≤ reachBytes)=true→WsA g a):=by
 have h':=h
 obtain⟨fuel,hd⟩:=h
 obtain⟨as,h1,h2,hww⟩:=open_gt g t fuel _ _ hf hd
 cases g with
 | int k =>
  simp only[fits] at hf
  split at hf
  ·rename_i j hu
   have:=of_decide_eq_true hf;subst this
   obtain⟨n,rfl,_⟩:=open_int hu hok h'
   cases h1 with | cons a b=>cases b;exact⟨_,a,h2,hww⟩
  ·cases hf
 | bool =>
  simp only[fits] at hf
  split at hf
  ·rename_i hu
   obtain⟨n,rfl,_⟩:=open_bool hu hok h'
   cases h1 with | cons a b=>cases b;exact⟨_,a,h2,hww⟩
  ·cases hf
 | str =>
  simp only[fits] at hf
  split at hf
  ·rename_i hu
   obtain⟨n,rfl,_⟩:=open_string hu hok h'
   cases h1 with | cons a b=>cases b;exact⟨_,a,h2,hww⟩
  ·cases hf
 | sl g =>
  simp only[fits] at hf
  split at hf
  ·rename_i e hu
   obtain⟨x,len,cap,rfl⟩:=okWide_slice hu hok
   cases h1 with | cons a b=>cases b;exact⟨_,a,h2,hww⟩
  ·cases hf
 | ag gs =>
  have hcs:∃ cs,v = .agg cs:=by
   simp only[fits] at hf
   unfold Value.okWide at hok
   split at hf
   ·rename_i fs hu
    rw[hu] at hok
    obtain⟨cs,h,_⟩:=hok
    exact⟨cs,h⟩
   ·rename_i n e hu
    rw[hu] at hok
    obtain⟨cs,h,_⟩:=hok
    exact⟨cs,h⟩
   ·cases hf
  obtain⟨cs,rfl⟩:=hcs
  exact⟨.agg as,.agg h1,⟨as,rfl,by simpa [Is] using h2⟩,fun hw as' e=>by
   cases e
   simpa [Ws] using hww hw⟩
end
theorem icyL_same {k:Nat}(hk:0<k):∀ {l:List AV},(∀ x∈l,∀ M,icy k M x=some (x,M)) → ∀ M,icyL (icy k) M l=some (l,M)
 | [],_,_=>rfl
 | x::l,h,M=>by
  have h1:=h x (by simp) M
  have h2:=icyL_same hk (l:=l) (fun y hy=>h y (List.mem_cons_of_mem _ hy)) M
  simp only[icyL,h1,h2]
def CelI {α:Type}(T:List AV→α→Prop):Prop:=∀ r x,T r x → ∀ y∈r,∀ M k,0<k→icy k M y=some (y,M)
theorem CelI.flat {α:Type}{T:List AV→α→Prop}(h:CelI T):∀ {rows:List (List AV)} {l:List α},All2 T rows l → ∀ y∈rows.flatten,∀ M k,0<k→icy k M y=some (y,M)
 | _,_,.nil=>fun y hy=>by simp at hy
 | _,_,.cons a b=>fun y hy=>by
  rw[List.flatten_cons,List.mem_append] at hy
  rcases hy with hy | hy
  ·exact h _ _ a y hy
  ·exact h.flat b y hy
theorem SlM.hand {α:Type}{M:Mem}{st:Nat}{T:List AV→α→Prop}{a:AV}{l:List α}(h:SlM M st T a l)(wf:Wf M)(hT:CelI T){k:Nat}(hk:1<k):∃ a' M',icy k M a=some (a',M')∧Sl st T a' l∧Wf M'∧M'.size=M.size∧(∀ j,rowOf a≠some j→M'.get j=M.get j) ∧
  (∀ N,(∀ j,rowOf a=some j→N.get j=M'.get j)→icy k N a=some (a',N)):=by
 obtain⟨k,rfl⟩:∃ j,k=j+1:=⟨k - 1,by omega⟩
 rcases h with⟨rfl,rfl⟩ | ⟨id,rows,cap,rfl,hc,hg,hA,hr⟩
 ·exact⟨_,M,rfl,.inl ⟨rfl,rfl⟩,wf,rfl,fun _ _=>rfl,fun N _=>rfl⟩
 ·have hfl:=flat_len hr
  have lid:=Mem.get_lt hg
  have hcs:∀ N,icyL (icy k) N rows.flatten=some (rows.flatten,N):=icyL_same (by omega) fun x hx N=>hT.flat hA x hx N k (by omega)
  have hble:Nat.ble (0+rows.length*st) rows.flatten.length=true:=ble_t (by omega)
  have hsl:slot rows.flatten 0 (rows.length*st)=rows.flatten:=slot_all _ _ hfl.symm
  refine⟨.pv rows.flatten rows.length cap st,M.upd id (.fro rows.flatten), ?_,.inr ⟨rows,cap,rfl,hA,hr⟩,wf.upd _ _,rfl,fun j hj=>get_upd_ne wf _ _ _ (fun e=>hj (by rw[e];rfl)),fun N hN=>?_⟩
  ·simp only[icy,rd_row hg,hble,hcs,hg,put_upd wf lid,hsl]
  ·have hN:=hN id rfl
   rw[get_upd_eq wf _ _ lid] at hN
   have hrd:N.rd id=some rows.flatten:=by rw[rd_get,hN];rfl
   simp only[icy,hrd,hble,hcs,hN,hsl]
set_option maxRecDepth 100000
def RU':=PLift.up (azZ @decide_true (azZ @decide_false (azZ @Int.lt_irrefl (azZ @Nat.beq_eq (azZ @Option.map_some.{0,0} (azZ @Option.map_none.{0,0} (azZ @List.contains_cons.{0} (azZ @List.contains_nil.{0} (azZ @Bool.or_true (azZ @Bool.true_or (azZ @Bool.or_false (azZ @Bool.false_or (azZ @Bool.not_true (azZ @Bool.not_false (azZ @Bool.and_self (azZ @List.elem_nil.{0} (azZ @List.all_nil.{0} (azZ @List.all_cons.{0} (azZ @Bool.and_true (azZ @Bool.true_and (azZ @true_and (azZ @and_true (azZ @List.map_cons.{0,0} (azZ @List.map_nil.{0,0} (azZ @List.nil_append.{0} (azZ @List.cons_append.{0} (azZ @List.append_nil.{0} (azZ @Nat.zero_add (azZ @Nat.add_zero (azZ @List.drop_succ_cons.{0} (azZ @List.drop_zero.{0} (azZ @List.take_succ_cons.{0} (azZ @List.take_zero.{0} (azZ @List.getElem?_cons_zero.{0} (azZ @List.getElem?_cons_succ.{0} (azZ @List.length_cons.{0} (@List.length_nil.{0})))))))))))))))))))))))))))))))))))))
theorem RU:type_of% RU'.down:=RU'.down
def DS':=PLift.up (azZ @add_size (azZ @upd_size (azZ @mem0_size (azZ @List.length_cons.{0} (azZ @List.length_nil.{0} (azZ @wf_add (azZ @wf_upd (azZ @wf_mem0 (azZ @lo_wf (azZ @bk_wf (azZ @lo_size (azZ @bk_size (azZ @List.all_cons.{0} (azZ @List.all_nil.{0} (azZ @one_sc_int (azZ @one_sc_bool (azZ @one_sc_string (azZ @one_sc_slice (azZ @one_sc_ptr (azZ @one_ptr (azZ @one_sl (azZ @one_pv (azZ @one_cp (azZ @one_fn (@Bool.and_true)))))))))))))))))))))))))
theorem DS:type_of% DS'.down:=DS'.down
theorem DZ:type_of% (azZ @add_size (azZ @upd_size (azZ @mem0_size (azZ @lo_size (azZ @bk_size (azZ @List.length_cons.{0} (@List.length_nil.{0}))))))):=azZ @add_size (azZ @upd_size (azZ @mem0_size (azZ @lo_size (azZ @bk_size (azZ @List.length_cons.{0} (@List.length_nil.{0}))))))
theorem FA:(∀ t x0,footA t (.mov x0) = .acc [] []) ∧
 (∀ t x0 x1 x2,footA t (.pick x0 x1 x2) = .acc [] []) ∧
 (∀ t x0 x1,footA t (.alloc x0 x1) = .acc [] []) ∧
 (∀ t x0 x1,footA t (.box x0 x1) = .acc [] []) ∧
 (∀ t x0 x1,footA t (.build x0 x1) = .acc [] []) ∧
 (∀ t x0 x1 x2 x3 x4,footA t (.bsl x0 x1 x2 x3 x4) = .acc [] []) ∧
 (∀ t x0,footA t (.nilck x0) = .acc [] []) ∧
 (∀ t x0,footA t (.pur x0) = .acc [] []) ∧
 (∀ t x0 x1 x2 x3,footA t (.eqnil x0 x1 x2 x3) = .acc [] []) ∧
 (∀ t x0 x1,footA t (.fad x0 x1) = .acc [] []) ∧
 (∀ t x0 x1 x2 x3,footA t (.fld x0 x1 x2 x3) = .acc [] []) ∧
 (∀ t x0 x1 x2,footA t (.iad x0 x1 x2) = .acc [] []) ∧
 (∀ t x0 x1 x2 x3,footA t (.ida x0 x1 x2 x3) = .acc [] []) ∧
 (∀ t x0 x1 x2 x3 x4,footA t (.idx x0 x1 x2 x3 x4) = .acc [] []) ∧
 (∀ t x0 x1 x2,footA t (.mkfn x0 x1 x2) = .acc [] []) ∧
 (∀ t,footA t (.mkmap) = .acc [] []) ∧
 (∀ t x0 x1 x2 x3 x4 x5,footA t (.mksl x0 x1 x2 x3 x4 x5) = .acc [] []) ∧
 (∀ t x0 x1,footA t (.ext x0 x1) = .acc [] []) ∧
 (∀ t x0,footA t (.len x0) = .acc [] []) ∧
 (∀ t x0,footA t (.cap x0) = .acc [] []) ∧
 (∀ t x0 x1,footA t (.s2b x0 x1) = .acc [] []) ∧
 (∀ t x0,footA t (.rng x0) = .acc [] []) ∧
 (∀ t x0 x1 x2,footA t (.load x0 x1 x2) = .acc (rowsOf (evalA t x2)) []) ∧
 (∀ t x0 x1 x2 x3 x4,footA t (.lookup x0 x1 x2 x3 x4) = .acc (rowsOf (evalA t x2)) []) ∧
 (∀ t x0,footA t (.mlen x0) = .acc (rowsOf (evalA t x0)) []) ∧
 (∀ t x0,footA t (.b2s x0) = .acc (rowsOf (evalA t x0)) []) ∧
 (∀ t x0 x1 x2 x3 x4,footA t (.slc x0 x1 x2 x3 x4) = .acc (rowsOf (evalA t x1)) []) ∧
 (∀ t x0 x1 x2 x3 x4 x5,footA t (.sla x0 x1 x2 x3 x4 x5) = .acc (rowsOf (evalA t x2)) []) ∧
 (∀ t x0 x1 x2,footA t (.store x0 x1 x2) = .acc [] (rowsOf (evalA t x1))) ∧
 (∀ t x0 x1 x2,footA t (.clr x0 x1 x2) = .acc [] (rowsOf (evalA t x2))) ∧
 (∀ t x0,footA t (.mrk x0) = .acc [] (rowsOf (evalA t x0))) ∧
 (∀ t x0,footA t (.nxt x0) = .acc [] (rowsOf (evalA t x0))) ∧
 (∀ t x0 x1 x2 x3,footA t (.mupd x0 x1 x2 x3) = .acc [] (rowsOf (evalA t x1))) ∧
 (∀ t x0 x1 x2 x3 x4 x5,footA t (.appz x0 x1 x2 x3 x4 x5) = .acc [] (rowsOf (evalA t x4))) ∧
 (∀ t x0 x1 x2 x3 x4 x5,footA t (.app x0 x1 x2 x3 x4 x5) = .acc (rowsOf (evalA t x5)) (rowsOf (evalA t x4))) ∧
 (∀ t x0 x1 x2,footA t (.cpy x0 x1 x2) = .acc (rowsOf (evalA t x2)) (rowsOf (evalA t x1))) ∧
 (∀ t x0 x1,footA t (.call x0 x1) = .any) ∧
 (∀ t x0 x1 x2 x3 x4 x5 x6,footA t (.ins x0 x1 x2 x3 x4 x5 x6) = .any) ∧
 (∀ t x0 x1 x2,footA t (.ovl x0 x1 x2) = .any) ∧
 (∀ n r w,feetIn n (.acc r w)=((r.all fun i=>Nat.blt i n)&&w.all fun i=>Nat.blt i n)) ∧
 (∀ n,feetIn n .any=true) ∧
 (∀ x:AV,tupOf [x]=x) ∧
 (tupOf [] = .tup []) ∧
 (∀ (x y:AV) l,tupOf (x::y::l) = .tup (x::y::l)):=by
 refine⟨?_, ?_, ?_, ?_, ?_, ?_, ?_, ?_, ?_, ?_, ?_, ?_, ?_, ?_, ?_, ?_, ?_, ?_, ?_, ?_, ?_, ?_, ?_, ?_, ?_, ?_, ?_, ?_, ?_, ?_, ?_, ?_, ?_, ?_, ?_, ?_, ?_, ?_, ?_, ?_, ?_, ?_, ?_, ?_⟩ <;> intros <;> rfl
theorem RV:type_of% (azZ @RUN (azZ @RU (azZ @FA (azZ @resultsA.eq_1 (azZ @resultsA.eq_2 (azZ @resultsA.eq_3 (azZ @frzL.eq_1 (azZ @frzL.eq_2 (azZ @slot.eq_1 (azZ @lay.eq_1 (azZ @kR.eq_1 (azZ @icyL.eq_1 (azZ @icyL.eq_2 (azZ @repCells.eq_1 (@repCells.eq_2))))))))))))))):=azZ @RUN (azZ @RU (azZ @FA (azZ @resultsA.eq_1 (azZ @resultsA.eq_2 (azZ @resultsA.eq_3 (azZ @frzL.eq_1 (azZ @frzL.eq_2 (azZ @slot.eq_1 (azZ @lay.eq_1 (azZ @kR.eq_1 (azZ @icyL.eq_1 (azZ @icyL.eq_2 (azZ @repCells.eq_1 (@repCells.eq_2))))))))))))))
theorem SX {p:Prop}(h:p:=by first | omega | assumption | (simp only[DS,Nat.reduceAdd, *];done) | (simp only[DZ];omega)):p:=h
theorem DT {p:Prop}[Decidable p](h:p:=by omega):decide p=true:=decide_eq_true h
theorem DF {p:Prop}[Decidable p](h:¬p:=by omega):decide p=false:=decide_eq_false h
theorem WI {a b:Int}(h : -9223372036854775808≤a∧a≤9223372036854775807∧a=b:=by omega):IntKind.i64.wrap a=b:=by rw[wrap_i64 h.1 h.2.1];exact h.2.2
theorem hx2 {b:List AV}{x y:AV}{l:List AV}(h:∀ (i:Nat) (q:AV),(x::y::l)[i]? = some q→nth undefA b i=q):nth undefA b 0=x∧nth undefA b 1=y:=⟨h 0 _ rfl,h 1 _ rfl⟩
theorem hx3 {b:List AV}{x y z:AV}{l:List AV}(h:∀ (i:Nat) (q:AV),(x::y::z::l)[i]? = some q→nth undefA b i=q):nth undefA b 0=x∧nth undefA b 1=y∧nth undefA b 2=z:=⟨h 0 _ rfl,h 1 _ rfl,h 2 _ rfl⟩
variable {Γ : Glob}
theorem all2_take {α:Type}{T:List AV→α→Prop}:∀ {rows:List (List AV)} {l:List α} (n:Nat),All2 T rows l→All2 T (rows.take n) (l.take n)
 | _,_,0,_=>by simp;exact .nil
 | _,_,n+1,.nil=>by simp;exact .nil
 | _,_,n+1,.cons a b => .cons a (all2_take n b)
theorem flat_drop {st:Nat}:∀ {rows:List (List AV)} (i:Nat),(∀ r∈rows,r.length=st)→rows.flatten.drop (i*st)=(rows.drop i).flatten
 | _,0,_=>by simp
 | [],i+1,_=>by simp
 | r::rows,i+1,h=>by
  have hr:=h r List.mem_cons_self
  rw[List.flatten_cons,List.drop_succ_cons,Nat.succ_mul,Nat.add_comm,← List.drop_drop,List.drop_left' hr]
  exact flat_drop i fun q hq=>h q (List.mem_cons_of_mem _ hq)
theorem flat_take2 {st:Nat}:∀ {rows:List (List AV)} (i:Nat),(∀ r∈rows,r.length=st)→rows.flatten.take (i*st)=(rows.take i).flatten
 | _,0,_=>by simp
 | [],i+1,_=>by simp
 | r::rows,i+1,h=>by
  have hr:=h r List.mem_cons_self
  rw[List.flatten_cons,List.take_succ_cons,List.flatten_cons,Nat.succ_mul,Nat.add_comm,← hr,List.take_length_add_append,hr,flat_take2 i fun q hq=>h q (List.mem_cons_of_mem _ hq)]
theorem all2_drop {α:Type}{T:List AV→α→Prop}:∀ {rows:List (List AV)} {l:List α} (n:Nat),All2 T rows l→All2 T (rows.drop n) (l.drop n)
 | _,_,0,h=>h
 | _,_,n+1,.nil=>by simp;exact .nil
 | _,_,n+1,.cons a b=>all2_drop n b
theorem sl_to {α:Type}{T:List AV→α→Prop}{st:Nat}{a:AV}{l:List α}(h:Sl st T a l){j:Nat}(hj:j≤l.length):∃ a',(∀ M,slcO M st a none (some (I64 j)) none=some (a',M))∧Sl st T a' (l.take j):=by
 rcases h with⟨rfl,rfl⟩ | ⟨rows,cap,rfl,hA,hr⟩
 ·obtain rfl:j=0:=by simpa using hj
  exact⟨NIL,fun M=>rfl,.inl ⟨rfl,rfl⟩⟩
 ·have hl:=hA.length_eq
  refine⟨.pv (rows.take j).flatten j (capSub cap 0) st,fun M=>?_,.inr ⟨rows.take j,capSub cap 0,by rw[List.length_take,Nat.min_eq_left (by omega)],all2_take j hA,fun r hq=>hr r (List.mem_of_mem_take hq)⟩⟩
  have hs:slot rows.flatten 0 (j*st)=(rows.take j).flatten:=by rw[slot,List.drop_zero,flat_take2 j hr]
  unfold slcO
  simp only[Nat.beq_refl,bnd_int _ _ _ _ (show j≤rows.length by omega),bnd_none,Nat.zero_mul,Nat.sub_zero,hs]
theorem sl_from {α:Type}{T:List AV→α→Prop}{st:Nat}{a:AV}{l:List α}(h:Sl st T a l){i:Nat}(hi:i≤l.length):∃ a',(∀ M,slcO M st a (some (I64 i)) none none=some (a',M))∧Sl st T a' (l.drop i):=by
 rcases h with⟨rfl,rfl⟩ | ⟨rows,cap,rfl,hA,hr⟩
 ·obtain rfl:i=0:=by simpa using hi
  exact⟨NIL,fun M=>rfl,.inl ⟨rfl,rfl⟩⟩
 ·have hl:=hA.length_eq
  refine⟨.pv (rows.drop i).flatten (rows.length - i) (capSub cap i) st,fun M=>?_,.inr ⟨rows.drop i,capSub cap i,by rw[List.length_drop],all2_drop i hA,fun r hq=>hr r (List.mem_of_mem_drop hq)⟩⟩
  have hs:slot rows.flatten (i*st) ((rows.length - i)*st)=(rows.drop i).flatten:=by
   rw[slot,flat_drop i hr,List.take_of_length_le]
   rw[flat_len (st:=st) (fun r hq=>hr r (List.mem_of_mem_drop hq)),List.length_drop]
   exact Nat.le_refl _
  unfold slcO
  simp only[Nat.beq_refl,bnd_int _ _ _ _ (show i≤rows.length by omega),bnd_none,hs]
theorem apart2_pu (g:FP)(a b:Nat):apart2 .pure (g,a,b)=true:=by
 unfold apart2
 rw[apart_pp]
 rfl
theorem w3_app {α:Type}{X:Mem}{st bytes:Nat}{T:List AV→α→Prop}{a y:AV}{l l':List α}{Q:AV→Mem→Prop}(wf:Wf X)(h:SlM X st T a l)(hT:Cel T)(hy:Sl st T y l')(hs:0<st)(hb1:(l.length+l'.length)*bytes≤140737488355328)(hb2:l.length+l'.length≤140737488355328)
  (k:∀ a' M',SlM M' st T a' (l++l')→Wf M'→X.size≤M'.size→M'.size≤X.size+1→(∀ j,j<X.size→rowOf a≠some j→M'.get j=X.get j)→(∀ id,rowOf a'=some id→rowOf a=some id∨X.size≤id)→M'.wm=X.wm→((rowsOf a').all fun i=>Nat.blt i M'.size)=true→oneA a'=true→cellsA a'=[a']→Q a' M'):W3 (appO X st bytes a y) Q:=by
 obtain⟨rows,ha,hb,hc,hd⟩:=hy.open
 obtain⟨o,N,e,m,w,le,le2,kp,nw,wm⟩:=h.appO wf (ha X) hb hc hd (hT.all hc) hs hb1 hb2
 exact⟨o,N,e,k o N m w le le2 kp nw wm (rows_lt m.rl (Nat.le_refl _)) m.one m.cells⟩
theorem w3_appc {α:Type}{X:Mem}{st bytes:Nat}{T:List AV→α→Prop}{a y:AV}{l l':List α}{new:List (List AV)}{Q:AV→Mem→Prop}(wf:Wf X)(h:SlM X st T a l)(hT:Cel T)(hy:cellsOf X y=some new.flatten)(hl:lenA y=some l'.length)(hn:All2 T new l')(hr:∀ r∈new,r.length=st)(hs:0<st)(hb1:(l.length+l'.length)*bytes≤140737488355328)(hb2:l.length+l'.length≤140737488355328)
  (k:∀ a' M',SlM M' st T a' (l++l')→Wf M'→X.size≤M'.size→M'.size≤X.size+1→(∀ j,j<X.size→rowOf a≠some j→M'.get j=X.get j)→(∀ id,rowOf a'=some id→rowOf a=some id∨X.size≤id)→M'.wm=X.wm→((rowsOf a').all fun i=>Nat.blt i M'.size)=true→oneA a'=true→cellsA a'=[a']→Q a' M'):W3 (appO X st bytes a y) Q:=by
 obtain⟨o,N,e,m,w,le,le2,kp,nw,wm⟩:=h.appO wf hy hl hn hr (hT.all hn) hs hb1 hb2
 exact⟨o,N,e,k o N m w le le2 kp nw wm (rows_lt m.rl (Nat.le_refl _)) m.one m.cells⟩
def appzO (M:Mem)(st bytes:Nat)(z:Value)(x:AV)(n:Option Nat):OR:=match n,cellsOf M x with
  | some n,some old=>appendA M x old (repCells z n) n st bytes
  | _,_=>none
theorem x_appz {P:Program}(call:Tg→List AV→Mem→OR)(t:List AV)(M:Mem)(e:TypeId)(st bytes:Nat)(z:Value)(x n:Operand):execOpA P call t M (.appz e st bytes z x n)=appzO M st bytes z (evalA t x) (natOf (evalA t n)):=rfl
def msk:List (Option AFunc)→List (Option AFunc)→List (Option AFunc)
 | none::l,_::m=>none::msk l m
 | some _::l,x::m=>x::msk l m
 | _,_=>[]
theorem msk_get:∀ {l m:List (Option AFunc)} {i:Nat} {a:AFunc} {x:Option AFunc},l[i]? = some (some a)→(msk l m)[i]? = some x→m[i]? = some x
 | [],_,_,_,_,h,_=>by simp at h
 | none::l,[],_,_,_,_,k=>by simp [msk] at k
 | some _::l,[],_,_,_,_,k=>by simp [msk] at k
 | none::l,y::m,0,_,_,h,_=>by simp at h
 | some _::l,y::m,0,_,_,_,k=>by simpa [msk] using k
 | none::l,y::m,i+1,_,_,h,k=>by
  simp only[msk,List.getElem?_cons_succ] at h k ⊢
  exact msk_get h k
 | some _::l,y::m,i+1,_,_,h,k=>by
  simp only[msk,List.getElem?_cons_succ] at h k ⊢
  exact msk_get h k
def noX:Option AFunc→Option AFunc
 | some af=>match af.gc with | 3=>none | _=>some af
 | none=>none
theorem tab_msk {P:Program}{l:List (Option AFunc)}{n:Nat}(h:(l.map noX).map clr=msk (l.map noX) (tabList P n 0))
  (hx : ∀ f af, l[f]? = some (some af) → af.gc = 3 → ∃ fn, P.funcs[f]? = some fn ∧ (fn.name == "runtime.NumGoroutine") = false ∧ fn.body.isSome = true ∧ ∃ g, af.body = .ext g ∧ ExtOK Γ P f g) : TabOK Γ P (fsT l) := by
 intro f af hf
 have hl:l[f]? = some (some af):=by
  unfold fsT at hf
  rw[nth_eq] at hf
  cases hl:l[f]? with
  | none=>rw[hl] at hf;cases hf
  | some x=>rw[hl] at hf;simp at hf;subst hf;rfl
 by_cases hg:af.gc=3
 ·obtain⟨fn,h1,h2,h3,g,h4,h5⟩:=hx f af hl hg
  exact⟨fn,h1,h2,.inr ⟨hg,h3,g,h4,h5⟩⟩
 ·have hl':(l.map noX)[f]? = some (some af):=by
   have e:noX (some af)=some af:=by
    obtain⟨a,b,c,g⟩:=af
    unfold noX
    match g,hg with
    | 0,_=>rfl
    | 1,_=>rfl
    | 2,_=>rfl
    | 3,h=>exact absurd rfl h
    | _+4,_=>rfl
   rw[List.getElem?_map,hl,Option.map_some,e]
  have h1:((l.map noX).map clr)[f]? = some (clr (some af)):=by rw[List.getElem?_map,hl'];rfl
  rw[h] at h1
  have h2:=msk_get hl' h1
  have h3:nth none (tabList P n 0) f=some { af with gc:=0 }:=by rw[nth_eq,h2];rfl
  have h4:=tabList_get P n 0 f _ h3
  rw[Nat.zero_add] at h4
  obtain⟨fn,k1,k2,k3⟩:=tab_fsOf (Γ:=Γ) P f _ h4
  refine⟨fn,k1,k2,.inl ⟨?_,hg⟩⟩
  rcases k3 with⟨k3,_⟩ | ⟨k3,_⟩
  ·exact k3
  ·exact absurd (show (0:Nat)=3 from k3) (by decide)
def no3:Option AFunc→Bool
 | some af=>match af.gc with | 3=>false | _=>true
 | none=>true
theorem tab_msk0 {P:Program}{l:List (Option AFunc)}{n:Nat}(h:(l.map noX).map clr=msk (l.map noX) (tabList P n 0))(h3:l.all no3=true):TabOK Γ P (fsT l) :=
 tab_msk h fun f af hl hg=>by
  rw[List.all_eq_true] at h3
  have:=h3 _ (List.mem_of_getElem? hl)
  simp only[no3] at this
  rw[hg] at this
  cases this
variable {P : Program}
theorem pureRun_inv {α β:Type}(f:α→Sem β){b:β}:∀ {s:Sem α},pureRun P (s >>= f)=some b → ∃ a,pureRun P s=some a∧pureRun P (f a)=some b:=by
 intro s
 induction s with
 | pure a=>intro h;exact⟨a,rfl,h⟩
 | program k ih=>intro h;exact ih P h
 | mark m k ih=>intro h;exact ih h
 | _=>intro h;cases h
theorem pureRun_struct {d:Nat}{t:TypeId}{xs ys:Array Value}{fs:Array Field}{b:Bool}(ht:P.underlying t=some (.struct fs))(hp:P.stoodInHeld t=false)(h:pureRun P (Op.eqFields d xs ys fs.toList)=some b) :
  pureRun P (Op.equalIn (d+1) t (.agg xs) (.agg ys))=some b:=by
 unfold Op.equalIn
 refine pureRun_bind2 _ (a:=TypeDesc.struct fs) (pureRun_bind2 _ (a:=P) rfl (by simp only[ht];rfl)) ?_
 refine pureRun_bind2 _ (a:=P) rfl ?_
 simp only[hp,Bool.false_eq_true,if_false]
 rw[← Array.forIn_toList]
 generalize fs.toList=l at h
 clear ht
 induction l with
 | nil=>exact h
 | cons f l ih =>
  simp only[Op.eqFields] at h
  simp only[List.forIn_cons]
  split at h
  ·rename_i hn
   obtain⟨a,h1,h⟩:=pureRun_inv _ h
   obtain⟨c,h2,h⟩:=pureRun_inv _ h
   obtain⟨r,h3,h⟩:=pureRun_inv _ h
   cases r with
   | false =>
    simp only[Bool.not_false,if_true] at h
    cases h
    refine pureRun_bind2 _ (a:=(some false,())) (pureRun_bind2 _ (a:=ForInStep.done (some false,())) ?_ rfl) rfl
    rw[if_pos hn]
    exact pureRun_bind2 _ h1 (pureRun_bind2 _ h2 (pureRun_bind2 _ h3 rfl))
   | true =>
    simp only[Bool.not_true,Bool.false_eq_true,if_false] at h
    obtain⟨e,k1,k2⟩:=pureRun_inv _ (ih h)
    refine pureRun_bind2 _ (a:=e) (pureRun_bind2 _ (a:=ForInStep.yield (none,())) ?_ k1) k2
    rw[if_pos hn]
    exact pureRun_bind2 _ h1 (pureRun_bind2 _ h2 (pureRun_bind2 _ h3 rfl))
  ·rename_i hn
   obtain⟨e,k1,k2⟩:=pureRun_inv _ (ih h)
   refine pureRun_bind2 _ (a:=e) (pureRun_bind2 _ (a:=ForInStep.yield (none,())) ?_ k1) k2
   rw[if_neg hn]
   rfl
inductive PT where
 | int (k:IntKind)
 | bool
 | str
 | st (l:List PT)
mutual
def PT.n:PT→Nat
 | .st l=>PT.ns l
 | .int _=>1
 | .bool=>1
 | .str=>1
def PT.ns:List PT→Nat
 | []=>0
 | t::l=>t.n+PT.ns l
end
mutual
def PT.dep:PT→Nat
 | .st l=>PT.deps l+1
 | .int _=>1
 | .bool=>1
 | .str=>1
def PT.deps:List PT→Nat
 | []=>0
 | t::l=>Nat.max t.dep (PT.deps l)
end
mutual
def PT.is:PT→List Value→Prop
 | .int k,l => ∃ n,l=[.int k n]
 | .bool,l => ∃ b,l=[.bool b]
 | .str,l => ∃ s,l=[.string s]
 | .st ts,l=>PT.iss ts l
def PT.iss:List PT→List Value→Prop
 | [],l=>l=[]
 | t::ts,l => ∃ a b,l=a++b∧t.is a∧PT.iss ts b
end
mutual
def PT.fits (P:Program):PT→TypeId→Bool
 | .int k,t=>match P.underlying t with | some (.int _)=>true | _=>false
 | .bool,t=>match P.underlying t with | some .bool=>true | _=>false
 | .str,t=>match P.underlying t with | some .string=>true | _=>false
 | .st gs,t=>match P.underlying t with
  | some (.struct fs) => !P.stoodInHeld t&&(match P.info? t with | some i=>Nat.beq i.size (PT.ns gs) | none=>false)&&PT.fitss P gs fs.toList 0
  | _=>false
def PT.fitss (P:Program):List PT→List Field→Nat→Bool
 | [],[],_=>true
 | g :: gs, f :: fs, o => Nat.beq f.offset o && !(f.name == "_") && g.fits P f.type && PT.fitss P gs fs (o + g.n)
 | [],_::_,_=>false
 | _::_,[],_=>false
end
def PT.val:PT→List Value→Value
 | .st _,l => .agg l.toArray
 | _,l=>l.headD undef
mutual
theorem PT.is_len:∀ (g:PT) {l:List Value},g.is l→l.length=g.n
 | .int _,_,h=>by simp only[PT.is] at h;obtain⟨_,rfl⟩:=h;rfl
 | .bool,_,h=>by simp only[PT.is] at h;obtain⟨_,rfl⟩:=h;rfl
 | .str,_,h=>by simp only[PT.is] at h;obtain⟨_,rfl⟩:=h;rfl
 | .st ts,_,h=>by
  simp only[PT.is] at h
  simpa [PT.n] using PT.iss_len ts h
theorem PT.iss_len:∀ (g:List PT) {l:List Value},PT.iss g l→l.length=PT.ns g
 | [],_,h=>by simp only[PT.iss] at h;subst h;rfl
 | t::ts,_,h=>by
  simp only[PT.iss] at h
  obtain⟨a,b,rfl,h1,h2⟩:=h
  rw[List.length_append,PT.is_len t h1,PT.iss_len ts h2];rfl
end
theorem pure_isAgg {t:TypeId}{d:TypeDesc}(h:P.underlying t=some d):pureRun P (isAgg t)=some (match d with | .struct _ | .array _ _=>true | _=>false):=by
 unfold isAgg
 refine pureRun_bind2 _ (a:=d) (pureRun_bind2 _ (a:=P) rfl (by simp only[h];rfl)) ?_
 cases d <;> rfl
theorem pure_part1 {t:TypeId}{d:TypeDesc}(h:P.underlying t=some d)(hd:(match d with | .struct _ | .array _ _=>true | _=>false)=false){xs:Array Value}{o:Nat}{v:Value}(hv:xs[o]? = some v):pureRun P (Go.part t xs o)=some v:=by
 unfold Go.part
 refine pureRun_bind2 _ (pure_isAgg h) ?_
 rw[hd,hv]
 rfl
theorem pure_partS {t:TypeId}{fs:Array Field}{n:Nat}(h:P.underlying t=some (.struct fs))(hn:∃ i,P.info? t=some i∧i.size=n){xs:Array Value}{o:Nat}:pureRun P (Go.part t xs o)=some (.agg (xs.extract o (o+n))):=by
 obtain⟨i,hi,rfl⟩:=hn
 unfold Go.part
 refine pureRun_bind2 _ (pure_isAgg h) ?_
 refine pureRun_bind2 _ (a:=i.size) ?_ rfl
 unfold sizeOf typeInfo
 refine pureRun_bind2 _ (a:=i) ?_ rfl
 refine pureRun_bind2 _ (a:=P) rfl ?_
 rw[hi];rfl
mutual
theorem PT.eq:∀ (g:PT) (t:TypeId) (n:Nat) {xs ys:List Value},g.fits P t=true→g.dep≤n→g.is xs→g.is ys → ∃ b,pureRun P (Op.equalIn n t (g.val xs) (g.val ys))=some b∧(b=true↔xs=ys)
 | .int k,t,n,xs,ys,hf,hn,hx,hy=>by
  simp only[PT.dep] at hn
  obtain⟨n,rfl⟩:∃ m,n=m+1:=⟨n - 1,by omega⟩
  simp only[PT.is] at hx hy
  obtain⟨a,rfl⟩:=hx
  obtain⟨b,rfl⟩:=hy
  simp only[PT.fits] at hf
  split at hf
  ·rename_i j hu
   refine⟨a == b, ?_,by simp⟩
   unfold Op.equalIn
   refine pureRun_bind2 _ (a:=TypeDesc.int j) (pureRun_bind2 _ (a:=P) rfl (by simp only[hu];rfl)) ?_
   show pureRun P (if k=k then pure (a == b) else stuck _)=_
   rw[if_pos rfl]
   rfl
  ·cases hf
 | .bool,t,n,xs,ys,hf,hn,hx,hy=>by
  simp only[PT.dep] at hn
  obtain⟨n,rfl⟩:∃ m,n=m+1:=⟨n - 1,by omega⟩
  simp only[PT.is] at hx hy
  obtain⟨a,rfl⟩:=hx
  obtain⟨b,rfl⟩:=hy
  simp only[PT.fits] at hf
  split at hf
  ·rename_i hu
   refine⟨a == b, ?_,by simp⟩
   unfold Op.equalIn
   refine pureRun_bind2 _ (a:=TypeDesc.bool) (pureRun_bind2 _ (a:=P) rfl (by simp only[hu];rfl)) ?_
   rfl
  ·cases hf
 | .str,t,n,xs,ys,hf,hn,hx,hy=>by
  simp only[PT.dep] at hn
  obtain⟨n,rfl⟩:∃ m,n=m+1:=⟨n - 1,by omega⟩
  simp only[PT.is] at hx hy
  obtain⟨a,rfl⟩:=hx
  obtain⟨b,rfl⟩:=hy
  simp only[PT.fits] at hf
  split at hf
  ·rename_i hu
   refine⟨a == b, ?_,by
    obtain⟨x⟩:=a
    obtain⟨y⟩:=b
    show (x == y)=true↔_
    rw[beq_iff_eq]
    exact⟨fun h=>by rw[h],fun h=>by cases h;rfl⟩⟩
   unfold Op.equalIn
   refine pureRun_bind2 _ (a:=TypeDesc.string) (pureRun_bind2 _ (a:=P) rfl (by simp only[hu];rfl)) ?_
   rfl
  ·cases hf
 | .st gs,t,n,xs,ys,hf,hn,hx,hy=>by
  simp only[PT.dep] at hn
  obtain⟨n,rfl⟩:∃ m,n=m+1:=⟨n - 1,by omega⟩
  simp only[PT.is] at hx hy
  simp only[PT.fits] at hf
  split at hf
  ·rename_i fs hu
   simp only[Bool.and_eq_true,Bool.not_eq_true'] at hf
   obtain⟨b,h1,h2⟩:=PT.eqs gs fs.toList n 0 (X:=xs.toArray) (Y:=ys.toArray) hf.2 (by omega) hx hy (by simp) (by simp)
   exact⟨b,pureRun_struct hu hf.1.1 h1,h2⟩
  ·cases hf
theorem PT.eqs:∀ (gs:List PT) (fs:List Field) (n o:Nat) {xs ys:List Value} {X Y:Array Value},PT.fitss P gs fs o=true→PT.deps gs≤n→PT.iss gs xs→PT.iss gs ys→X.toList.drop o=xs→Y.toList.drop o=ys →
  ∃ b,pureRun P (Op.eqFields n X Y fs)=some b∧(b=true↔xs=ys)
 | [],[],n,o,xs,ys,X,Y,_,_,hx,hy,_,_=>by
  simp only[PT.iss] at hx hy
  subst hx hy
  exact⟨true,rfl,by simp⟩
 | [],_::_,_,_,_,_,_,_,hf,_,_,_,_,_=>by simp [PT.fitss] at hf
 | _::_,[],_,_,_,_,_,_,hf,_,_,_,_,_=>by simp [PT.fitss] at hf
 | g::gs,f::fs,n,o,xs,ys,X,Y,hf,hn,hx,hy,hX,hY=>by
  simp only[PT.fitss,Bool.and_eq_true,Bool.not_eq_true'] at hf
  obtain⟨⟨⟨h1,h2⟩,h3⟩,h4⟩:=hf
  have h1:=Nat.eq_of_beq_eq_true h1
  have h2 : f.name ≠ "_" := fun e => by rw [e] at h2; simp at h2
  simp only[PT.deps] at hn
  have hn1:g.dep≤n:=Nat.le_trans (Nat.le_max_left _ _) hn
  have hn2:PT.deps gs≤n:=Nat.le_trans (Nat.le_max_right _ _) hn
  simp only[PT.iss] at hx hy
  obtain⟨xa,xb,hxe,hxa,hxb⟩:=hx
  obtain⟨ya,yb,hye,hya,hyb⟩:=hy
  have lxa:=PT.is_len g hxa
  have lya:=PT.is_len g hya
  have hp:∀ (Z:Array Value) (za zb:List Value),Z.toList.drop o=za++zb→g.is za→za.length=g.n→pureRun P (Go.part f.type Z f.offset)=some (g.val za):=by
   intro Z za zb hz hza lza
   rw[h1]
   have hget:∀ v,za=[v]→Z[o]? = some v:=fun v e=>by
    rw[e] at hz
    have:=congrArg (·[0]?) hz
    simp only[List.getElem?_drop] at this
    rw[← Array.getElem?_toList]
    simpa using this
   cases g with
   | int k =>
    simp only[PT.is] at hza
    obtain⟨a,rfl⟩:=hza
    simp only[PT.fits] at h3
    split at h3
    ·rename_i j hu
     exact pure_part1 hu rfl (hget _ rfl)
    ·cases h3
   | bool =>
    exact zE0h
   | str =>
    exact zE0h
   | st ts =>
    simp only[PT.fits] at h3
    split at h3
    ·rename_i fs' hu
     simp only[Bool.and_eq_true,Bool.not_eq_true'] at h3
     have hi:∃ i,P.info? f.type=some i∧i.size=PT.ns ts:=by
      have:=h3.1.2
      split at this
      ·rename_i i hi
       exact⟨i,hi,Nat.eq_of_beq_eq_true this⟩
      ·cases this
     rw[pure_partS hu hi]
     show some (Value.agg _)=some (Value.agg _)
     congr 2
     apply Array.ext'
     rw[Array.toList_extract,List.extract_eq_take_drop,Nat.add_sub_cancel_left,hz]
     have:za.length=PT.ns ts:=lza
     rw[← this,List.take_left]
    ·cases h3
  have px:=hp X xa xb (hX.trans hxe) hxa lxa
  have py:=hp Y ya yb (hY.trans hye) hya lya
  obtain⟨b1,pe,he1⟩:=PT.eq g f.type n h3 hn1 hxa hya
  have dX:X.toList.drop (o+g.n)=xb:=by rw[← List.drop_drop,hX,hxe,← lxa,List.drop_left]
  have dY:Y.toList.drop (o+g.n)=yb:=by rw[← List.drop_drop,hY,hye,← lya,List.drop_left]
  obtain⟨b2,ps,he2⟩:=PT.eqs gs fs n (o+g.n) h4 hn2 hxb hyb dX dY
  simp only[Op.eqFields]
  rw[if_pos h2]
  have hl:xa.length=ya.length:=lxa.trans lya.symm
  cases b1 with
  | true =>
   refine⟨b2,pureRun_bind2 _ px (pureRun_bind2 _ py (pureRun_bind2 _ pe ps)), ?_⟩
   have e:=he1.1 rfl
   subst e
   rw[he2,hxe,hye]
   exact⟨fun h=>by rw[h],fun h=>List.append_cancel_left h⟩
  | false =>
   refine⟨false,pureRun_bind2 _ px (pureRun_bind2 _ py (pureRun_bind2 _ pe rfl)), ?_⟩
   constructor
   ·intro h;cases h
   ·intro h
    rw[hxe,hye] at h
    exact he1.2 (List.append_inj h hl).1
end
theorem pureRun_eqG {op:BinOp}{t:TypeId}{x y:Operand}{xs ys:Array Value}(h:P.eqGuardType P.depth t=false):pureRun P (eqGuard op t x y (.agg xs) (.agg ys))=some ():=by
 unfold eqGuard
 cases op
 all_goals simp only[Bool.not_true,Bool.not_false,Bool.false_eq_true,if_true,if_false]
 all_goals first | rfl | (refine pureRun_bind2 _ (a:=P) rfl (pureRun_bind2 _ (a:=P) rfl ?_);rw[h];rfl)
def plainV:List AV→Option (List Value)
 | []=>some []
 | .sc v::l=>match plainV l with | some vs=>some (v::vs) | none=>none
 | _::_=>none
theorem plainV_val:∀ {l:List AV} {vs:List Value},plainV l=some vs→toVal.toVals l=some vs
 | [],_,h=>by simp [plainV] at h;subst h;rfl
 | .sc v::l,vs,h=>by
  simp only[plainV] at h
  split at h
  ·rename_i vs' h'
   cases h
   simp only[toVal.toVals,toVal,plainV_val h']
  ·cases h
 | .ptr .. :: _,_,h=>by simp [plainV] at h
 | .sl .. :: _,_,h=>by simp [plainV] at h
 | .mp _::_,_,h=>by simp [plainV] at h
 | .fn .. :: _,_,h=>by simp [plainV] at h
 | .yl _::_,_,h=>by simp [plainV] at h
 | .agg _::_,_,h=>by simp [plainV] at h
 | .tup _::_,_,h=>by simp [plainV] at h
 | .pv .. :: _,_,h=>by simp [plainV] at h
 | .cp .. :: _,_,h=>by simp [plainV] at h
theorem pEqS {t:List AV}(gs:List PT)(neg:Bool)(ty r1 r2:TypeId)(i j:Nat){l m:List AV}{xs ys:List Value}(hf:(PT.st gs).fits P ty=true)(hd:(PT.st gs).dep≤10000)(hg:P.eqGuardType P.depth ty=false)
  (h1:evalA t (.tmp i) = .agg l) (h2:evalA t (.tmp j) = .agg m) (p1:plainV l=some xs) (p2:plainV m=some ys) (i1:PT.iss gs xs) (i2:PT.iss gs ys) :
  ∃ b,pureOp P t (mkO (.binOp (if neg then .neq else .eql) ty (.tmp i) (.tmp j) r1) r2)=some (.sc (.bool (if neg then !b else b)))∧(b=true↔xs=ys):=by
 obtain⟨b,hb,hbe⟩:=PT.eq (.st gs) ty 10000 hf hd (xs:=xs) (ys:=ys) (by simpa only[PT.is] using i1) (by simpa only[PT.is] using i2)
 refine⟨b, ?_,hbe⟩
 have t1:toVal (.agg l)=some (.agg xs.toArray):=by simp only[toVal,plainV_val p1]
 have t2:toVal (.agg m)=some (.agg ys.toArray):=by simp only[toVal,plainV_val p2]
 cases neg with
 | true =>
  refine pureOp_of (v:=.bool (!b)) ?_ ?_
  ·exact zE0p
  ·simp only[execOp,mkO,h1,h2,t1,t2,Option.getD_some]
   have hbo:pureRun P (binOp .neq ty (.agg xs.toArray) (.agg ys.toArray))=some (.bool (!b)):=by
    unfold binOp
    exact pureRun_bind2 _ hb rfl
   exact pureRun_bind2 _ (pureRun_bind2 _ (a:=()) (pureRun_eqG hg) hbo) rfl
 | false =>
  refine pureOp_of (v:=.bool b) ?_ ?_
  ·exact zE0p
  ·simp only[execOp,mkO,h1,h2,t1,t2,Option.getD_some]
   have hbo:pureRun P (binOp .eql ty (.agg xs.toArray) (.agg ys.toArray))=some (.bool b):=by
    unfold binOp
    exact pureRun_bind2 _ hb rfl
   exact pureRun_bind2 _ (pureRun_bind2 _ (a:=()) (pureRun_eqG hg) hbo) rfl
section
variable {fuel : Nat} {fs : Nat → Option AFunc} {call : Tg → List AV → Mem → Option (AV × Mem)} {M : Mem} {n : Nat}
theorem w_range {f:Operand}{ps:List Nat}{as bo:ACode}{t:List AV}{mk:List Nat}{g:FuncId}{first cap:List AV}{Q:AExit→Fr→Mem→Prop}(wf:Wf M)(hf:evalA t f = .fn g first cap)
  (h:W3 (call (.fn g) (first++[.yl (M.size+1)]++cap) ((M.add (.dfr false)).add (.loop .ready none t ps as bo M.size))) (fun _ N=>Wf N∧M.size+1<N.size ∧ ∃ tm ps' as' bo' df,N.get (M.size+1)=some (.loop .ready none tm ps' as' bo' df)∧Q .normal ⟨t,M.size::mk⟩ (N.upd (M.size+1) (.loop .exhausted none tm ps' as' bo' df)))) :
  W (execCode P fuel call none (.rangeFunc f ps as bo) ⟨t,mk⟩ M) Q:=by
 obtain⟨v,N,hc,wN,hlt,tm,ps',as',bo',df,hg,hq⟩:=h
 refine⟨.normal,⟨t,M.size::mk⟩,_, ?_,hq⟩
 have hn:=new_add (wf.add (.dfr false)) (.loop .ready none t ps as bo M.size)
 rw[add_size] at hn
 simp only[execCode,new_add wf,rangeA,hn,hf,hc,hg,put_upd wN hlt,Option.getD_none]
theorem call_yl {id:Nat}{args tm:List AV}{ps:List Nat}{as bo:ACode}{df:Nat}{Q:AV→Mem→Prop}(hg:M.get id=some (.loop .ready none tm ps as bo df))(hl:ps.length=args.length)
  (h:W (execCode P fuel (callN P fs fuel n) (some id) as ⟨setAll tm ps args,[]⟩ M) (fun e fr N=>e = .normal∧Wf N ∧ ∃ tm2 ps2 as2 bo2 df2,N.get id=some (.loop .ready none tm2 ps2 as2 bo2 df2) ∧
   W (execCode P fuel (callN P fs fuel n) (some id) bo fr (N.upd id (.loop .busy none tm2 ps2 as2 bo2 df2))) (fun e2 _ N2=>e2 = .normal∧Wf N2 ∧ ∃ s3 p3 tm3 ps3 as3 bo3 df3,N2.get id=some (.loop s3 p3 tm3 ps3 as3 bo3 df3)∧Q (.sc (.bool true)) (N2.upd id (.loop .ready none tm3 ps3 as3 bo3 df3))))) :
  W3 (callN P fs fuel (n+1) (.yl id) args M) Q:=by
 obtain⟨e,fr,N,h1,rfl,wN,tm2,ps2,as2,bo2,df2,h2,e2,fr2,N2,h3,rfl,wN2,s3,p3,tm3,ps3,as3,bo3,df3,h4,hq⟩:=h
 refine⟨_,_, ?_,hq⟩
 have hb:Nat.beq ps.length args.length=true:=by rw[hl];exact Nat.beq_refl _
 exact zE0g
theorem fin_mark {rs:List ARes}{K:AV→Prop}{t:List AV}{M:Mem}{d:Nat}(wf:Wf M)(h:M.get d=some (.dfr false))(k:fin rs K .ret ⟨t,[]⟩ (M.upd d (.dfr true))):fin rs K .ret ⟨t,[d]⟩ M:=by
 unfold fin at k ⊢
 simp only[spend,h,put_upd wf (Mem.get_lt h)] at k ⊢
 exact k
end
theorem slm_frz2 {α:Type}{M:Mem}{st:Nat}{T:List AV→α→Prop}{a:AV}{l:List α}(h:SlM M st T a l)(hT:Cel T)(k:Nat)(hk:1<k):∃ ro,Sl st T ro l ∧ ∀ N,(∀ id,rowOf a=some id→N.get id=M.get id)→frz N 0 k a=some ro:=by
 rcases h with⟨rfl,rfl⟩ | ⟨id,rows,cap,rfl,_,hg,h,hl⟩
 ·exact⟨_,.inl ⟨rfl,rfl⟩,fun N _=>frz_sc _ (by omega)⟩
 ·refine⟨.pv rows.flatten rows.length cap st,.inr ⟨rows,cap,rfl,h,hl⟩,fun N hN=>?_⟩
  rw[frz_sl (rd_row ((hN id rfl).trans hg)) (by rw[flat_len hl];omega) (by omega) (fun x hx=>(hT.flat h x hx).2 N _ (by omega)),slot_all _ _ (by rw[flat_len hl])]
variable {call : Tg → List AV → Mem → Option (AV × Mem)} {t : List AV} {M : Mem}
theorem FRels.plain {h:Nat→Option Obj}:∀ {l vs:List Value},FRels h (l.map .sc) vs→vs=l
 | [],_,.nil=>rfl
 | _::_,_,.cons a b=>by cases a;rw[FRels.plain b]
structure Fz (a:AV):Prop where
 rows:rowsOf a=[]
 one:oneA a=true
 cells:cellsA a=[a]
 icy:∀ (M:Mem) (k:Nat),0<k→icy k M a=some (a,M)
 frz:∀ (M:Mem) (m k:Nat),0<k→frz M m k a=some a
theorem Sl.fz {α:Type}{st:Nat}{T:List AV→α→Prop}{a:AV}{l:List α}(h:Sl st T a l):Fz a :=
 ⟨h.rows mem0,h.one,h.cells,h.icy,fun M m k hk=>h.frz M m k hk⟩
theorem call_g2 {fuel:Nat}{P:Program}{fs:Nat→Option AFunc}{f:Nat}{af:AFunc}(h:fs f=some af)(hg:af.gc=2){n:Nat}{args:List AV}{M:Mem}{Q:AV→Mem→Prop}(hz:icyL (icy 12) M args=some (args,M))(hl:args.length≤af.ntmps)
  (hb:∀ b:List AV,b.length=af.ntmps→(∀ (i:Nat) (x:AV),args[i]? = some x→nth undefA b i=x)→W (execCode P fuel (callN P fs fuel n) none af.body ⟨St b [],[]⟩ mem0) (fin af.results (fun r=>(∃ v,r = .sc v)∧Q r M))) :
  W3 (callN P fs fuel (n+1) (.fn f) args M) Q:=by
 obtain⟨e,fr,M',he,hq⟩:=hb (args++List.replicate (af.ntmps - args.length) undefA) (by simp;omega) (fun i x hx=>nth_app hx)
 have he:execCode P fuel (callN P fs fuel n) none af.body ⟨args++List.replicate (af.ntmps - args.length) undefA,[]⟩ mem0=some (e,fr,M'):=he
 have key:∀ e,(∀ i,e ≠ .exit i)→fin af.results (fun r=>(∃ v,r = .sc v)∧Q r M) e fr M' → ∃ M2 vs ws,spend fr.marks M'=some M2∧resultsA fr.t M2 af.results=some vs∧frzL (frz M2 0 12) vs=some ws∧(∃ v,tupOf ws = .sc v)∧Q (tupOf ws) M:=by
  exact zE0a
 have hne:∀ i,e ≠ .exit i:=fun i hi=>by subst hi;exact hq
 obtain⟨M2,vs,ws,h2,h3,h4,⟨v,h5⟩,h6⟩:=key e hne hq
 have hsc:ws.all scA=true:=by
  unfold tupOf at h5
  split at h5
  ·subst h5;rfl
  ·cases h5
 refine⟨tupOf ws,M, ?_,h6⟩
 simp only[callN,h,hg,hz,he]
 cases e with
 | exit i=>exact absurd rfl (hne i)
 | _=>simp only[h2,h3,h4,lendA,hsc]
theorem sc_ex (x:Value):(∃ v,AV.sc x = .sc v)=True:=eq_true ⟨x,rfl⟩
theorem gc_ex {fuel:Nat}{P:Program}{fs:Nat→Option AFunc}{f:Nat}{af:AFunc}{n:Nat}{args:List AV}{α:Type}{K:α→Prop}{g:α→AV}(h:fs f=some af)(hg:af.gc=1)(ic:∀ M,icyL (icy 12) M args=some (args,M))
  (k:W3 (callN P fs fuel (n+1) (.fn f) args mem0) (fun r _ => ∃ r',K r'∧r=g r')):∃ r',K r' ∧ ∀ M,callN P fs fuel (n+1) (.fn f) args M=some (g r',M):=by
 obtain⟨r,M1,e,r',p,rfl⟩:=k
 exact⟨r',p,fun M=>call_own h hg e (ic mem0) (ic M)⟩
def eqL {α β:Type}(p:α→β→Bool):List α→List β→Bool
 | [],[]=>true
 | x::l,y::m=>p x y&&eqL p l m
 | _,_=>false
section
variable {α β : Type} {p : α → β → Bool}
theorem eqL_len:∀ {l:List α} {m:List β},eqL p l m=true→l.length=m.length
 | [],[],_=>rfl
 | [],_::_,h=>by cases h
 | _::_,[],h=>by cases h
 | x::l,y::m,h=>by
  simp only[eqL,Bool.and_eq_true] at h
  simp [eqL_len h.2]
theorem eqL_ne {l:List α}{m:List β}(h:l.length≠m.length):eqL p l m=false:=by
 rw[Bool.eq_false_iff];exact fun k=>h (eqL_len k)
theorem eqL_iff:∀ {l:List α} {m:List β},eqL p l m=true↔l.length=m.length ∧ ∀ (i:Nat) (h1:i<l.length) (h2:i<m.length),p l[i] m[i]=true
 | [],[]=>by simp [eqL]
 | [],_::_=>by simp [eqL]
 | _::_,[]=>by simp [eqL]
 | x::l,y::m=>by
  simp only[eqL,Bool.and_eq_true,eqL_iff (l:=l) (m:=m),List.length_cons]
  constructor
  ·rintro⟨a,b,c⟩
   refine⟨by omega,fun i h1 h2=>?_⟩
   match i with
   | 0=>exact a
   | i+1=>exact c i (by omega) (by omega)
  ·rintro⟨a,b⟩
   exact⟨b 0 (by omega) (by omega),by omega,fun i h1 h2=>b (i+1) (by omega) (by omega)⟩
theorem eqL_at {l:List α}{m:List β}{i:Nat}(h1:i<l.length)(h2:i<m.length)(h:p l[i] m[i]=false):eqL p l m=false:=by
 rw[Bool.eq_false_iff]
 intro k
 have:=(eqL_iff.1 k).2 i h1 h2
 rw[h] at this;cases this
theorem eqL_all {l:List α}{m:List β}(h:l.length=m.length)(k:∀ i (h1:i<l.length) (h2:i<m.length),i<l.length→p l[i] m[i]=true):eqL p l m=true:=eqL_iff.2 ⟨h,fun i h1 h2=>k i h1 h2 h1⟩
end
theorem eqL_eq {α:Type}{p:α→α→Bool}(h:∀ x y,p x y=true↔x=y):∀ {l m:List α},eqL p l m=true↔l=m
 | [],[]=>by simp [eqL]
 | [],_::_=>by simp [eqL]
 | _::_,[]=>by simp [eqL]
 | x::l,y::m=>by
  simp only[eqL,Bool.and_eq_true,h,eqL_eq h (l:=l) (m:=m),List.cons.injEq]
theorem All2.split {α β:Type}{T:α→β→Prop}{p:β→Prop}:∀ {l:List α} {m:List β},All2 (fun r x=>T r x∧p x) l m→All2 T l m ∧ ∀ x∈m,p x
 | _,_,.nil=>⟨.nil,fun _ h=>by cases h⟩
 | _,_,.cons a b=>⟨.cons a.1 b.split.1,fun x h=>by
  rcases List.mem_cons.1 h with rfl | h
  ·exact a.2
  ·exact b.split.2 x h⟩
theorem Sl.split {α:Type}{st:Nat}{T:List AV→α→Prop}{p:α→Prop}{a:AV}{l:List α}(h:Sl st (fun r x=>T r x∧p x) a l):Sl st T a l ∧ ∀ x∈l,p x:=by
 rcases h with⟨rfl,rfl⟩ | ⟨rows,cap,rfl,hA,hr⟩
 ·exact⟨.inl ⟨rfl,rfl⟩,fun _ h=>by cases h⟩
 ·exact⟨.inr ⟨rows,cap,rfl,hA.split.1,hr⟩,hA.split.2⟩
theorem Ws.len {α:Type}{g:GT}{st:Nat}{T:List AV→α→Prop}{a:AV}{l:List α}(hw:Ws (.sl g) [a])(h:Sl st T a l):l.length*g.by≤reachBytes:=by
 rcases h with⟨rfl,rfl⟩ | ⟨rows,cap,rfl,hA,_⟩
 ·simp
 ·simp only[Ws] at hw
  rw[← hA.length_eq]
  exact(hw _ _ _ _ rfl).1
variable {fs : Nat → Option AFunc} {fuel : Nat}
theorem fz_sc_int (k:IntKind)(n:Int):Fz (.sc (.int k n)):=⟨rfl,rfl,rfl,fun _ _ h=>icy_sc _ h,fun _ _ _ h=>frz_sc _ h⟩
theorem fz_fn0 (g:FuncId):Fz (.fn g [] []):=⟨rfl,rfl,rfl,fun M k h=>by rw[icy_fn _ _ _ h];rfl,fun M m k h=>by rw[frz_fn _ _ _ h];rfl⟩
def FzT {α:Type}(T:List AV→α→Prop):Prop:=∀ r x,T r x → ∀ y∈r,Fz y
theorem FzT.cel {α:Type}{T:List AV→α→Prop}(h:FzT T):Cel T:=fun r x hr y hy=>⟨(h r x hr y hy).one,fun M k hk=>(h r x hr y hy).frz M 0 k hk⟩
theorem FzT.celI {α:Type}{T:List AV→α→Prop}(h:FzT T):CelI T:=fun r x hr y hy M k hk=>(h r x hr y hy).icy M k hk
theorem fz_rowsAll:∀ {r:List AV},(∀ y∈r,Fz y)→rowsOf (.agg r)=[]
 | [],_=>by simp [ro_agg]
 | x::r,h=>by
  have ih:=fz_rowsAll (r:=r) fun y hy=>h y (List.mem_cons_of_mem _ hy)
  have hx:=(h x (by simp)).rows
  simp_all [ro_agg]
theorem fz_icyL {k:Nat}(hk:0<k):∀ {r:List AV} (M:Mem),(∀ y∈r,Fz y)→icyL (icy k) M r=some (r,M)
 | [],_,_=>rfl
 | x::r,M,h=>by
  simp only[icyL,(h x (by simp)).icy M k hk,fz_icyL hk (r:=r) M fun y hy=>h y (List.mem_cons_of_mem _ hy)]
theorem fz_icyA {r:List AV}(h:∀ y∈r,Fz y){k:Nat}(hk:1<k)(M:Mem):icy k M (.agg r)=some (.agg r,M):=by
 rw[icy_agg _ (by omega),fz_icyL (by omega) M h]
theorem fz_frzL {m k:Nat}(hk:0<k):∀ {r:List AV} (M:Mem),(∀ y∈r,Fz y)→frzL (frz M m k) r=some r
 | [],_,_=>rfl
 | x::r,M,h=>by
  simp only[frzL,(h x (by simp)).frz M m k hk,fz_frzL hk (r:=r) M fun y hy=>h y (List.mem_cons_of_mem _ hy)]
def elA (ag:Bool)(r:List AV):AV:=match ag with
 | true => .agg r
 | false=>nth undefA r 0
theorem part_el {st:Nat}{ag:Bool}{r:List AV}(hl:r.length=st)(h1:ag=false→st=1):part r 0 st ag=some (elA ag r):=by
 cases ag with
 | true=>rw[part_ag _ _ _ (by omega),slot_all _ _ hl.symm];rfl
 | false =>
  have:=h1 rfl
  subst this
  match r,hl with
  | [x],_=>rw[part_one];rfl
theorem el_rows {α:Type}{T:List AV→α→Prop}(hT:FzT T){ag:Bool}{r:List AV}{x:α}{st:Nat}(hl:r.length=st)(h1:ag=false→st=1)(h:T r x):rowsOf (elA ag r)=[]:=by
 cases ag with
 | true=>exact fz_rowsAll (hT r x h)
 | false =>
  have:=h1 rfl
  subst this
  match r,hl with
  | [y],_=>exact(hT [y] x h y (by simp)).rows
def posF {α:Type}(p:α→Bool)(l:List α):Int:=match l.findIdx? p with
 | some i=>(i:Int)
 | none => -1
theorem posF_at {α:Type}{p:α→Bool}{l:List α}{i:Nat}(hi:i<l.length)(h:p l[i]=true)(k:∀ j (hj:j<i),p l[j]=false):posF p l=i:=by
 unfold posF
 have:l.findIdx? p=some i:=by
  rw[List.findIdx?_eq_some_iff_getElem]
  exact⟨hi,h,fun j hj=>by rw[k j hj];simp⟩
 rw[this]
theorem posF_no {α:Type}{p:α→Bool}{l:List α}(k:∀ j (hj:j<l.length),p l[j]=false):posF p l = -1:=by
 unfold posF
 have:l.findIdx? p=none:=by
  rw[List.findIdx?_eq_none_iff]
  intro x hx
  obtain⟨j,hj,rfl⟩:=List.getElem_of_mem hx
  exact k j hj
 rw[this]
theorem posF_any {α:Type}(p:α→Bool)(l:List α):decide (0≤posF p l)=l.any p:=by
 unfold posF
 cases h:l.findIdx? p with
 | some i =>
  obtain⟨hi,hp,_⟩:=List.findIdx?_eq_some_iff_getElem.1 h
  rw[List.any_eq_true.2 ⟨_,List.getElem_mem hi,hp⟩]
  exact decide_eq_true (by simp)
 | none =>
  rw[List.findIdx?_eq_none_iff] at h
  have:l.any p=false:=by rw[List.any_eq_false];intro x hx;rw[h x hx];simp
  rw[this];rfl
def indexC (st:Nat)(ag:Bool)(ti tb tr:TypeId):ACode :=
 (.seq (.region [⟨some 4,.mov (.const (.int .i64 0)),none,[]⟩] false)
 (.seq (.seq (.region [⟨some 6,.mov (.tmp 0),none,[]⟩,
  ⟨some 7,.len (.tmp 6),none,[]⟩,
  ⟨some 8,.mov (.const (.int .i64 0)),none,[]⟩] false)
 (.block 0 (.loop (.seq (.region [⟨some 9,.pur (mkO (.binOp .lss ti (.tmp 8) (.tmp 7) ti) tb),none,[]⟩] false)
   (.seq (.cond (.tmp 9)
    .skip
    (.exit 0))
   (.seq (.block 1 (.seq (.region [⟨some 10,.mov (.tmp 8),none,[]⟩,
     ⟨some 5,.mov (.tmp 10),none,[]⟩] false)
    (.seq (.region [⟨some 11,.mov (.tmp 1),none,[]⟩,
     ⟨some 12,.mov (.tmp 0),none,[]⟩,
     ⟨some 13,.mov (.tmp 5),none,[]⟩,
     ⟨some 14,.iad st (.tmp 12) (.tmp 13),none,[]⟩,
     ⟨some 15,.load st ag (.tmp 14),none,[]⟩,
     ⟨some 16,.call (.tmp 11) [(.tmp 15)],none,[]⟩] false)
    (.cond (.tmp 16)
     (.seq (.region [⟨some 17,.mov (.tmp 5),none,[]⟩,
      ⟨some 4,.mov (.tmp 17),none,[]⟩] false)
     .ret)
     .skip))))
   (.region [⟨some 18,.pur (mkO (.binOp .add ti (.tmp 8) (.const (.int .i64 1)) ti) tr),none,[]⟩,
    ⟨some 8,.mov (.tmp 18),none,[]⟩] false)))))))
 (.seq (.region [⟨some 4,.mov (.const (.int .i64 (-1))),none,[]⟩] false)
 .ret)))
section
variable {α : Type} {T : List AV → α → Prop} {st : Nat} {ag : Bool} {a : AV} {l : List α}
theorem index_gc {f ti tb tr:Nat}(hf:fs f=some ⟨19,indexC st ag ti tb tr,[.tmp 4],1⟩)(h1':ag=false→st=1)(hT:FzT T)(hS:Sl st T a l)(hl:l.length≤1000000000000000)(hfu:l.length<fuel)
  {n:Nat} {g:FuncId} {first cap:List AV} {p:α→Bool} (fz:Fz (.fn g first cap)) (hp:∀ r x,T r x→x∈l → ∀ M,callN P fs fuel n (.fn g) (first++[elA ag r]++cap) M=some (BL (p x),M)) (M:Mem) :
  callN P fs fuel (n+1) (.fn f) [a,.fn g first cap] M=some (I64 (posF p l),M):=by
 have ll:=hS.len
 have frw:=fz.rows
 simp only[ro_fn] at frw
 apply w3_eq
 refine call_gc hf rfl (by simp only[icyL,hS.icy M 12 (by omega),fz.icy M 12 (by omega)]) (by simp) fun b' ht hx=>?_
 have h0:=hx 0 _ rfl
 have h1:=hx 1 _ rfl
 clear hx
 simp only[indexC] at ht ⊢
 simp (maxSteps:=2000000) (disch:=first | omega | assumption | (simp only[DS,Nat.reduceAdd, *];done) | (simp only[DZ];omega)) only[RUN,RU,footA,feetIn,resultsA,tupOf,frzL,slot,lay,icyL,fillA,repCells,kR,reduceIte,Nat.reduceEqDiff,Nat.reduceBEq,Nat.reduceLT,Nat.reduceAdd,Nat.reduceLeDiff,Nat.reduceSub,Nat.reduceMul,Int.reduceLT,Int.reduceLE,Int.reduceEq,Int.reduceAdd,Int.reduceSub,Int.reduceMul,h0,h1,ll,hS.fz.rows,hS.fz.one,hS.fz.cells,hS.fz.icy,hS.fz.frz]
 refine w_loop (I:=fun n t N => ∃ (i:Nat),n=l.length - i∧i≤l.length∧nth undefA t 0=a∧nth undefA t 1 = .fn g first cap∧nth undefA t 6=a∧nth undefA t 7=I64 l.length∧nth undefA t 8=I64 i∧N=mem0∧(∀ j (h:j<l.length),j<i→p l[j]=false)) (n:=l.length) (by omega) ?_ ?_
 ·exact zE03
 ·rintro n t N hlt ⟨i,rfl,hi,g0,g1,g6,g7,g8,hm,hj⟩
  simp only[ht] at hlt ⊢
  subst hm
  by_cases hc:i<l.length
  ·have q1:decide ((i:Int)<l.length)=true:=decide_eq_true (by omega)
   have w1:IntKind.i64.wrap ((i:Int)+1)=((i+1:Nat):Int):=by rw[wrap_i64] <;> omega
   obtain⟨r,hr,hev,hlr⟩:=hS.iad i hc
   have p1:=part_el (ag:=ag) hlr h1'
   have er:=el_rows hT (ag:=ag) hlr h1' hev
   have hpp:=hp r l[i] hev (List.getElem_mem hc)
   cases hb:p l[i] with
   | false =>
    rw[hb] at hpp
    simp (maxSteps:=2000000) (disch:=first | omega | assumption | (simp only[DS,Nat.reduceAdd, *];done) | (simp only[DZ];omega)) only[RUN,RU,footA,feetIn,resultsA,tupOf,frzL,slot,lay,icyL,fillA,repCells,kR,reduceIte,Nat.reduceEqDiff,Nat.reduceBEq,Nat.reduceLT,Nat.reduceAdd,Nat.reduceLeDiff,Nat.reduceSub,Nat.reduceMul,Int.reduceLT,Int.reduceLE,Int.reduceEq,Int.reduceAdd,Int.reduceSub,Int.reduceMul,g0,g1,g6,g7,g8,hS.fz.rows,hS.fz.one,hS.fz.cells,hS.fz.icy,hS.fz.frz,frw,q1,w1,hr,p1,er,hpp]
    exact zE0k
   | true =>
    rw[hb] at hpp
    have e1:=posF_at hc hb fun j hj'=>hj j (by omega) hj'
    simp (maxSteps:=2000000) (disch:=first | omega | assumption | (simp only[DS,Nat.reduceAdd, *];done) | (simp only[DZ];omega)) only[RUN,RU,footA,feetIn,resultsA,tupOf,frzL,slot,lay,icyL,fillA,repCells,kR,reduceIte,Nat.reduceEqDiff,Nat.reduceBEq,Nat.reduceLT,Nat.reduceAdd,Nat.reduceLeDiff,Nat.reduceSub,Nat.reduceMul,Int.reduceLT,Int.reduceLE,Int.reduceEq,Int.reduceAdd,Int.reduceSub,Int.reduceMul,g0,g1,g6,g7,g8,hS.fz.rows,hS.fz.one,hS.fz.cells,hS.fz.icy,hS.fz.frz,frw,q1,w1,hr,p1,er,hpp,e1]
  ·obtain rfl:i=l.length:=by omega
   have q1:decide ((l.length:Int)<l.length)=false:=decide_eq_false (by omega)
   have e1:=posF_no (p:=p) fun j h=>hj j h h
   simp (maxSteps:=2000000) (disch:=first | omega | assumption | (simp only[DS,Nat.reduceAdd, *];done) | (simp only[DZ];omega)) only[RUN,RU,footA,feetIn,resultsA,tupOf,frzL,slot,lay,icyL,fillA,repCells,kR,reduceIte,Nat.reduceEqDiff,Nat.reduceBEq,Nat.reduceLT,Nat.reduceAdd,Nat.reduceLeDiff,Nat.reduceSub,Nat.reduceMul,Int.reduceLT,Int.reduceLE,Int.reduceEq,Int.reduceAdd,Int.reduceSub,Int.reduceMul,g0,g1,g6,g7,g8,q1,e1]
def hasC (g:FuncId)(ti tr:TypeId):ACode :=
 (.seq (.region [⟨some 4,.mov (.const (.bool false)),none,[]⟩] false)
 (.seq (.region [⟨some 5,.mov (.tmp 0),none,[]⟩,
  ⟨some 6,.mov (.tmp 1),none,[]⟩,
  ⟨some 7,.call (.func g) [(.tmp 5),(.tmp 6)],none,[]⟩,
  ⟨some 8,.pur (mkO (.binOp .geq ti (.tmp 7) (.const (.int .i64 0)) ti) tr),none,[]⟩,
  ⟨some 4,.mov (.tmp 8),none,[]⟩] false)
 .ret))
theorem has_gc {f f' ti tb tr ti' tr':Nat}(hf':fs f'=some ⟨9,hasC f ti' tr',[.tmp 4],1⟩)(hf:fs f=some ⟨19,indexC st ag ti tb tr,[.tmp 4],1⟩)(h1':ag=false→st=1)(hT:FzT T)(hS:Sl st T a l)(hl:l.length≤1000000000000000)(hfu:l.length<fuel)
  {n:Nat} {g:FuncId} {first cap:List AV} {p:α→Bool} (fz:Fz (.fn g first cap)) (hp:∀ r x,T r x→x∈l → ∀ M,callN P fs fuel n (.fn g) (first++[elA ag r]++cap) M=some (BL (p x),M)) (M:Mem) :
  callN P fs fuel (n+2) (.fn f') [a,.fn g first cap] M=some (BL (l.any p),M):=by
 have hi:=fun M=>index_gc (P:=P) (M:=M) hf h1' hT hS hl hfu fz hp
 have e:=posF_any p l
 have frw:=fz.rows
 simp only[ro_fn] at frw
 apply w3_eq
 refine call_gc hf' rfl (by simp only[icyL,hS.icy M 12 (by omega),fz.icy M 12 (by omega)]) (by simp) fun b' ht hx=>?_
 have h0:=hx 0 _ rfl
 have h1:=hx 1 _ rfl
 clear hx
 simp only[hasC] at ht ⊢
 simp (maxSteps:=2000000) (disch:=first | omega | assumption | (simp only[DS,Nat.reduceAdd, *];done) | (simp only[DZ];omega)) only[RUN,RU,footA,feetIn,resultsA,tupOf,frzL,slot,lay,icyL,fillA,repCells,kR,reduceIte,Nat.reduceEqDiff,Nat.reduceBEq,Nat.reduceLT,Nat.reduceAdd,Nat.reduceLeDiff,Nat.reduceSub,Nat.reduceMul,Int.reduceLT,Int.reduceLE,Int.reduceEq,Int.reduceAdd,Int.reduceSub,Int.reduceMul,h0,h1,hi,hS.fz.rows,hS.fz.one,hS.fz.cells,hS.fz.icy,hS.fz.frz,frw,e]
def indexVC (st:Nat)(ag:Bool)(te ti tb tr te' tq:TypeId):ACode :=
 (.seq (.region [⟨some 3,.box te (.tmp 1),none,[]⟩,
  ⟨some 4,.mov (.const (.int .i64 0)),none,[]⟩] false)
 (.seq (.seq (.region [⟨some 6,.mov (.tmp 0),none,[]⟩,
  ⟨some 7,.len (.tmp 6),none,[]⟩,
  ⟨some 8,.mov (.const (.int .i64 0)),none,[]⟩] false)
 (.block 0 (.loop (.seq (.region [⟨some 9,.pur (mkO (.binOp .lss ti (.tmp 8) (.tmp 7) ti) tb),none,[]⟩] false)
   (.seq (.cond (.tmp 9)
    .skip
    (.exit 0))
   (.seq (.block 1 (.seq (.region [⟨some 10,.mov (.tmp 8),none,[]⟩,
     ⟨some 5,.mov (.tmp 10),none,[]⟩] false)
    (.seq (.region [⟨some 11,.load st ag (.tmp 3),none,[1,2,3,4]⟩,
     ⟨some 12,.mov (.tmp 0),none,[0,2]⟩,
     ⟨some 13,.mov (.tmp 5),none,[0,1]⟩,
     ⟨some 14,.iad st (.tmp 12) (.tmp 13),none,[0]⟩,
     ⟨some 15,.load st ag (.tmp 14),none,[0]⟩,
     ⟨some 16,.pur (mkO (.binOp .eql te' (.tmp 11) (.tmp 15) te') tq),none,[]⟩] true)
    (.cond (.tmp 16)
     (.seq (.region [⟨some 17,.mov (.tmp 5),none,[]⟩,
      ⟨some 4,.mov (.tmp 17),none,[]⟩] false)
     .ret)
     .skip))))
   (.region [⟨some 18,.pur (mkO (.binOp .add ti (.tmp 8) (.const (.int .i64 1)) ti) tr),none,[]⟩,
    ⟨some 8,.mov (.tmp 18),none,[]⟩] false)))))))
 (.seq (.region [⟨some 4,.mov (.const (.int .i64 (-1))),none,[]⟩] false)
 .ret)))
theorem indexV_gc {f te ti tb tr te' tq:Nat}(hf:fs f=some ⟨19,indexVC st true te ti tb tr te' tq,[.tmp 4],1⟩)(hT:FzT T)(hS:Sl st T a l)(hl:l.length≤1000000000000000)(hfu:l.length<fuel)(hst:0<st)
  {n:Nat} {v:List AV} (hv:∀ y∈v,Fz y) (hvl:v.length=st) {p:α→Bool} {pe:Option AV→AV→AV→Option AV} (hq:∀ {t:List AV} (i j:Nat),pureOp P t (mkO (.binOp .eql te' (.tmp i) (.tmp j) te') tq)=pe (pureD P t (mkO (.binOp .eql te' (.tmp i) (.tmp j) te') tq)) (evalA t (.tmp i)) (evalA t (.tmp j))) (hp:∀ d r x,T r x→x∈l→pe d (.agg v) (.agg r)=some (BL (p x))) (M:Mem) :
  callN P fs fuel (n+1) (.fn f) [a,.agg v] M=some (I64 (posF p l),M):=by
 have ll:=hS.len
 have frw:=fz_rowsAll hv
 have hq:=@hq
 have hvo:v.all oneA=true:=List.all_eq_true.2 fun y hy=>(hv y hy).one
 apply w3_eq
 refine call_gc hf rfl (by simp only[icyL,hS.icy M 12 (by omega),fz_icyA hv (show 1<12 by omega) M]) (by simp) fun b' ht hx=>?_
 have h0:=hx 0 _ rfl
 have h1:=hx 1 _ rfl
 clear hx
 simp only[indexVC] at ht ⊢
 have pv:=part_el (ag:=true) hvl (by simp)
 simp (maxSteps:=2000000) (disch:=first | omega | assumption | (simp only[DS,Nat.reduceAdd, *];done) | (simp only[DZ];omega)) only[RUN,RU,footA,feetIn,resultsA,tupOf,frzL,slot,lay,icyL,fillA,repCells,kR,reduceIte,Nat.reduceEqDiff,Nat.reduceBEq,Nat.reduceLT,Nat.reduceAdd,Nat.reduceLeDiff,Nat.reduceSub,Nat.reduceMul,Int.reduceLT,Int.reduceLE,Int.reduceEq,Int.reduceAdd,Int.reduceSub,Int.reduceMul,h0,h1,ll,hS.fz.rows,hS.fz.one,hS.fz.cells,hS.fz.icy,hS.fz.frz,frw]
 refine w_loop (I:=fun n t N => ∃ (i:Nat),n=l.length - i∧i≤l.length∧nth undefA t 0=a∧nth undefA t 3 = .ptr 0 0∧nth undefA t 6=a∧nth undefA t 7=I64 l.length∧nth undefA t 8=I64 i∧N=mem0.add (.row false v)∧(∀ j (h:j<l.length),j<i→p l[j]=false)) (n:=l.length) (by omega) ?_ ?_
 ·exact zE03
 ·rintro n t N hlt ⟨i,rfl,hi,g0,g3,g6,g7,g8,hm,hj⟩
  simp only[ht] at hlt ⊢
  subst hm
  by_cases hc:i<l.length
  ·have q1:decide ((i:Int)<l.length)=true:=decide_eq_true (by omega)
   have w1:IntKind.i64.wrap ((i:Int)+1)=((i+1:Nat):Int):=by rw[wrap_i64] <;> omega
   obtain⟨r,hr,hev,hlr⟩:=hS.iad i hc
   have p1:=part_el (ag:=true) hlr (by simp)
   have er:=el_rows hT (ag:=true) hlr (by simp) hev
   simp only[elA] at p1 er pv
   have hpp:=fun d=>hp d r l[i] hev (List.getElem_mem hc)
   cases hb:p l[i] with
   | false =>
    rw[hb] at hpp
    simp (maxSteps:=2000000) (disch:=first | omega | assumption | (simp only[DS,Nat.reduceAdd, *];done) | (simp only[DZ];omega)) only[RUN,RU,footA,feetIn,resultsA,tupOf,frzL,slot,lay,icyL,fillA,repCells,kR,reduceIte,Nat.reduceEqDiff,Nat.reduceBEq,Nat.reduceLT,Nat.reduceAdd,Nat.reduceLeDiff,Nat.reduceSub,Nat.reduceMul,Int.reduceLT,Int.reduceLE,Int.reduceEq,Int.reduceAdd,Int.reduceSub,Int.reduceMul,g0,g3,g6,g7,g8,hS.fz.rows,hS.fz.one,hS.fz.cells,hS.fz.icy,hS.fz.frz,q1,w1,hr,p1,er,pv,↓hq,hpp]
    exact zE0k
   | true =>
    rw[hb] at hpp
    have e1:=posF_at hc hb fun j hj'=>hj j (by omega) hj'
    simp (maxSteps:=2000000) (disch:=first | omega | assumption | (simp only[DS,Nat.reduceAdd, *];done) | (simp only[DZ];omega)) only[RUN,RU,footA,feetIn,resultsA,tupOf,frzL,slot,lay,icyL,fillA,repCells,kR,reduceIte,Nat.reduceEqDiff,Nat.reduceBEq,Nat.reduceLT,Nat.reduceAdd,Nat.reduceLeDiff,Nat.reduceSub,Nat.reduceMul,Int.reduceLT,Int.reduceLE,Int.reduceEq,Int.reduceAdd,Int.reduceSub,Int.reduceMul,g0,g3,g6,g7,g8,hS.fz.rows,hS.fz.one,hS.fz.cells,hS.fz.icy,hS.fz.frz,q1,w1,hr,p1,er,pv,↓hq,hpp,e1]
  ·obtain rfl:i=l.length:=by omega
   have q1:decide ((l.length:Int)<l.length)=false:=decide_eq_false (by omega)
   have e1:=posF_no (p:=p) fun j h=>hj j h h
   simp (maxSteps:=2000000) (disch:=first | omega | assumption | (simp only[DS,Nat.reduceAdd, *];done) | (simp only[DZ];omega)) only[RUN,RU,footA,feetIn,resultsA,tupOf,frzL,slot,lay,icyL,fillA,repCells,kR,reduceIte,Nat.reduceEqDiff,Nat.reduceBEq,Nat.reduceLT,Nat.reduceAdd,Nat.reduceLeDiff,Nat.reduceSub,Nat.reduceMul,Int.reduceLT,Int.reduceLE,Int.reduceEq,Int.reduceAdd,Int.reduceSub,Int.reduceMul,g0,g3,g6,g7,g8,q1,e1]
def hasVC (g:FuncId)(st:Nat)(ag:Bool)(te ti tr:TypeId):ACode :=
 (.seq (.region [⟨some 3,.box te (.tmp 1),none,[]⟩,
  ⟨some 4,.mov (.const (.bool false)),none,[]⟩] false)
 (.seq (.region [⟨some 5,.mov (.tmp 0),none,[]⟩,
  ⟨some 6,.load st ag (.tmp 3),none,[]⟩,
  ⟨some 7,.call (.func g) [(.tmp 5),(.tmp 6)],none,[]⟩,
  ⟨some 8,.pur (mkO (.binOp .geq ti (.tmp 7) (.const (.int .i64 0)) ti) tr),none,[]⟩,
  ⟨some 4,.mov (.tmp 8),none,[]⟩] false)
 .ret))
end
structure NK (α β:Type) where
 st:Nat
 H:α→List AV
 f:α→List β
 T:List AV→β→Prop
 ok:α→Prop
 hl:∀ x,(H x).length+1=st
 hz:∀ x,∀ y∈H x,Fz y
 ft:FzT T
namespace NK
variable {α β : Type} (K : NK α β)
def is (r:List AV)(x:α):Prop:=∃ ra,r=K.H x++[ra]∧Sl 1 K.T ra (K.f x)∧K.ok x
theorem fz:FzT K.is:=fun r x h y hy=>by
 obtain⟨ra,rfl,h,_⟩:=h
 rcases List.mem_append.1 hy with hy | hy
 ·exact K.hz x y hy
 ·rw[List.mem_singleton] at hy;subst hy;exact h.fz
def isN (r:List AV)(x:α × AV):Prop:=r=K.H x.1++[x.2]∧oneA x.2=true∧cellsA x.2=[x.2]
def InN (M:Mem)(B:Nat)(x:α × AV):Prop:=SlM M 1 K.T x.2 (K.f x.1)∧(∀ j,rowOf x.2=some j→B≤j)∧K.ok x.1
variable {K} {N : Mem} {B : Nat}
theorem isN.len {r:List AV}{x:α × AV}(h:K.isN r x):r.length=K.st:=by rw[h.1,List.length_append,List.length_singleton];exact K.hl _
theorem InN.keep {x:α × AV}(h:K.InN M B x)(k:∀ j,rowOf x.2=some j→N.get j=M.get j):K.InN N B x:=⟨h.1.keep k,h.2.1,h.2.2⟩
theorem InN.lt {x:α × AV}(h:K.InN M B x):∀ j,rowOf x.2=some j→j<M.size:=h.1.lt
theorem InN.mono {B':Nat}{x:α × AV}(h:K.InN M B x)(hb:B'≤B):K.InN M B' x:=⟨h.1,fun j hj=>Nat.le_trans hb (h.2.1 j hj),h.2.2⟩
theorem isN_one {rows:List (List AV)}{l:List (α × AV)}(h:All2 K.isN rows l):rows.flatten.all oneA=true:=by
 rw[List.all_eq_true]
 induction h with
 | nil=>simp
 | cons a _ ih =>
  intro y hy
  rw[List.flatten_cons,List.mem_append] at hy
  rcases hy with hy | hy
  ·rw[a.1,List.mem_append,List.mem_singleton] at hy
   rcases hy with hy | rfl
   ·exact(K.hz _ _ hy).one
   ·exact a.2.1
  ·exact ih y hy
variable (K) in
def NN (M:Mem)(B:Nat)(o:AV)(l:List α):Prop:=∃ lr:List (α × AV),lr.map (·.1)=l∧SlM M K.st K.isN o lr∧(∀ x∈lr,K.InN M B x)∧(∀ j,rowOf o=some j→B≤j)∧(∀ x∈lr,∀ j,rowOf o=some j→rowOf x.2≠some j)
theorem NN.nil (M:Mem)(B:Nat):K.NN M B NIL []:=⟨[],rfl,SlM.nil,by simp,(fun j h=>by cases h),by simp⟩
theorem NN.keep {o:AV}{l:List α}(h:K.NN M B o l)(k:∀ j,B≤j→j<M.size→N.get j=M.get j):K.NN N B o l:=by
 obtain⟨lr,h1,h2,h3,h4,h5⟩:=h
 exact⟨lr,h1,h2.keep fun j hj=>k j (h4 j hj) (h2.lt j hj),fun x hx=>(h3 x hx).keep fun j hj=>k j ((h3 x hx).2.1 j hj) ((h3 x hx).lt j hj),h4,h5⟩
theorem NN.mono {B':Nat}{o:AV}{l:List α}(h:K.NN M B o l)(hb:B'≤B):K.NN M B' o l:=by
 obtain⟨lr,h1,h2,h3,h4,h5⟩:=h
 exact⟨lr,h1,h2,fun x hx=>(h3 x hx).mono hb,fun j hj=>Nat.le_trans hb (h4 j hj),h5⟩
theorem NN.len {o:AV}{l:List α}(h:K.NN M B o l):∀ N,lenO N o=some (I64 l.length,N):=by
 obtain⟨lr,rfl,h2,_⟩:=h
 intro N
 rw[h2.len N,List.length_map]
theorem NN.one {o:AV}{l:List α}(h:K.NN M B o l):oneA o=true:=by obtain⟨lr,rfl,h2,_⟩:=h;exact h2.one
theorem NN.cells {o:AV}{l:List α}(h:K.NN M B o l):cellsA o=[o]:=by obtain⟨lr,rfl,h2,_⟩:=h;exact h2.cells
theorem NN.rows {o:AV}{l:List α}(h:K.NN M B o l){n:Nat}(hn:M.size≤n):((rowsOf o).all fun i=>Nat.blt i n)=true:=by obtain⟨lr,rfl,h2,_⟩:=h;exact rows_lt h2.rl hn
theorem NN.lt {o:AV}{l:List α}(h:K.NN M B o l):∀ j,rowOf o=some j→B≤j∧j<M.size:=by obtain⟨lr,rfl,h2,_,h4,_⟩:=h;exact fun j hj=>⟨h4 j hj,h2.lt j hj⟩
theorem NN.ok {o:AV}{l:List α}(h:K.NN M B o l):∀ x∈l,K.ok x:=by
 obtain⟨lr,rfl,_,h3,_⟩:=h
 intro x hx
 obtain⟨y,hy,rfl⟩:=List.mem_map.1 hx
 exact(h3 y hy).2.2
theorem NN.app {o ra:AV}{l:List α}{x:α}{by':Nat}{Q:AV→Mem→Prop}(wf:Wf N)(h:K.NN N B o l)(hx:K.isN (K.H x++[ra]) (x,ra))(hi:K.InN N B (x,ra))(hne:∀ j,rowOf o=some j→rowOf ra≠some j)(hb:(l.length+1)*by'≤140737488355328)(hb2:l.length+1≤140737488355328)(hB:B≤N.size)
  (kk:∀ o' M',K.NN M' B o' (l++[x])→Wf M'→N.size≤M'.size→(∀ j,j<N.size→rowOf o≠some j→M'.get j=N.get j)→(∀ id,rowOf o'=some id→rowOf o=some id∨N.size≤id)→M'.wm=N.wm→Q o' M'):W3 (appO (N.add (.row false (K.H x++[ra]))) K.st by' o (.sl N.size 0 1 (some 1) K.st)) Q:=by
 obtain⟨lr,rfl,h2,h3,h4,h5⟩:=h
 rw[List.length_map] at hb hb2
 have g:=get_add_new wf (.row false (K.H x++[ra])) N.size (Nat.le_refl _) (Nat.lt_succ_self _)
 have hA:All2 K.isN [K.H x++[ra]] [(x,ra)]:=.cons hx .nil
 have h':SlM (N.add (.row false (K.H x++[ra]))) K.st K.isN o lr:=h2.keep fun j hj=>get_add wf _ _ (h2.lt j hj)
 have hlen:(K.H x++[ra]).length=K.st:=isN.len hx
 have hst:0<K.st:=by rw[← K.hl x];omega
 obtain⟨o',M',e,m,w,le,le2,kp,nw,wm⟩:=h'.appO (wf.add _) (y:=.sl N.size 0 1 (some 1) K.st) (l':=[(x,ra)]) (new:=[K.H x++[ra]]) (bytes:=by') (by rw[cells_lit g (by rw[hlen];omega)];simp) rfl hA (by simp only[List.mem_singleton,forall_eq];exact hlen) (isN_one hA) hst (by simpa using hb) (by simpa using hb2)
 rw[add_size] at le kp nw
 have kp':∀ j,j<N.size→rowOf o≠some j→M'.get j=N.get j:=fun j hj hj2=>by rw[kp j (by omega) hj2,get_add wf _ _ hj]
 refine⟨o',M',e,kk o' M' ⟨lr++[(x,ra)],by simp,m,fun y hy=>?_,fun j hj=>?_,fun y hy j hj=>?_⟩ w (by omega) kp' (fun id hid=>(nw id hid).imp (fun h=>h) (fun h=>by omega)) wm⟩
 ·exact zE0d
 ·rcases nw j hj with h | h
  ·exact h4 j h
  ·omega
 ·exact zE08
end NK
theorem frzL_app {f:AV→Option AV}:∀ {a b a' b':List AV},frzL f a=some a'→frzL f b=some b'→frzL f (a++b)=some (a'++b')
 | [],b,a',b',h1,h2=>by
  simp only[frzL,Option.some.injEq] at h1
  subst h1
  exact h2
 | x::a,b,a',b',h1,h2=>by
  simp only[frzL] at h1
  split at h1
  ·rename_i y hy
   split at h1
   ·rename_i r hr
    simp only[Option.some.injEq] at h1
    subst h1
    simp only[List.cons_append,frzL,hy,frzL_app hr h2]
   ·cases h1
  ·cases h1
theorem icyL_app {f:Mem→AV→Option (AV × Mem)}:∀ {a b a' b':List AV} {M N K:Mem},icyL f M a=some (a',N)→icyL f N b=some (b',K)→icyL f M (a++b)=some (a'++b',K)
 | [],b,a',b',M,N,K,h1,h2=>by
  simp only[icyL,Option.some.injEq,Prod.mk.injEq] at h1
  obtain⟨rfl,rfl⟩:=h1
  exact h2
 | x::a,b,a',b',M,N,K,h1,h2=>by
  simp only[icyL] at h1
  split at h1
  ·rename_i y M1 hy
   split at h1
   ·rename_i r M2 hr
    simp only[Option.some.injEq,Prod.mk.injEq] at h1
    obtain⟨rfl,rfl⟩:=h1
    simp only[List.cons_append,icyL,hy,icyL_app hr h2]
   ·cases h1
  ·cases h1
namespace NK
variable {α β : Type} {K : NK α β} {N : Mem} {B : Nat}
theorem InN.frz {x:α × AV}(h:K.InN M B x){k:Nat}(hk:1<k):∃ ra,(∀ N:Mem,(∀ j,rowOf x.2=some j→N.get j=M.get j)→frzL (Go.Ax.frz N 0 k) (K.H x.1++[x.2])=some (K.H x.1++[ra]))∧Sl 1 K.T ra (K.f x.1):=by
 obtain⟨ra,b1,f1⟩:=slm_frz2 h.1 K.ft.cel k hk
 refine⟨ra,fun N hN=>?_,b1⟩
 refine frzL_app (fz_frzL (by omega) N (K.hz x.1)) ?_
 simp only[frzL,f1 N hN]
theorem rows_frz {k:Nat}(hk:1<k):∀ {rows:List (List AV)} {lr:List (α × AV)},All2 K.isN rows lr→(∀ x∈lr,K.InN M B x) →
  ∃ rows',(∀ N:Mem,(∀ j,B≤j→N.get j=M.get j)→frzL (Go.Ax.frz N 0 k) rows.flatten=some rows'.flatten)∧All2 K.is rows' (lr.map (·.1))∧(∀ r∈rows',r.length=K.st)
 | _,_,.nil,_=>⟨[],fun _ _=>rfl,.nil,by simp⟩
 | _,_,.cons (y:=x) (m:=lr) a t,h=>by
  have hx:=h x (by simp)
  obtain⟨ra,i1,b1⟩:=hx.frz hk
  obtain⟨rows',i2,hA,hl⟩:=rows_frz hk t fun y hy=>h y (by simp [hy])
  obtain⟨rfl,_⟩:=a
  refine⟨(K.H x.1++[ra])::rows',fun N hN=>?_,.cons ⟨ra,rfl,b1,hx.2.2⟩ hA, ?_⟩
  ·rw[List.flatten_cons,List.flatten_cons]
   exact frzL_app (i1 N fun j hj=>hN j (hx.2.1 j hj)) (i2 N hN)
  ·exact zE0b
theorem NN.frz {o:AV}{l:List α}(h:K.NN M B o l){k:Nat}(hk:1<k):∃ o',(∀ N:Mem,(∀ j,B≤j→N.get j=M.get j)→Go.Ax.frz N 0 (k+1) o=some o')∧Sl K.st K.is o' l:=by
 obtain⟨lr,rfl,h2,h3,h4,_⟩:=h
 rcases h2 with⟨rfl,rfl⟩ | ⟨id,rows,cap,rfl,_,hg,hA,hr⟩
 ·exact⟨NIL,fun _ _=>rfl,.inl ⟨rfl,rfl⟩⟩
 ·obtain⟨rows',i1,hA',hl'⟩:=rows_frz (k:=k) hk hA h3
  have hfl:=flat_len hr
  have hfl':=flat_len hl'
  have hn:rows'.length=rows.length:=by rw[hA'.length_eq,List.length_map,hA.length_eq]
  have hble:Nat.ble (0+rows.length*K.st) rows.flatten.length=true:=ble_t (by omega)
  have hsl:slot rows'.flatten 0 (rows.length*K.st)=rows'.flatten:=slot_all _ _ (by rw[hfl',hn])
  refine⟨.pv rows'.flatten rows.length cap K.st,fun N hN=>?_,.inr ⟨rows',cap,by rw[hn],hA',hl'⟩⟩
  simp only[Go.Ax.frz,rd_row ((hN id (h4 id rfl)).trans hg),hble,i1 N hN,hsl,Nat.ble_eq_true_of_le (Nat.zero_le id)]
def Rd1 {β:Type}(M:Mem)(T:List AV→β→Prop)(v:AV)(l:List β):Prop :=
 (v=NIL∧l=[]) ∨ ∃ (id:Nat) (rows:List (List AV)) (cap:Option Nat),v = .sl id 0 rows.length cap 1∧M.rd id=some rows.flatten∧All2 T rows l ∧ ∀ r∈rows,r.length=1
theorem Rd1.of {T:List AV→β→Prop}{v:AV}{l:List β}(h:SlM M 1 T v l):Rd1 M T v l:=by
 rcases h with h | ⟨id,rows,cap,rfl,_,hg,hA,hr⟩
 ·exact .inl h
 ·exact .inr ⟨id,rows,cap,rfl,rd_row hg,hA,hr⟩
theorem Rd1.keep {T:List AV→β→Prop}{v:AV}{l:List β}(h:Rd1 M T v l)(k:∀ j,N.rd j=M.rd j):Rd1 N T v l:=by
 rcases h with h | ⟨id,rows,cap,rfl,hg,hA,hr⟩
 ·exact .inl h
 ·exact .inr ⟨id,rows,cap,rfl,(k id).trans hg,hA,hr⟩
theorem rd_fro {id:Nat}{ds:List AV}{b:Bool}(wf:Wf M)(hg:M.get id=some (.row b ds)):∀ j,(M.upd id (.fro ds)).rd j=M.rd j:=by
 intro j
 have lid:=Mem.get_lt hg
 by_cases e:id=j
 ·subst e
  rw[rd_get,rd_get,get_upd_eq wf _ _ lid,hg];rfl
 ·rw[rd_get,rd_get,get_upd_ne wf _ _ _ e]
theorem Rd1.icy {T:List AV→β→Prop}{v:AV}{l:List β}(h:Rd1 M T v l)(wf:Wf M)(hT:FzT T){k:Nat}(hk:1<k):∃ v' M',Go.Ax.icy k M v=some (v',M')∧Sl 1 T v' l∧Wf M'∧M'.size=M.size ∧ ∀ j,M'.rd j=M.rd j:=by
 obtain⟨k,rfl⟩:∃ j,k=j+1:=⟨k - 1,by omega⟩
 rcases h with⟨rfl,rfl⟩ | ⟨id,rows,cap,rfl,hg,hA,hr⟩
 ·exact⟨NIL,M,rfl,.inl ⟨rfl,rfl⟩,wf,rfl,fun _=>rfl⟩
 ·have hfl:=flat_len hr
  have hcs:∀ N,icyL (Go.Ax.icy k) N rows.flatten=some (rows.flatten,N):=icyL_same (by omega) fun x hx N=>hT.celI.flat hA x hx N k (by omega)
  have hble:Nat.ble (0+rows.length*1) rows.flatten.length=true:=ble_t (by omega)
  have hsl:slot rows.flatten 0 (rows.length*1)=rows.flatten:=slot_all _ _ hfl.symm
  have hrd:=hg
  rw[rd_get] at hrd
  cases ho:M.get id with
  | none=>rw[ho] at hrd;cases hrd
  | some x =>
   rw[ho] at hrd
   cases x with
   | row b ds =>
    have e:ds=rows.flatten:=by simpa [rd1] using hrd
    subst e
    exact⟨_,M.upd id (.fro rows.flatten),by simp only[Go.Ax.icy,hg,hble,hcs,ho,put_upd wf (Mem.get_lt ho),hsl],.inr ⟨rows,cap,rfl,hA,hr⟩,wf.upd _ _,rfl,rd_fro wf ho⟩
   | fro ds=>exact⟨_,M,by simp only[Go.Ax.icy,hg,hble,hcs,ho,hsl],.inr ⟨rows,cap,rfl,hA,hr⟩,wf,rfl,fun _=>rfl⟩
   | _=>simp [rd1] at hrd
theorem rows_icy {k:Nat}(hk:1<k):∀ {rows:List (List AV)} {lr:List (α × AV)} {M:Mem},All2 K.isN rows lr→Wf M→(∀ x∈lr,Rd1 M K.T x.2 (K.f x.1)∧K.ok x.1) →
  ∃ rows' M',icyL (Go.Ax.icy k) M rows.flatten=some (rows'.flatten,M')∧All2 K.is rows' (lr.map (·.1))∧(∀ r∈rows',r.length=K.st)∧Wf M'∧M'.size=M.size ∧ ∀ j,M'.rd j=M.rd j
 | _,_,M,.nil,wf,_=>⟨[],M,rfl,.nil,by simp,wf,rfl,fun _=>rfl⟩
 | _,_,M,.cons (y:=x) (m:=lr) a t,wf,h=>by
  obtain⟨ra,M1,i1,b1,w1,s1,r1⟩:=(h x (by simp)).1.icy wf K.ft hk
  obtain⟨rows',M2,i2,hA,hl,w2,s2,r2⟩:=rows_icy hk t w1 fun y hy=>⟨(h y (by simp [hy])).1.keep r1,(h y (by simp [hy])).2⟩
  obtain⟨rfl,_⟩:=a
  refine⟨(K.H x.1++[ra])::rows',M2, ?_,.cons ⟨ra,rfl,b1,(h x (by simp)).2⟩ hA, ?_,w2,s2.trans s1,fun j=>(r2 j).trans (r1 j)⟩
  ·rw[List.flatten_cons,List.flatten_cons]
   refine icyL_app (icyL_app (fz_icyL (by omega) M (K.hz x.1)) ?_) i2
   simp only[icyL,i1]
  ·exact zE0b
theorem NN.icyk {o:AV}{l:List α}(h:K.NN M B o l)(wf:Wf M){k:Nat}(hk:1<k):∃ o' M',Go.Ax.icy (k+1) M o=some (o',M')∧Sl K.st K.is o' l:=by
 obtain⟨lr,rfl,h2,h3,_,_⟩:=h
 rcases h2 with⟨rfl,rfl⟩ | ⟨id,rows,cap,rfl,_,hg,hA,hr⟩
 ·exact⟨NIL,M,rfl,.inl ⟨rfl,rfl⟩⟩
 ·obtain⟨rows',M1,i1,hA',hl',w1,s1,r1⟩:=rows_icy (k:=k) hk hA wf fun x hx=>⟨Rd1.of (h3 x hx).1,(h3 x hx).2.2⟩
  have hfl:=flat_len hr
  have hfl':=flat_len hl'
  have hn:rows'.length=rows.length:=by rw[hA'.length_eq,List.length_map,hA.length_eq]
  have hrd:=(r1 id).trans (rd_row hg)
  have hble:Nat.ble (0+rows.length*K.st) rows.flatten.length=true:=ble_t (by omega)
  have hsl:slot rows'.flatten 0 (rows.length*K.st)=rows'.flatten:=slot_all _ _ (by rw[hfl',hn])
  have hsl':Sl K.st K.is (.pv rows'.flatten rows.length cap K.st) (lr.map (·.1)):=.inr ⟨rows',cap,by rw[hn],hA',hl'⟩
  rw[rd_get] at hrd
  cases ho:M1.get id with
  | none=>rw[ho] at hrd;cases hrd
  | some x =>
   rw[ho] at hrd
   cases x with
   | row b ds=>exact⟨_,M1.upd id (.fro ds),by simp only[Go.Ax.icy,rd_row hg,hble,i1,ho,put_upd w1 (Mem.get_lt ho),hsl],hsl'⟩
   | fro ds=>exact⟨_,M1,by simp only[Go.Ax.icy,rd_row hg,hble,i1,ho,hsl],hsl'⟩
   | _=>simp [rd1] at hrd
theorem NN.icy {o:AV}{l:List α}(h:K.NN M B o l)(wf:Wf M):∃ o' M',Go.Ax.icy 12 M o=some (o',M')∧Sl K.st K.is o' l:=h.icyk wf (k:=11) (by omega)
end NK
structure Kept (M N:Mem):Prop where
 wf:Wf N
 le:M.size≤N.size
 get:∀ j,j<M.size→N.get j=M.get j
 wm:N.wm=M.wm
 di:N.dirty=M.dirty
theorem Kept.refl {M:Mem}(wf:Wf M):Kept M M:=⟨wf,Nat.le_refl _,fun _ _=>rfl,rfl,rfl⟩
theorem Kept.trans {M N K:Mem}(h:Kept M N)(k:Kept N K):Kept M K :=
 ⟨k.wf,Nat.le_trans h.le k.le,fun j hj=>(k.get j (Nat.lt_of_lt_of_le hj h.le)).trans (h.get j hj),k.wm.trans h.wm,k.di.trans h.di⟩
theorem Kept.add {M N:Mem}(h:Kept M N)(o:AObj):Kept M (N.add o) :=
 ⟨h.wf.add _,by rw[add_size];have:=h.le;omega,fun j hj=>by rw[get_add h.wf _ _ (by have:=h.le;omega)];exact h.get j hj,h.wm,h.di⟩
theorem Kept.upd {M N:Mem}(h:Kept M N)(hw:M.wm≤M.size){i:Nat}(hi:M.size≤i)(o:AObj):Kept M (N.upd i o):=by
 refine⟨h.wf.upd _ _,by rw[upd_size];exact h.le,fun j hj=>by rw[get_upd_ne h.wf _ _ _ (by omega)];exact h.get j hj,h.wm, ?_⟩
 show (N.dirty || Nat.blt i N.wm)=M.dirty
 have hb:Nat.blt i N.wm=false:=by
  rw[h.wm];exact(blt_false _ _).2 (by omega)
 rw[hb,h.di,Bool.or_false]
variable {α : Type} {T : List AV → α → Prop} {st : Nat} {ag : Bool} {a : AV} {l : List α}
theorem index_0 {f ti tb tr:Nat}(hf:fs f=some ⟨19,indexC st ag ti tb tr,[.tmp 4],0⟩)(h1':ag=false→st=1)(hT:FzT T)(hS:Sl st T a l)(hl:l.length≤1000000000000000)(hfu:l.length<fuel)
  {n:Nat} {g:FuncId} {first cap:List AV} {p:α→Bool} {M:Mem} {Q:AV→Mem→Prop} (wf:Wf M) (hr:∀ N,M.size≤N→((rowsOf (.fn g first cap)).all fun i=>Nat.blt i N)=true)
  (hp:∀ r x,T r x→x∈l → ∀ N Q',Kept M N→(∀ N',Kept M N'→Q' (BL (p x)) N')→W3 (callN P fs fuel n (.fn g) (first++[elA ag r]++cap) N) Q')
  (k:∀ N,Kept M N→Q (I64 (posF p l)) N):W3 (callN P fs fuel (n+1) (.fn f) [a,.fn g first cap] M) Q:=by
 have ll:=hS.len
 simp only[ro_fn] at hr
 refine call_0 hf rfl (by simp) fun b' ht hx=>?_
 have h0:=hx 0 _ rfl
 have h1:=hx 1 _ rfl
 clear hx
 simp only[indexC] at ht ⊢
 simp (maxSteps:=2000000) (disch:=first | omega | assumption | (simp only[DS,Nat.reduceAdd, *];done) | (simp only[DZ];omega)) only[RUN,RU,footA,feetIn,resultsA,tupOf,frzL,slot,lay,icyL,fillA,repCells,kR,reduceIte,Nat.reduceEqDiff,Nat.reduceBEq,Nat.reduceLT,Nat.reduceAdd,Nat.reduceLeDiff,Nat.reduceSub,Nat.reduceMul,Int.reduceLT,Int.reduceLE,Int.reduceEq,Int.reduceAdd,Int.reduceSub,Int.reduceMul,h0,h1,ll,hS.fz.rows,hS.fz.one,hS.fz.cells,hS.fz.icy,hS.fz.frz]
 refine w_loop (I:=fun n t N => ∃ (i:Nat),n=l.length - i∧i≤l.length∧nth undefA t 0=a∧nth undefA t 1 = .fn g first cap∧nth undefA t 6=a∧nth undefA t 7=I64 l.length∧nth undefA t 8=I64 i∧Kept M N∧(∀ j (h:j<l.length),j<i→p l[j]=false)) (n:=l.length) (by omega) ?_ ?_
 ·refine⟨0,rfl,Nat.zero_le _, ?_, ?_, ?_, ?_, ?_,Kept.refl wf,(fun _ _ h=>absurd h (by omega))⟩ <;> simp (maxSteps:=2000000) (disch:=first | omega | assumption | (simp only[DS,Nat.reduceAdd, *];done) | (simp only[DZ];omega)) only[RUN,RU,footA,feetIn,resultsA,tupOf,frzL,slot,lay,icyL,fillA,repCells,kR,reduceIte,Nat.reduceEqDiff,Nat.reduceBEq,Nat.reduceLT,Nat.reduceAdd,Nat.reduceLeDiff,Nat.reduceSub,Nat.reduceMul,Int.reduceLT,Int.reduceLE,Int.reduceEq,Int.reduceAdd,Int.reduceSub,Int.reduceMul,h0,h1,ll]
  all_goals first | rfl | assumption | done
 ·rintro n t N hlt ⟨i,rfl,hi,g0,g1,g6,g7,g8,hk,hj⟩
  simp only[ht] at hlt ⊢
  by_cases hc:i<l.length
  ·have q1:decide ((i:Int)<l.length)=true:=decide_eq_true (by omega)
   have w1:IntKind.i64.wrap ((i:Int)+1)=((i+1:Nat):Int):=by rw[wrap_i64] <;> omega
   obtain⟨r,hr',hev,hlr⟩:=hS.iad i hc
   have p1:=part_el (ag:=ag) hlr h1'
   have er:=el_rows hT (ag:=ag) hlr h1' hev
   have hpp:=hp r l[i] hev (List.getElem_mem hc)
   have frw:=hr N.size hk.le
   cases hb:p l[i] with
   | false =>
    rw[hb] at hpp
    simp (maxSteps:=2000000) (disch:=first | omega | assumption | (simp only[DS,Nat.reduceAdd, *];done) | (simp only[DZ];omega)) only[RUN,RU,footA,feetIn,resultsA,tupOf,frzL,slot,lay,icyL,fillA,repCells,kR,reduceIte,Nat.reduceEqDiff,Nat.reduceBEq,Nat.reduceLT,Nat.reduceAdd,Nat.reduceLeDiff,Nat.reduceSub,Nat.reduceMul,Int.reduceLT,Int.reduceLE,Int.reduceEq,Int.reduceAdd,Int.reduceSub,Int.reduceMul,g0,g1,g6,g7,g8,hS.fz.rows,hS.fz.one,hS.fz.cells,hS.fz.icy,hS.fz.frz,frw,q1,hr',p1,er]
    refine hpp N _ hk fun N' hk'=>?_
    simp (maxSteps:=2000000) (disch:=first | omega | assumption | (simp only[DS,Nat.reduceAdd, *];done) | (simp only[DZ];omega)) only[RUN,RU,footA,feetIn,resultsA,tupOf,frzL,slot,lay,icyL,fillA,repCells,kR,reduceIte,Nat.reduceEqDiff,Nat.reduceBEq,Nat.reduceLT,Nat.reduceAdd,Nat.reduceLeDiff,Nat.reduceSub,Nat.reduceMul,Int.reduceLT,Int.reduceLE,Int.reduceEq,Int.reduceAdd,Int.reduceSub,Int.reduceMul,g0,g1,g6,g7,g8,w1]
    exact⟨hlt,l.length - (i+1),by omega,i+1,rfl,by omega,rfl,hk',fun j h hj'=>by
     rcases Nat.lt_succ_iff_lt_or_eq.1 hj' with h' | rfl
     ·exact hj j h h'
     ·exact hb⟩
   | true =>
    rw[hb] at hpp
    have e1:=posF_at hc hb fun j hj'=>hj j (by omega) hj'
    rw[e1] at k
    simp (maxSteps:=2000000) (disch:=first | omega | assumption | (simp only[DS,Nat.reduceAdd, *];done) | (simp only[DZ];omega)) only[RUN,RU,footA,feetIn,resultsA,tupOf,frzL,slot,lay,icyL,fillA,repCells,kR,reduceIte,Nat.reduceEqDiff,Nat.reduceBEq,Nat.reduceLT,Nat.reduceAdd,Nat.reduceLeDiff,Nat.reduceSub,Nat.reduceMul,Int.reduceLT,Int.reduceLE,Int.reduceEq,Int.reduceAdd,Int.reduceSub,Int.reduceMul,g0,g1,g6,g7,g8,hS.fz.rows,hS.fz.one,hS.fz.cells,hS.fz.icy,hS.fz.frz,frw,q1,hr',p1,er]
    refine hpp N _ hk fun N' hk'=>?_
    simp (maxSteps:=2000000) (disch:=first | omega | assumption | (simp only[DS,Nat.reduceAdd, *];done) | (simp only[DZ];omega)) only[RUN,RU,footA,feetIn,resultsA,tupOf,frzL,slot,lay,icyL,fillA,repCells,kR,reduceIte,Nat.reduceEqDiff,Nat.reduceBEq,Nat.reduceLT,Nat.reduceAdd,Nat.reduceLeDiff,Nat.reduceSub,Nat.reduceMul,Int.reduceLT,Int.reduceLE,Int.reduceEq,Int.reduceAdd,Int.reduceSub,Int.reduceMul,g0,g1,g6,g7,g8]
    exact k _ hk'
  ·obtain rfl:i=l.length:=by omega
   have q1:decide ((l.length:Int)<l.length)=false:=decide_eq_false (by omega)
   have e1:=posF_no (p:=p) fun j h=>hj j h h
   rw[e1] at k
   simp (maxSteps:=2000000) (disch:=first | omega | assumption | (simp only[DS,Nat.reduceAdd, *];done) | (simp only[DZ];omega)) only[RUN,RU,footA,feetIn,resultsA,tupOf,frzL,slot,lay,icyL,fillA,repCells,kR,reduceIte,Nat.reduceEqDiff,Nat.reduceBEq,Nat.reduceLT,Nat.reduceAdd,Nat.reduceLeDiff,Nat.reduceSub,Nat.reduceMul,Int.reduceLT,Int.reduceLE,Int.reduceEq,Int.reduceAdd,Int.reduceSub,Int.reduceMul,g0,g1,g6,g7,g8,q1]
   exact k _ hk
theorem has_0 {f f' ti tb tr ti' tr':Nat}(hf':fs f'=some ⟨9,hasC f ti' tr',[.tmp 4],0⟩)(hf:fs f=some ⟨19,indexC st ag ti tb tr,[.tmp 4],0⟩)(h1':ag=false→st=1)(hT:FzT T)(hS:Sl st T a l)(hl:l.length≤1000000000000000)(hfu:l.length<fuel)
  {n:Nat} {g:FuncId} {first cap:List AV} {p:α→Bool} {M:Mem} {Q:AV→Mem→Prop} (wf:Wf M) (hr:∀ N,M.size≤N→((rowsOf (.fn g first cap)).all fun i=>Nat.blt i N)=true)
  (hp:∀ r x,T r x→x∈l → ∀ N Q',Kept M N→(∀ N',Kept M N'→Q' (BL (p x)) N')→W3 (callN P fs fuel n (.fn g) (first++[elA ag r]++cap) N) Q')
  (k:∀ N,Kept M N→Q (BL (l.any p)) N):W3 (callN P fs fuel (n+2) (.fn f') [a,.fn g first cap] M) Q:=by
 have e:=posF_any p l
 have frw:=hr M.size (Nat.le_refl _)
 simp only[ro_fn] at frw
 refine call_0 hf' rfl (by simp) fun b' ht hx=>?_
 have h0:=hx 0 _ rfl
 have h1:=hx 1 _ rfl
 clear hx
 simp only[hasC] at ht ⊢
 simp (maxSteps:=2000000) (disch:=first | omega | assumption | (simp only[DS,Nat.reduceAdd, *];done) | (simp only[DZ];omega)) only[RUN,RU,footA,feetIn,resultsA,tupOf,frzL,slot,lay,icyL,fillA,repCells,kR,reduceIte,Nat.reduceEqDiff,Nat.reduceBEq,Nat.reduceLT,Nat.reduceAdd,Nat.reduceLeDiff,Nat.reduceSub,Nat.reduceMul,Int.reduceLT,Int.reduceLE,Int.reduceEq,Int.reduceAdd,Int.reduceSub,Int.reduceMul,h0,h1,hS.fz.rows,hS.fz.one,hS.fz.cells,hS.fz.icy,hS.fz.frz,frw]
 refine index_0 hf h1' hT hS hl hfu wf hr hp fun N hk=>?_
 simp (maxSteps:=2000000) (disch:=first | omega | assumption | (simp only[DS,Nat.reduceAdd, *];done) | (simp only[DZ];omega)) only[RUN,RU,footA,feetIn,resultsA,tupOf,frzL,slot,lay,icyL,fillA,repCells,kR,reduceIte,Nat.reduceEqDiff,Nat.reduceBEq,Nat.reduceLT,Nat.reduceAdd,Nat.reduceLeDiff,Nat.reduceSub,Nat.reduceMul,Int.reduceLT,Int.reduceLE,Int.reduceEq,Int.reduceAdd,Int.reduceSub,Int.reduceMul,h0,h1,e]
 exact k N hk
set_option linter.unusedSectionVars false
def idxO (M:Mem)(len st:Nat)(ag:Bool)(x:AV)(i:Option Nat):OR:=match i with
 | some n=>match Nat.blt n len with
  | true=>match x with
   | .agg l=>match part l (n*st) st ag with | some v=>some (v,M) | none=>none
   | .sc (.agg cs)=>match part (cs.toList.map .sc) (n*st) st ag with | some v=>some (v,M) | none=>none
   | _=>none
  | false=>none
 | none=>none
theorem x_idx (len st:Nat)(ag:Bool)(x i:Operand):execOpA P call t M (.idx len st ag x i)=idxO M len st ag (evalA t x) (natOf (evalA t i)):=by
 simp only[execOpA]
 unfold idxO
 cases natOf (evalA t i) with
 | none=>rfl
 | some n =>
  cases Nat.blt n len with
  | false=>rfl
  | true =>
   cases evalA t x with
   | sc v=>cases v <;> rfl
   | _=>rfl
theorem idx_agg (len st:Nat)(ag:Bool)(l:List AV)(n:Nat)(h:n<len):idxO M len st ag (.agg l) (some n)=(match part l (n*st) st ag with | some v=>some (v,M) | none=>none):=by
 simp only[idxO,(blt_iff _ _).2 h]
structure KeyT (P:Program) (kt:TypeId) {α:Type} [DecidableEq α] (A:α→AV) where
 val:α→Value
 hval:∀ x,toVal (A x)=some (val x)
 ck:∀ b x,(pureRun P (Instr.checkKey b 10000 kt (val x))).isSome=true
 eq:∀ x y,pureRun P (Op.equal kt (val x) (val y))=some (decide (x=y))
 same:∀ x,Instr.sameBits 10000 (val x) (val x)=true
section
variable {kt : TypeId} [DecidableEq α] {A : α → AV} (K : KeyT P kt A)
def IsSet (A:α→AV)(v:AV)(o:AObj)(l:List α):Prop:=∃ es c,o = .map es c∧es.map (fun e=>(e.1,e.2.1))=l.map fun x=>(A x,v)
theorem IsSet.nil (A:α→AV)(v:AV):IsSet A v (.map [] 0) []:=⟨[],0,rfl,rfl⟩
theorem find_in {v:AV}:∀ {es:List (AV × AV × Nat)} {l:List α} (i:Nat),es.map (fun e=>(e.1,e.2.1))=l.map (fun x=>(A x,v)) → ∀ {x:α},x∈l → ∃ j n,findA P kt (K.val x) es i=some (some (i+j,A x,v,n))∧es[j]? = some (A x,v,n)
 | [],l,i,h,x,hx=>by
  cases l with
  | nil=>cases hx
  | cons _ _=>cases h
 | e::es,[],i,h,x,hx=>by cases hx
 | e::es,y::l,i,h,x,hx=>by
  simp only[List.map_cons,List.cons.injEq,Prod.mk.injEq] at h
  obtain⟨⟨h1,h2⟩,h3⟩:=h
  obtain⟨k',v',n⟩:=e
  simp only at h1 h2
  subst h1 h2
  simp only[findA,K.hval,K.eq]
  by_cases q:x=y
  ·subst q
   simp only[decide_true]
   exact⟨0,n,rfl,rfl⟩
  ·rw[decide_eq_false q]
   rcases List.mem_cons.1 hx with rfl | hx
   ·exact absurd rfl q
   ·obtain⟨j,n,h4,h5⟩:=find_in (i+1) h3 hx
    exact⟨j+1,n,by rw[h4,show i+1+j=i+(j+1) by omega],h5⟩
theorem find_out {v:AV}:∀ {es:List (AV × AV × Nat)} {l:List α} (i:Nat),es.map (fun e=>(e.1,e.2.1))=l.map (fun x=>(A x,v)) → ∀ {x:α},x ∉ l→findA P kt (K.val x) es i=some none
 | [],l,i,h,x,hx=>rfl
 | e::es,[],i,h,x,hx=>by cases h
 | e::es,y::l,i,h,x,hx=>by
  simp only[List.map_cons,List.cons.injEq,Prod.mk.injEq] at h
  obtain⟨⟨h1,h2⟩,h3⟩:=h
  obtain⟨k',v',n⟩:=e
  simp only at h1 h2
  subst h1 h2
  have q:x≠y:=fun e=>hx (by rw[e];exact List.mem_cons_self ..)
  simp only[findA,K.hval,K.eq,decide_eq_false q]
  exact find_out (i+1) h3 fun h=>hx (List.mem_cons_of_mem _ h)
def lkO (P:Program)(kt:TypeId)(z:Value)(ok:Bool)(M:Mem)(m k:AV):OR:=match toVal k with
 | some kv=>match m with
  | .sc (.map none)=>match pureRun P (Instr.checkKey true 10000 kt kv) with
   | some _=>some (okA ok (.sc z) false,M)
   | none=>none
  | .mp id=>match M.get id with
   | some (.map es _)=>match pureRun P (Instr.checkKey es.isEmpty 10000 kt kv) with
    | some _=>match findA P kt kv es 0 with
     | some (some (_,_,v,_))=>some (okA ok v true,M)
     | some none=>some (okA ok (.sc z) false,M)
     | none=>none
    | none=>none
   | _=>none
  | _=>none
 | none=>none
theorem x_lk (kt:TypeId)(z:Value)(m k:Operand)(ok:Bool):execOpA P call t M (.lookup kt z m k ok)=lkO P kt z ok M (evalA t m) (evalA t k):=by
 simp only[execOpA]
 unfold lkO
 cases toVal (evalA t k) with
 | none=>rfl
 | some kv =>
  cases evalA t m with
  | sc v=>cases v with
   | map r=>cases r <;> rfl
   | _=>rfl
  | _=>rfl
include K in
theorem lk_set {id:Nat}{o:AObj}{l:List α}{v:AV}{z:Value}(hg:M.get id=some o)(h:IsSet A v o l)(x:α):lkO P kt z false M (.mp id) (A x)=some (if x∈l then v else .sc z,M):=by
 obtain⟨es,c,rfl,he⟩:=h
 obtain⟨u,hu⟩:=Option.isSome_iff_exists.1 (K.ck es.isEmpty x)
 simp only[lkO,K.hval,hg,hu]
 by_cases q:x∈l
 ·obtain⟨j,n,h1,_⟩:=find_in K 0 he q
  rw[h1,if_pos q]
  rfl
 ·rw[find_out K 0 he q,if_neg q]
  rfl
def muO (P:Program)(kt:TypeId)(M:Mem)(m k v:AV):OR:=match toVal k with
 | some kv=>match m with
  | .mp id=>match M.get id with
   | some (.map es clock)=>match pureRun P (Instr.checkKey false 10000 kt kv) with
    | some _=>match findA P kt kv es 0 with
     | some (some (i,k',_,n))=>match toVal k' with
      | some kv'=>match Instr.sameBits 10000 kv' kv with
       | true=>match M.put id (.map (setNth (k,v,n) es i) clock) with
        | some M=>some (undefA,M)
        | none=>none
       | false=>none
      | none=>none
     | some none=>match M.put id (.map (es++[(k,v,clock)]) (clock+1)) with
      | some M=>some (undefA,M)
      | none=>none
     | none=>none
    | none=>none
   | _=>none
  | _=>none
 | none=>none
theorem x_mu (kt:TypeId)(m k v:Operand):execOpA P call t M (.mupd kt m k v)=muO P kt M (evalA t m) (evalA t k) (evalA t v):=by
 simp only[execOpA]
 unfold muO
 cases toVal (evalA t k) with
 | none=>rfl
 | some kv=>cases evalA t m <;> rfl
theorem setNth_same {β:Type}:∀ {es:List β} {j:Nat} {e:β},es[j]? = some e→setNth e es j=es
 | [],_,_,h=>by cases h
 | a::es,0,e,h=>by cases h;rfl
 | a::es,j+1,e,h=>by
  simp only[setNth]
  rw[setNth_same (es:=es) (j:=j) h]
include K in
theorem mu_set {id:Nat}{o:AObj}{l:List α}{v:AV}(wf:Wf M)(hi:id<M.size)(hg:M.get id=some o)(h:IsSet A v o l)(x:α){Q:AV→Mem→Prop}(k:∀ o',IsSet A v o' (if x∈l then l else l++[x])→Q undefA (M.upd id o')):W3 (muO P kt M (.mp id) (A x) v) Q:=by
 obtain⟨es,c,rfl,he⟩:=h
 obtain⟨u,hu⟩:=Option.isSome_iff_exists.1 (K.ck false x)
 simp only[muO,K.hval,hg,hu]
 by_cases q:x∈l
 ·obtain⟨j,n,h1,h2⟩:=find_in K 0 he q
  rw[if_pos q] at k
  simp only[h1,Nat.zero_add,K.hval,K.same,setNth_same h2,put_upd wf hi]
  rw[w3_some]
  exact k _ ⟨es,c,rfl,he⟩
 ·rw[if_neg q] at k
  simp only[find_out K 0 he q,put_upd wf hi]
  rw[w3_some]
  exact k _ ⟨es++[(A x,v,c)],c+1,rfl,by simp [he]⟩
def mlO (M:Mem)(m:AV):OR:=match m with
 | .sc (.map none)=>some (.sc (goInt 0),M)
 | .mp id=>match M.get id with
  | some (.map es _)=>some (.sc (goInt es.length),M)
  | _=>none
 | _=>none
theorem x_ml (m:Operand):execOpA P call t M (.mlen m)=mlO M (evalA t m):=by
 simp only[execOpA]
 unfold mlO
 cases evalA t m with
 | sc v=>cases v with
  | map r=>cases r <;> rfl
  | _=>rfl
 | _=>rfl
theorem ml_set {id:Nat}{o:AObj}{l:List α}{v:AV}(hg:M.get id=some o)(h:IsSet A v o l):mlO M (.mp id)=some (.sc (.int .i64 l.length),M):=by
 obtain⟨es,c,rfl,he⟩:=h
 have:es.length=l.length:=by simpa using congrArg List.length he
 simp only[mlO,hg,this]
 rfl
theorem x_mkmap (h:Wf M):execOpA P call t M .mkmap=some (.mp M.size,M.add (.map [] 0)):=by simp only[execOpA,new_add h]
end
theorem hand_frz {α:Type}{N:Mem}{st:Nat}{T:List AV→α→Prop}{x:AV}{l:List α}(h:SlM N st T x l)(wf:Wf N)(hT:FzT T){k:Nat}(hk:1<k):∃ a' N',icy k N x=some (a',N')∧Sl st T a' l∧Wf N'∧N'.size=N.size∧(∀ j,rowOf x≠some j→N'.get j=N.get j) ∧
  (∀ j,N'.rd j=N.rd j) ∧ ∀ N7 m,1<m→(∀ j,rowOf x=some j→N7.get j=N'.get j)→frz N7 0 m x=some a':=by
 obtain⟨k,rfl⟩:∃ j,k=j+1:=⟨k - 1,by omega⟩
 rcases h with⟨rfl,rfl⟩ | ⟨id,rows,cap,rfl,hc,hg,hA,hr⟩
 ·exact⟨_,N,rfl,.inl ⟨rfl,rfl⟩,wf,rfl,fun _ _=>rfl,fun _=>rfl,fun N7 m hm _=>frz_sc _ (by omega)⟩
 ·have hfl:=flat_len hr
  have lid:=Mem.get_lt hg
  have hcs:∀ N,icyL (icy k) N rows.flatten=some (rows.flatten,N):=icyL_same (by omega) fun x hx N=>hT.celI.flat hA x hx N k (by omega)
  have hble:Nat.ble (0+rows.length*st) rows.flatten.length=true:=ble_t (by omega)
  have hsl:slot rows.flatten 0 (rows.length*st)=rows.flatten:=slot_all _ _ hfl.symm
  refine⟨.pv rows.flatten rows.length cap st,N.upd id (.fro rows.flatten), ?_,.inr ⟨rows,cap,rfl,hA,hr⟩,wf.upd _ _,rfl,fun j hj=>get_upd_ne wf _ _ _ (fun e=>hj (by rw[e];rfl)),rd_fro' wf hg,fun N7 m hm h7=>?_⟩
  ·simp only[icy,rd_row hg,hble,hcs,hg,put_upd wf lid,hsl]
  ·have q:=frz_sl (M:=N7) (k:=m) (off:=0) (n:=rows.length) (st:=st) (cap:=cap) (cs:=rows.flatten) (by rw[rd_get,h7 id rfl,get_upd_eq wf _ _ lid,rd1_fro]) (by omega) (by omega) (fun x hx=>(hT.cel.flat hA x hx).2 N7 _ (by omega))
   rw[q,hsl]
where
 rd_fro' {N:Mem} {id:Nat} {ds:List AV} {b:Bool} (wf:Wf N) (hg:N.get id=some (.row b ds)):∀ j,(N.upd id (.fro ds)).rd j=N.rd j:=NK.rd_fro wf hg
theorem hand_row {α:Type}{N:Mem}{T:List AV→α→Prop}{x:AV}{l:List α}{H:List AV}(hz:∀ y∈H,Fz y)(h:SlM N 1 T x l)(wf:Wf N)(hT:FzT T){k:Nat}(hk:2<k):∃ a' N',icy k N (.agg (H++[x]))=some (.agg (H++[a']),N')∧Sl 1 T a' l∧Wf N'∧N'.size=N.size∧(∀ j,rowOf x≠some j→N'.get j=N.get j) ∧
  (∀ j,N'.rd j=N.rd j) ∧ ∀ N7 m,1<m→(∀ j,rowOf x=some j→N7.get j=N'.get j)→frz N7 0 m x=some a':=by
 obtain⟨a',N',i1,h1⟩:=hand_frz h wf hT (k:=k - 1) (by omega)
 refine⟨a',N', ?_,h1⟩
 obtain⟨k,rfl⟩:∃ j,k=j+1:=⟨k - 1,by omega⟩
 rw[icy_agg _ (by omega),icyL_app (fz_icyL (by omega) N hz) (a':=H) (b':=[a']) (K:=N') (by simp only[Nat.add_sub_cancel] at i1 ⊢;simp only[icyL,i1])]
section
variable {Q : AV → Mem → Prop}
theorem w3_handrow {α:Type}(H:List AV)(x:AV){T:List AV→α→Prop}{l:List α}{f n:Nat}{af:AFunc}{r:AV}(h:fs f=some af)(hg:af.gc=1)(hz:∀ y∈H,Fz y)(hm:SlM M 1 T x l)(wf:Wf M)(hT:FzT T)
  (hc:∀ a',Sl 1 T a' l → ∀ M,callN P fs fuel (n+1) (.fn f) [.agg (H++[a'])] M=some (r,M))
  (kk:∀ a' N',Sl 1 T a' l→Wf N'→N'.size=M.size→(∀ j,rowOf x≠some j→N'.get j=M.get j)→(∀ j,N'.rd j=M.rd j)→(∀ N7 m,1<m→(∀ j,rowOf x=some j→N7.get j=N'.get j)→frz N7 0 m x=some a')→Q r N') :
  W3 (callN P fs fuel (n+1) (.fn f) [.agg (H++[x])] M) Q:=by
 obtain⟨a',N',i1,b1,w1,s1,g1,r1,f1⟩:=hand_row hz hm wf hT (k:=12) (by omega)
 refine⟨r,N',call_own (bs:=[.agg (H++[a'])]) h hg (hc a' b1 mem0) (M3:=mem0) ?_ ?_,kk a' N' b1 w1 s1 g1 r1 f1⟩
 ·simp only[icyL,fz_icyA (r:=H++[a']) (fun y hy=>by
   rcases List.mem_append.1 hy with hy | hy
   ·exact hz y hy
   ·rw[List.mem_singleton] at hy;subst hy;exact b1.fz) (show 1<12 by omega)]
 ·simp only[icyL,i1]
theorem hasV_g2 {f f' te te1 ti1 tr1 ti tb tr te' tq:Nat}(hf':fs f'=some ⟨9,hasVC f st true te1 ti1 tr1,[.tmp 4],2⟩)(hf:fs f=some ⟨19,indexVC st true te ti tb tr te' tq,[.tmp 4],1⟩)(hT:FzT T)(hS:Sl st T a l)(hl:l.length≤1000000000000000)(hfu:l.length<fuel)(hst:0<st)
  {n:Nat} {v:List AV} (hv:∀ y∈v,Fz y) (hvl:v.length=st) {p:α→Bool} {pe:Option AV→AV→AV→Option AV} (hq:∀ {t:List AV} (i j:Nat),pureOp P t (mkO (.binOp .eql te' (.tmp i) (.tmp j) te') tq)=pe (pureD P t (mkO (.binOp .eql te' (.tmp i) (.tmp j) te') tq)) (evalA t (.tmp i)) (evalA t (.tmp j))) (hp:∀ d r x,T r x→x∈l→pe d (.agg v) (.agg r)=some (BL (p x))) (M:Mem) :
  callN P fs fuel (n+2) (.fn f') [a,.agg v] M=some (BL (l.any p),M):=by
 have hi:=fun M=>indexV_gc (P:=P) (M:=M) (n:=n) hf hT hS hl hfu hst hv hvl hq hp
 have e:=posF_any p l
 have frw:=fz_rowsAll hv
 have pv:=part_el (ag:=true) hvl (by simp)
 simp only[elA] at pv
 apply w3_eq
 refine call_g2 hf' rfl (by simp only[icyL,hS.icy M 12 (by omega),fz_icyA hv (show 1<12 by omega) M]) (by simp) fun b' ht hx=>?_
 have h0:=hx 0 _ rfl
 have h1:=hx 1 _ rfl
 clear hx
 simp only[hasVC] at ht ⊢
 simp (maxSteps:=2000000) (disch:=first | omega | assumption | (simp only[DS,Nat.reduceAdd, *];done) | (simp only[DZ];omega)) only[RUN,RU,footA,feetIn,resultsA,tupOf,frzL,slot,lay,icyL,fillA,repCells,kR,reduceIte,Nat.reduceEqDiff,Nat.reduceBEq,Nat.reduceLT,Nat.reduceAdd,Nat.reduceLeDiff,Nat.reduceSub,Nat.reduceMul,Int.reduceLT,Int.reduceLE,Int.reduceEq,Int.reduceAdd,Int.reduceSub,Int.reduceMul,h0,h1,hi,hS.fz.rows,hS.fz.one,hS.fz.cells,hS.fz.icy,hS.fz.frz,frw,pv,e,sc_ex]
theorem hasV_own {N:Mem}{f f' te te1 ti1 tr1 ti tb tr te' tq:Nat}(hf':fs f'=some ⟨9,hasVC f st true te1 ti1 tr1,[.tmp 4],2⟩)(hf:fs f=some ⟨19,indexVC st true te ti tb tr te' tq,[.tmp 4],1⟩)(hT:FzT T)(hS:SlM N st T a l)(wf:Wf N)(hl:l.length≤1000000000000000)(hfu:l.length<fuel)(hst:0<st)
  {n:Nat} {v:List AV} (hv:∀ y∈v,Fz y) (hvl:v.length=st) {p:α→Bool} {pe:Option AV→AV→AV→Option AV} (hq:∀ {t:List AV} (i j:Nat),pureOp P t (mkO (.binOp .eql te' (.tmp i) (.tmp j) te') tq)=pe (pureD P t (mkO (.binOp .eql te' (.tmp i) (.tmp j) te') tq)) (evalA t (.tmp i)) (evalA t (.tmp j))) (hp:∀ d r x,T r x→x∈l→pe d (.agg v) (.agg r)=some (BL (p x))) :
  callN P fs fuel (n+2) (.fn f') [a,.agg v] N=some (BL (l.any p),N):=by
 obtain⟨a',N',i1,b1,_⟩:=hand_frz hS wf hT (k:=12) (by omega)
 exact call_lend (bs:=[a',.agg v]) hf' rfl (hasV_g2 (n:=n) hf' hf hT b1 hl hfu hst hv hvl hq hp mem0) (M3:=mem0) (M2:=N') (by simp only[icyL,b1.icy mem0 12 (by omega),fz_icyA hv (show 1<12 by omega) mem0]) (by simp only[icyL,i1,fz_icyA hv (show 1<12 by omega) N'])
theorem lend1 {N:Mem}{f n:Nat}{af:AFunc}{y:AV}{v:Value}(h:fs f=some af)(hg:af.gc=2)(hT:FzT T)(hS:SlM N st T a l)(wf:Wf N)(hy:∀ M,icy 12 M y=some (y,M))(hc:∀ a',Sl st T a' l → ∀ M,callN P fs fuel (n+1) (.fn f) [a',y] M=some (.sc v,M)):callN P fs fuel (n+1) (.fn f) [a,y] N=some (.sc v,N):=by
 obtain⟨a',N',i1,b1,_⟩:=hand_frz hS wf hT (k:=12) (by omega)
 exact call_lend (bs:=[a',y]) h hg (hc a' b1 mem0) (M3:=mem0) (M2:=N') (by simp only[icyL,b1.icy mem0 12 (by omega),hy]) (by simp only[icyL,i1,hy])
theorem lend0 {N:Mem}{f n:Nat}{af:AFunc}{v:Value}(h:fs f=some af)(hg:af.gc=2)(hT:FzT T)(hS:SlM N st T a l)(wf:Wf N)(hc:∀ a',Sl st T a' l → ∀ M,callN P fs fuel (n+1) (.fn f) [a'] M=some (.sc v,M)):callN P fs fuel (n+1) (.fn f) [a] N=some (.sc v,N):=by
 obtain⟨a',N',i1,b1,_⟩:=hand_frz hS wf hT (k:=12) (by omega)
 exact call_lend (bs:=[a']) h hg (hc a' b1 mem0) (M3:=mem0) (M2:=N') (by simp only[icyL,b1.icy mem0 12 (by omega)]) (by simp only[icyL,i1])
theorem app1 {X:Mem}{bytes:Nat}{o:AV}{r:List AV}{x:α}(wf:Wf X)(h:SlM X st T o l)(hT:FzT T)(hx:T r x)(hr:r.length=st)(hs:0<st)(hb1:(l.length+1)*bytes≤140737488355328)(hb2:l.length+1≤140737488355328)
  (k:∀ o' M',SlM M' st T o' (l++[x])→Wf M'→X.size≤M'.size→(∀ j,j<X.size→rowOf o≠some j→M'.get j=X.get j)→(∀ id,rowOf o'=some id→rowOf o=some id∨X.size≤id)→M'.wm=X.wm→((rowsOf o').all fun i=>Nat.blt i M'.size)=true→oneA o'=true→cellsA o'=[o']→Q o' M'):W3 (appO (X.add (.row false r)) st bytes o (.sl X.size 0 1 (some 1) st)) Q:=by
 refine w3_appc (wf.add _) (h.keep fun j hj=>get_add wf _ _ (h.lt j hj)) hT.cel (l':=[x]) (new:=[r]) ?_ rfl (.cons hx .nil) (by simpa using hr) hs (by simpa using hb1) (by simpa using hb2) fun o' M' m w le le2 kp nw wm rl on oc=>?_
 ·rw[cells_lit (cs:=r) (n:=1) (st:=st) (get_add_new wf _ _ (Nat.le_refl _) (Nat.lt_succ_self _)) (by omega)];simp
 ·rw[add_size] at le
  refine k o' M' m w (by omega) (fun j hj hr=>?_) (fun id hid=>(nw id hid).imp (fun h=>h) (fun h=>by rw[add_size] at h;omega)) wm rl on oc
  rw[kp j (by rw[add_size];omega) hr,get_add wf _ _ hj]
theorem lendR1 {N:Mem}{f n:Nat}{af:AFunc}{y:AV}{v:Value}(h:fs f=some af)(hg:af.gc=2)(hT:FzT T)(hS:Rd N st T a l)(wf:Wf N)(hy:∀ M,icy 12 M y=some (y,M))(hc:∀ a',Sl st T a' l → ∀ M,callN P fs fuel (n+1) (.fn f) [a',y] M=some (.sc v,M)):callN P fs fuel (n+1) (.fn f) [a,y] N=some (.sc v,N) :=
 hS.elim (fun hS=>hc a hS N) (fun hS=>lend1 h hg hT hS wf hy hc)
theorem lendR0 {N:Mem}{f n:Nat}{af:AFunc}{v:Value}(h:fs f=some af)(hg:af.gc=2)(hT:FzT T)(hS:Rd N st T a l)(wf:Wf N)(hc:∀ a',Sl st T a' l → ∀ M,callN P fs fuel (n+1) (.fn f) [a'] M=some (.sc v,M)):callN P fs fuel (n+1) (.fn f) [a] N=some (.sc v,N) :=
 hS.elim (fun hS=>hc a hS N) (fun hS=>lend0 h hg hT hS wf hc)
end
abbrev J64 (n:Int):AV:=.sc (.int .i64 n)
def imax (a b:Int):Int:=if b > a then b else a
def imin (a b:Int):Int:=if b<a then b else a
theorem p_max2 (ty:TypeId)(x y:Operand)(a b:Int)(hx:evalA t x=J64 a)(hy:evalA t y=J64 b):pureOp P t (mkO (.call ⟨.builtin .max,#[x,y],#[ty,ty]⟩) ty)=some (J64 (imax a b)):=by
 refine pureOp_of (v:=.int .i64 (imax a b)) ?_ ?_
 ·show ([x,y].all fun x=>(toVal (evalA t x)).isSome)=true
  simp only[List.all_cons,List.all_nil,hx,hy]
  rfl
 ·refine pureRun_bind2 (P:=P) _ (a:=(⟨.builtin .max #[ty,ty] ty (#[x,y].map fun o=>match o with | .const _=>true | _=>false),#[.int .i64 a,.int .i64 b]⟩:Deferred)) ?_ ?_
  ·simp only[resolve,List.map_toArray,List.map_cons,List.map_nil,mkO,hx,hy,toVal,Option.getD_some]
   rfl
  ·rfl
def pe_max2 (d:Option AV)(u v:AV):Option AV:=match u,v with
 | .sc (.int .i64 a),.sc (.int .i64 b)=>some (J64 (imax a b))
 | _,_=>d
theorem pe_max2_int (d:Option AV)(a b:Int):pe_max2 d (J64 a) (J64 b)=some (J64 (imax a b)):=rfl
theorem pB_max2 (ty:TypeId)(x y:Operand):pureOp P t (mkO (.call ⟨.builtin .max,#[x,y],#[ty,ty]⟩) ty)=pe_max2 (pureD P t (mkO (.call ⟨.builtin .max,#[x,y],#[ty,ty]⟩) ty)) (evalA t x) (evalA t y):=by
 unfold pe_max2
 split
 ·rename_i a b hx hy
  exact p_max2 ty x y a b hx hy
 ·rfl
def pe_min2 (d:Option AV)(u v:AV):Option AV:=match u,v with
 | .sc (.int .i64 a),.sc (.int .i64 b)=>some (J64 (imin a b))
 | _,_=>d
theorem pe_min2_int (d:Option AV)(a b:Int):pe_min2 d (J64 a) (J64 b)=some (J64 (imin a b)):=rfl
def pe_max3 (d:Option AV)(u v w:AV):Option AV:=match u,v,w with
 | .sc (.int .i64 a),.sc (.int .i64 b),.sc (.int .i64 c)=>some (J64 (imax (imax a b) c))
 | _,_,_=>d
theorem pe_max3_int (d:Option AV)(a b c:Int):pe_max3 d (J64 a) (J64 b) (J64 c)=some (J64 (imax (imax a b) c)):=rfl
theorem BMM:type_of% (azZ @pe_max2_int (azZ @pe_min2_int @pe_max3_int)):=azZ @pe_max2_int (azZ @pe_min2_int @pe_max3_int)
theorem Kept.bk {M N:Mem}(h:Kept M.lo N):Kept M (M.bk N):=by
 have hd:N.dirty=false:=h.di
 exact⟨h.wf,h.le,h.get,rfl,by show (M.dirty || N.dirty)=M.dirty;rw[hd,Bool.or_false]⟩
theorem Kept.wml {M N:Mem}(h:Kept M N)(hw:M.wm≤M.size):N.wm≤N.size:=by rw[h.wm];exact Nat.le_trans hw h.le
theorem All2.set2 {α β:Type}{T:α→β→Prop}:∀ {l:List α} {m:List β},All2 T l m → ∀ (i:Nat) {x:α} {y:β},T x y→All2 T (l.set i x) (m.set i y)
 | _,_,.nil,_,_,_,_ => .nil
 | _,_,.cons a t,0,_,_,h => .cons h t
 | _,_,.cons a t,i+1,_,_,h => .cons a (t.set2 i h)
theorem SlM.at1 {α:Type}{M:Mem}{T:List AV→α→Prop}{a:AV}{l:List α}(h:SlM M 1 T a l){i:Nat}(hi:i<l.length):∃ id cs,rowOf a=some id∧id<M.size∧M.get id=some (.row false cs)∧i<cs.length∧(∀ N,iadO N 1 a (some i)=some (.ptr id i,N)) ∧
  ∀ c x,T [c] x → ∀ N:Mem,N.get id=some (.row false (lay cs i [c]))→SlM N 1 T a (l.set i x):=by
 rcases h with⟨rfl,rfl⟩ | ⟨id,rows,cap,rfl,hc,hg,hA,hr⟩
 ·exact absurd hi (by simp)
 ·have hl:=hA.length_eq
  have hfl:=flat_len hr
  refine⟨id,rows.flatten,rfl,Mem.get_lt hg,hg,by omega,fun N=>by rw[iad_sl (by omega)];simp,fun c x hx N hN=>?_⟩
  have hri:rows[i]? = some rows[i]:=List.getElem?_eq_getElem (by omega)
  have e:=flat_lay (st:=1) (off:=0) (new:=[c]) hr hri (by simp)
  have hrl:=hr rows[i] (List.getElem_mem (by omega))
  have e2:lay rows[i] 0 [c]=[c]:=by
   unfold lay
   rw[List.drop_eq_nil_of_le (by simp;omega)]
   simp
  rw[e2] at e
  simp only[Nat.mul_one,Nat.add_zero] at e
  rw[e] at hN
  refine .inr ⟨id,rows.set i [c],cap,by simp,by simpa using hc,hN,hA.set2 i hx,fun r hr'=>?_⟩
  rcases List.mem_or_eq_of_mem_set hr' with h | rfl
  ·exact hr r h
  ·rfl
theorem icy12 (M:Mem)(v:Value):icy 12 M (.sc v)=some (.sc v,M):=icy_sc v (by omega)
end Go.Ax
