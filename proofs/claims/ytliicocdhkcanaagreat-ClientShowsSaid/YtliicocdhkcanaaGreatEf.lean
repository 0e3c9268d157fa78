/-
 The executor on abstract memory, part 6: what it is, and that what it finds is so of the program.
-/
import Derived.Test.YtliicocdhkcanaaGreatEe
import Derived.Lib.Overlaps
set_option linter.unusedSimpArgs false
set_option linter.unusedVariables false
set_option maxRecDepth 100000
namespace Go.Ax
open Go
variable {P : Program} {fs : Nat -> Option AFunc} {fuel : Nat}
theorem zC1 (k:IntKind)(n:Int):Fz (.sc (.int k n)):=⟨rfl,rfl,rfl,fun _ _ h=>zQV _ h,fun _ _ _ h=>zFY _ h⟩
theorem zSP (b:Bool):Fz (.sc (.bool b)):=⟨rfl,rfl,rfl,fun _ _ h=>zQV _ h,fun _ _ _ h=>zFY _ h⟩
theorem zQP (g:FuncId):Fz (.fn g [] []):=⟨rfl,rfl,rfl,fun M k h=>by rw[zb8 _ _ _ h];rfl,fun M m k h=>by rw[zb4 _ _ _ h];rfl⟩
def FzT {α:Type}(T:List AV->α->Prop):Prop:=∀ r x,T r x -> ∀ y∈r,Fz y
theorem FzT.cel {α:Type}{T:List AV->α->Prop}(h:FzT T):Cel T:=fun r x hr y hy=>⟨(h r x hr y hy).one,fun M k hk=>(h r x hr y hy).frz M 0 k hk⟩
theorem FzT.celI {α:Type}{T:List AV->α->Prop}(h:FzT T):CelI T:=fun r x hr y hy M k hk=>(h r x hr y hy).icy M k hk
theorem zFO:∀ {r:List AV},(∀ y∈r,Fz y)->rowsOf (.agg r)=[]
 | [],_=>by simp [zWD]
 | x::r,h=>by
  have ih:=zFO (r:=r) fun y hy=>h y (List.mem_cons_of_mem _ hy)
  have hx:=(h x (by simp)).rows
  simp_all [zWD]
theorem zLO {k:Nat}(hk:0<k):∀ {r:List AV} (M:Mem),(∀ y∈r,Fz y)->icyL (icy k) M r=some (r,M)
 | [],_,_=>rfl
 | x::r,M,h=>by
  simp only[icyL,(h x (by simp)).icy M k hk,zLO hk (r:=r) M fun y hy=>h y (List.mem_cons_of_mem _ hy)]
theorem zAP {r:List AV}(h:∀ y∈r,Fz y){k:Nat}(hk:1<k)(M:Mem):icy k M (.agg r)=some (.agg r,M):=by
 rw[zP6 _ (by omega),zLO (by omega) M h]
theorem zP5 {m k:Nat}(hk:0<k):∀ {r:List AV} (M:Mem),(∀ y∈r,Fz y)->frzL (frz M m k) r=some r
 | [],_,_=>rfl
 | x::r,M,h=>by
  simp only[frzL,(h x (by simp)).frz M m k hk,zP5 hk (r:=r) M fun y hy=>h y (List.mem_cons_of_mem _ hy)]
def elA (ag:Bool)(r:List AV):AV:=match ag with
 | true => .agg r
 | false=>nth zA3 r 0
theorem zGE {st:Nat}{ag:Bool}{r:List AV}(hl:r.length=st)(h1:ag=false->st=1):part r 0 st ag=some (elA ag r):=by
 cases ag with
 | true=>rw[zPL _ _ _ (by omega),zC0 _ _ hl.symm];rfl
 | false =>
  have:=h1 rfl
  subst this
  match r,hl with
  | [x],_=>rw[zRE];rfl
theorem zOW {α:Type}{T:List AV->α->Prop}(hT:FzT T){ag:Bool}{r:List AV}{x:α}{st:Nat}(hl:r.length=st)(h1:ag=false->st=1)(h:T r x):rowsOf (elA ag r)=[]:=by
 cases ag with
 | true=>exact zFO (hT r x h)
 | false =>
  have:=h1 rfl
  subst this
  match r,hl with
  | [y],_=>exact(hT [y] x h y (by simp)).rows
def posF {α:Type}(p:α->Bool)(l:List α):Int:=match l.findIdx? p with
 | some i=>(i:Int)
 | none => -1
theorem zME {α:Type}{p:α->Bool}{l:List α}{i:Nat}(hi:i<l.length)(h:p l[i]=true)(k:∀ j (hj:j<i),p l[j]=false):posF p l=i:=by
 unfold posF
 have:l.findIdx? p=some i:=by
  rw[List.findIdx?_eq_some_iff_getElem]
  exact⟨hi,h,fun j hj=>by rw[k j hj];simp⟩
 rw[this]
theorem zMF {α:Type}{p:α->Bool}{l:List α}(k:∀ j (hj:j<l.length),p l[j]=false):posF p l = -1:=by
 unfold posF
 have:l.findIdx? p=none:=by
  rw[List.findIdx?_eq_none_iff]
  intro x hx
  obtain⟨j,hj,rfl⟩:=List.getElem_of_mem hx
  exact k j hj
 rw[this]
theorem zFR {α:Type}(p:α->Bool)(l:List α):decide (0<=posF p l)=l.any p:=by
 unfold posF
 cases h:l.findIdx? p with
 | some i =>
  obtain⟨hi,hp,_⟩:=List.findIdx?_eq_some_iff_getElem.1 h
  rw[List.any_eq_true.2 ⟨_,List.getElem_mem hi,hp⟩]
  exact decide_eq_true (by simp)
 | none =>
  rw[List.findIdx?_eq_none_iff] at h
  have:l.any p=false:=by rw[List.any_eq_false];intro x hx;rw[h x hx];simp
  rw[this];rfl
def zHZ (st:Nat)(ag:Bool)(ti tb tr:TypeId):ACode :=
 (.seq (.region [⟨some 4,.mov (.const (.int .i64 0)),none,[]⟩] false)
 (.seq (.seq (.region [⟨some 6,.mov (.tmp 0),none,[]⟩,
  ⟨some 7,.len (.tmp 6),none,[]⟩,
  ⟨some 8,.mov (.const (.int .i64 0)),none,[]⟩] false)
 (.block 0 (.loop (.seq (.region [⟨some 9,.pur (mkO (.binOp .lss ti (.tmp 8) (.tmp 7) ti) tb),none,[]⟩] false)
   (.seq (.cond (.tmp 9)
    .skip
    (.exit 0))
   (.seq (.block 1 (.seq (.region [⟨some 10,.mov (.tmp 8),none,[]⟩,
     ⟨some 5,.mov (.tmp 10),none,[]⟩] false)
    (.seq (.region [⟨some 11,.mov (.tmp 1),none,[]⟩,
     ⟨some 12,.mov (.tmp 0),none,[]⟩,
     ⟨some 13,.mov (.tmp 5),none,[]⟩,
     ⟨some 14,.iad st (.tmp 12) (.tmp 13),none,[]⟩,
     ⟨some 15,.load st ag (.tmp 14),none,[]⟩,
     ⟨some 16,.call (.tmp 11) [(.tmp 15)],none,[]⟩] false)
    (.cond (.tmp 16)
     (.seq (.region [⟨some 17,.mov (.tmp 5),none,[]⟩,
      ⟨some 4,.mov (.tmp 17),none,[]⟩] false)
     .ret)
     .skip))))
   (.region [⟨some 18,.pur (mkO (.binOp .add ti (.tmp 8) (.const (.int .i64 1)) ti) tr),none,[]⟩,
    ⟨some 8,.mov (.tmp 18),none,[]⟩] false)))))))
 (.seq (.region [⟨some 4,.mov (.const (.int .i64 (-1))),none,[]⟩] false)
 .ret)))
section
variable {α : Type} {T : List AV -> α -> Prop} {st : Nat} {ag : Bool} {a : AV} {l : List α}
theorem zYV {f ti tb tr:Nat}(hf:fs f=some ⟨19,zHZ st ag ti tb tr,[.tmp 4],1⟩)(h1':ag=false->st=1)(hT:FzT T)(hS:Sl st T a l)(hl:l.length<=1000000000000000)(hfu:l.length<fuel)
  {n:Nat} {g:FuncId} {first cap:List AV} {p:α->Bool} (fz:Fz (.fn g first cap)) (hp:∀ r x,T r x->x∈l -> ∀ M,zAF P fs fuel n (.fn g) (first++[elA ag r]++cap) M=some (BL (p x),M)) (M:Mem) :
  zAF P fs fuel (n+1) (.fn f) [a,.fn g first cap] M=some (I64 (posF p l),M):=by
 have ll:=hS.len
 have frw:=fz.rows
 simp only[zPW] at frw
 apply zB1
 refine zAD hf rfl (by simp only[icyL,hS.icy M 12 (by omega),fz.icy M 12 (by omega)]) (by simp) fun b' ht hx=>?_
 have h0:=hx 0 _ rfl
 have h1:=hx 1 _ rfl
 clear hx
 simp only[zHZ] at ht ⊢
 simp (disch:=try exact SX) only[RV,seval,zAB,h0,h1,ll,hS.fz.rows,hS.fz.one,hS.fz.cells,hS.fz.icy,hS.fz.frz]
 refine zBB (I:=fun n t N => ∃ (i:Nat),n=l.length - i/\i<=l.length/\nth zA3 t 0=a/\nth zA3 t 1 = .fn g first cap/\nth zA3 t 6=a/\nth zA3 t 7=I64 l.length/\nth zA3 t 8=I64 i/\N=mem0/\(∀ j (h:j<l.length),j<i->p l[j]=false)) (n:=l.length) (by omega) ?_ ?_
 ·exact zE0g
 ·rintro n t N hlt ⟨i,rfl,hi,g0,g1,g6,g7,g8,hm,hj⟩
  simp only[ht] at hlt ⊢
  subst hm
  by_cases hc:i<l.length
  ·have q1:decide ((i:Int)<l.length)=true:=decide_eq_true (by omega)
   have w1:IntKind.i64.wrap ((i:Int)+1)=((i+1:Nat):Int):=by rw[wrap_i64] <;> omega
   obtain⟨r,hr,hev,hlr⟩:=hS.iad i hc
   have p1:=zGE (ag:=ag) hlr h1'
   have er:=zOW hT (ag:=ag) hlr h1' hev
   have hpp:=hp r l[i] hev (List.getElem_mem hc)
   cases hb:p l[i] with
   | false =>
    rw[hb] at hpp
    simp (disch:=try exact SX) only[RV,seval,zAB,g0,g1,g6,g7,g8,hS.fz.rows,hS.fz.one,hS.fz.cells,hS.fz.icy,hS.fz.frz,frw,q1,w1,hr,p1,er,hpp]
    exact zE0j
   | true =>
    rw[hb] at hpp
    have e1:=zME hc hb fun j hj'=>hj j (by omega) hj'
    simp (disch:=try exact SX) only[RV,seval,zAB,g0,g1,g6,g7,g8,hS.fz.rows,hS.fz.one,hS.fz.cells,hS.fz.icy,hS.fz.frz,frw,q1,w1,hr,p1,er,hpp,e1]
  ·obtain rfl:i=l.length:=by omega
   have q1:decide ((l.length:Int)<l.length)=false:=decide_eq_false (by omega)
   have e1:=zMF (p:=p) fun j h=>hj j h h
   simp (disch:=try exact SX) only[RV,seval,zAB,g0,g1,g6,g7,g8,q1,e1]
def hasC (g:FuncId)(ti tr:TypeId):ACode :=
 (.seq (.region [⟨some 4,.mov (.const (.bool false)),none,[]⟩] false)
 (.seq (.region [⟨some 5,.mov (.tmp 0),none,[]⟩,
  ⟨some 6,.mov (.tmp 1),none,[]⟩,
  ⟨some 7,.call (.func g) [(.tmp 5),(.tmp 6)],none,[]⟩,
  ⟨some 8,.pur (mkO (.binOp .geq ti (.tmp 7) (.const (.int .i64 0)) ti) tr),none,[]⟩,
  ⟨some 4,.mov (.tmp 8),none,[]⟩] false)
 .ret))
theorem zg6 {f f' ti tb tr ti' tr':Nat}(hf':fs f'=some ⟨9,hasC f ti' tr',[.tmp 4],1⟩)(hf:fs f=some ⟨19,zHZ st ag ti tb tr,[.tmp 4],1⟩)(h1':ag=false->st=1)(hT:FzT T)(hS:Sl st T a l)(hl:l.length<=1000000000000000)(hfu:l.length<fuel)
  {n:Nat} {g:FuncId} {first cap:List AV} {p:α->Bool} (fz:Fz (.fn g first cap)) (hp:∀ r x,T r x->x∈l -> ∀ M,zAF P fs fuel n (.fn g) (first++[elA ag r]++cap) M=some (BL (p x),M)) (M:Mem) :
  zAF P fs fuel (n+2) (.fn f') [a,.fn g first cap] M=some (BL (l.any p),M):=by
 have hi:=fun M=>zYV (P:=P) (M:=M) hf h1' hT hS hl hfu fz hp
 have e:=zFR p l
 have frw:=fz.rows
 simp only[zPW] at frw
 apply zB1
 refine zAD hf' rfl (by simp only[icyL,hS.icy M 12 (by omega),fz.icy M 12 (by omega)]) (by simp) fun b' ht hx=>?_
 have h0:=hx 0 _ rfl
 have h1:=hx 1 _ rfl
 clear hx
 simp only[hasC] at ht ⊢
 simp (disch:=try exact SX) only[RV,seval,zAB,h0,h1,hi,hS.fz.rows,hS.fz.one,hS.fz.cells,hS.fz.icy,hS.fz.frz,frw,e]
def zLV (st:Nat)(ag:Bool)(te ti tb tr te' tq:TypeId):ACode :=
 (.seq (.region [⟨some 3,.box te (.tmp 1),none,[]⟩,
  ⟨some 4,.mov (.const (.int .i64 0)),none,[]⟩] false)
 (.seq (.seq (.region [⟨some 6,.mov (.tmp 0),none,[]⟩,
  ⟨some 7,.len (.tmp 6),none,[]⟩,
  ⟨some 8,.mov (.const (.int .i64 0)),none,[]⟩] false)
 (.block 0 (.loop (.seq (.region [⟨some 9,.pur (mkO (.binOp .lss ti (.tmp 8) (.tmp 7) ti) tb),none,[]⟩] false)
   (.seq (.cond (.tmp 9)
    .skip
    (.exit 0))
   (.seq (.block 1 (.seq (.region [⟨some 10,.mov (.tmp 8),none,[]⟩,
     ⟨some 5,.mov (.tmp 10),none,[]⟩] false)
    (.seq (.region [⟨some 11,.load st ag (.tmp 3),none,[1,2,3,4]⟩,
     ⟨some 12,.mov (.tmp 0),none,[0,2]⟩,
     ⟨some 13,.mov (.tmp 5),none,[0,1]⟩,
     ⟨some 14,.iad st (.tmp 12) (.tmp 13),none,[0]⟩,
     ⟨some 15,.load st ag (.tmp 14),none,[0]⟩,
     ⟨some 16,.pur (mkO (.binOp .eql te' (.tmp 11) (.tmp 15) te') tq),none,[]⟩] true)
    (.cond (.tmp 16)
     (.seq (.region [⟨some 17,.mov (.tmp 5),none,[]⟩,
      ⟨some 4,.mov (.tmp 17),none,[]⟩] false)
     .ret)
     .skip))))
   (.region [⟨some 18,.pur (mkO (.binOp .add ti (.tmp 8) (.const (.int .i64 1)) ti) tr),none,[]⟩,
    ⟨some 8,.mov (.tmp 18),none,[]⟩] false)))))))
 (.seq (.region [⟨some 4,.mov (.const (.int .i64 (-1))),none,[]⟩] false)
 .ret)))
theorem zV2 {f te ti tb tr te' tq:Nat}(hf:fs f=some ⟨19,zLV st true te ti tb tr te' tq,[.tmp 4],1⟩)(hT:FzT T)(hS:Sl st T a l)(hl:l.length<=1000000000000000)(hfu:l.length<fuel)(hst:0<st)
  {n:Nat} {v:List AV} (hv:∀ y∈v,Fz y) (hvl:v.length=st) {p:α->Bool} {pe:Option AV->AV->AV->Option AV} (hq:∀ {t:List AV} (i j:Nat),zB9 P t (mkO (.binOp .eql te' (.tmp i) (.tmp j) te') tq)=pe (zDJ P t (mkO (.binOp .eql te' (.tmp i) (.tmp j) te') tq)) (zA5 t (.tmp i)) (zA5 t (.tmp j))) (hp:∀ d r x,T r x->x∈l->pe d (.agg v) (.agg r)=some (BL (p x))) (M:Mem) :
  zAF P fs fuel (n+1) (.fn f) [a,.agg v] M=some (I64 (posF p l),M):=by
 have ll:=hS.len
 have frw:=zFO hv
 have hq:=@hq
 have hvo:v.all oneA=true:=List.all_eq_true.2 fun y hy=>(hv y hy).one
 apply zB1
 refine zAD hf rfl (by simp only[icyL,hS.icy M 12 (by omega),zAP hv (show 1<12 by omega) M]) (by simp) fun b' ht hx=>?_
 have h0:=hx 0 _ rfl
 have h1:=hx 1 _ rfl
 clear hx
 simp only[zLV] at ht ⊢
 have pv:=zGE (ag:=true) hvl (by simp)
 simp (disch:=try exact SX) only[RV,seval,zAB,h0,h1,ll,hS.fz.rows,hS.fz.one,hS.fz.cells,hS.fz.icy,hS.fz.frz,frw]
 refine zBB (I:=fun n t N => ∃ (i:Nat),n=l.length - i/\i<=l.length/\nth zA3 t 0=a/\nth zA3 t 3 = .ptr 0 0/\nth zA3 t 6=a/\nth zA3 t 7=I64 l.length/\nth zA3 t 8=I64 i/\N=mem0.add (.row false v)/\(∀ j (h:j<l.length),j<i->p l[j]=false)) (n:=l.length) (by omega) ?_ ?_
 ·exact zE0g
 ·rintro n t N hlt ⟨i,rfl,hi,g0,g3,g6,g7,g8,hm,hj⟩
  simp only[ht] at hlt ⊢
  subst hm
  by_cases hc:i<l.length
  ·have q1:decide ((i:Int)<l.length)=true:=decide_eq_true (by omega)
   have w1:IntKind.i64.wrap ((i:Int)+1)=((i+1:Nat):Int):=by rw[wrap_i64] <;> omega
   obtain⟨r,hr,hev,hlr⟩:=hS.iad i hc
   have p1:=zGE (ag:=true) hlr (by simp)
   have er:=zOW hT (ag:=true) hlr (by simp) hev
   simp only[elA] at p1 er pv
   have hpp:=fun d=>hp d r l[i] hev (List.getElem_mem hc)
   cases hb:p l[i] with
   | false =>
    rw[hb] at hpp
    simp (disch:=try exact SX) only[RV,seval,zAB,g0,g3,g6,g7,g8,hS.fz.rows,hS.fz.one,hS.fz.cells,hS.fz.icy,hS.fz.frz,q1,w1,hr,p1,er,pv,↓hq,hpp]
    exact zE0j
   | true =>
    rw[hb] at hpp
    have e1:=zME hc hb fun j hj'=>hj j (by omega) hj'
    simp (disch:=try exact SX) only[RV,seval,zAB,g0,g3,g6,g7,g8,hS.fz.rows,hS.fz.one,hS.fz.cells,hS.fz.icy,hS.fz.frz,q1,w1,hr,p1,er,pv,↓hq,hpp,e1]
  ·obtain rfl:i=l.length:=by omega
   have q1:decide ((l.length:Int)<l.length)=false:=decide_eq_false (by omega)
   have e1:=zMF (p:=p) fun j h=>hj j h h
   simp (disch:=try exact SX) only[RV,seval,zAB,g0,g3,g6,g7,g8,q1,e1]
def zd1 (g:FuncId)(st:Nat)(ag:Bool)(te ti tr:TypeId):ACode :=
 (.seq (.region [⟨some 3,.box te (.tmp 1),none,[]⟩,
  ⟨some 4,.mov (.const (.bool false)),none,[]⟩] false)
 (.seq (.region [⟨some 5,.mov (.tmp 0),none,[]⟩,
  ⟨some 6,.load st ag (.tmp 3),none,[]⟩,
  ⟨some 7,.call (.func g) [(.tmp 5),(.tmp 6)],none,[]⟩,
  ⟨some 8,.pur (mkO (.binOp .geq ti (.tmp 7) (.const (.int .i64 0)) ti) tr),none,[]⟩,
  ⟨some 4,.mov (.tmp 8),none,[]⟩] false)
 .ret))
end
structure NK (α β:Type) where
 st:Nat
 H:α->List AV
 f:α->List β
 T:List AV->β->Prop
 ok:α->Prop
 hl:∀ x,(H x).length+1=st
 hz:∀ x,∀ y∈H x,Fz y
 ft:FzT T
namespace NK
variable {α β : Type} (K : NK α β)
def is (r:List AV)(x:α):Prop:=∃ ra,r=K.H x++[ra]/\Sl 1 K.T ra (K.f x)/\K.ok x
theorem fz:FzT K.is:=fun r x h y hy=>by
 obtain⟨ra,rfl,h,_⟩:=h
 rcases List.mem_append.1 hy with hy | hy
 ·exact K.hz x y hy
 ·rw[List.mem_singleton] at hy;subst hy;exact h.fz
def isN (r:List AV)(x:α × AV):Prop:=r=K.H x.1++[x.2]/\oneA x.2=true/\cellsA x.2=[x.2]
def InN (M:Mem)(B:Nat)(x:α × AV):Prop:=SlM M 1 K.T x.2 (K.f x.1)/\(∀ j,rowOf x.2=some j->B<=j)/\K.ok x.1
variable {K} {M N : Mem} {B : Nat}
theorem isN.len {r:List AV}{x:α × AV}(h:K.isN r x):r.length=K.st:=by rw[h.1,List.length_append,List.length_singleton];exact K.hl _
theorem InN.keep {x:α × AV}(h:K.InN M B x)(k:∀ j,rowOf x.2=some j->N.get j=M.get j):K.InN N B x:=⟨h.1.keep k,h.2.1,h.2.2⟩
theorem InN.lt {x:α × AV}(h:K.InN M B x):∀ j,rowOf x.2=some j->j<M.size:=h.1.lt
theorem zHK {rows:List (List AV)}{l:List (α × AV)}(h:All2 K.isN rows l):rows.flatten.all oneA=true:=by
 rw[List.all_eq_true]
 induction h with
 | nil=>simp
 | cons a _ ih =>
  intro y hy
  rw[List.flatten_cons,List.mem_append] at hy
  rcases hy with hy | hy
  ·rw[a.1,List.mem_append,List.mem_singleton] at hy
   rcases hy with hy | rfl
   ·exact(K.hz _ _ hy).one
   ·exact a.2.1
  ·exact ih y hy
variable (K) in
def NN (M:Mem)(B:Nat)(o:AV)(l:List α):Prop:=∃ lr:List (α × AV),lr.map (·.1)=l/\SlM M K.st K.isN o lr/\(∀ x∈lr,K.InN M B x)/\(∀ j,rowOf o=some j->B<=j)/\(∀ x∈lr,∀ j,rowOf o=some j->rowOf x.2≠some j)
theorem NN.nil (M:Mem)(B:Nat):K.NN M B NIL []:=⟨[],rfl,SlM.nil,by simp,(fun j h=>by cases h),by simp⟩
theorem NN.keep {o:AV}{l:List α}(h:K.NN M B o l)(k:∀ j,B<=j->j<M.size->N.get j=M.get j):K.NN N B o l:=by
 obtain⟨lr,h1,h2,h3,h4,h5⟩:=h
 exact⟨lr,h1,h2.keep fun j hj=>k j (h4 j hj) (h2.lt j hj),fun x hx=>(h3 x hx).keep fun j hj=>k j ((h3 x hx).2.1 j hj) ((h3 x hx).lt j hj),h4,h5⟩
theorem NN.one {o:AV}{l:List α}(h:K.NN M B o l):oneA o=true:=by obtain⟨lr,rfl,h2,_⟩:=h;exact h2.one
theorem NN.cells {o:AV}{l:List α}(h:K.NN M B o l):cellsA o=[o]:=by obtain⟨lr,rfl,h2,_⟩:=h;exact h2.cells
theorem NN.rows {o:AV}{l:List α}(h:K.NN M B o l){n:Nat}(hn:M.size<=n):((rowsOf o).all fun i=>Nat.blt i n)=true:=by obtain⟨lr,rfl,h2,_⟩:=h;exact zB3 h2.rl hn
theorem NN.lt {o:AV}{l:List α}(h:K.NN M B o l):∀ j,rowOf o=some j->B<=j/\j<M.size:=by obtain⟨lr,rfl,h2,_,h4,_⟩:=h;exact fun j hj=>⟨h4 j hj,h2.lt j hj⟩
theorem NN.app {o ra:AV}{l:List α}{x:α}{by':Nat}{Q:AV->Mem->Prop}(wf:Wf N)(h:K.NN N B o l)(hx:K.isN (K.H x++[ra]) (x,ra))(hi:K.InN N B (x,ra))(hne:∀ j,rowOf o=some j->rowOf ra≠some j)(hb:(l.length+1)*by'<=140737488355328)(hb2:l.length+1<=140737488355328)(hB:B<=N.size)
  (kk:∀ o' M',K.NN M' B o' (l++[x])->Wf M'->N.size<=M'.size->(∀ j,j<N.size->rowOf o≠some j->M'.get j=N.get j)->(∀ id,rowOf o'=some id->rowOf o=some id∨N.size<=id)->M'.wm=N.wm->Q o' M'):W3 (appO (N.add (.row false (K.H x++[ra]))) K.st by' o (.sl N.size 0 1 (some 1) K.st)) Q:=by
 obtain⟨lr,rfl,h2,h3,h4,h5⟩:=h
 rw[List.length_map] at hb hb2
 have g:=zAE wf (.row false (K.H x++[ra])) N.size (Nat.le_refl _) (Nat.lt_succ_self _)
 have hA:All2 K.isN [K.H x++[ra]] [(x,ra)]:=.cons hx .nil
 have h':SlM (N.add (.row false (K.H x++[ra]))) K.st K.isN o lr:=h2.keep fun j hj=>zAA wf _ _ (h2.lt j hj)
 have hlen:(K.H x++[ra]).length=K.st:=isN.len hx
 have hst:0<K.st:=by rw[<- K.hl x];omega
 obtain⟨o',M',e,m,w,le,le2,kp,nw,wm⟩:=h'.appO (wf.add _) (y:=.sl N.size 0 1 (some 1) K.st) (l':=[(x,ra)]) (new:=[K.H x++[ra]]) (bytes:=by') (by rw[zD6 g (by rw[hlen];omega)];simp) rfl hA (by simp only[List.mem_singleton,forall_eq];exact hlen) (zHK hA) hst (by simpa using hb) (by simpa using hb2)
 rw[zA2] at le kp nw
 have kp':∀ j,j<N.size->rowOf o≠some j->M'.get j=N.get j:=fun j hj hj2=>by rw[kp j (by omega) hj2,zAA wf _ _ hj]
 refine⟨o',M',e,kk o' M' ⟨lr++[(x,ra)],by simp,m,fun y hy=>?_,fun j hj=>?_,fun y hy j hj=>?_⟩ w (by omega) kp' (fun id hid=>(nw id hid).imp (fun h=>h) (fun h=>by omega)) wm⟩
 ·rcases List.mem_append.1 hy with hy | hy
  ·exact(h3 y hy).keep fun j hj=>kp' j ((h3 y hy).lt j hj) fun hr=>h5 y hy j hr hj
  ·simp only[List.mem_singleton] at hy
   subst hy
   exact hi.keep fun j hj=>kp' j (hi.lt j hj) fun hr=>hne j hr hj
 ·rcases nw j hj with h | h
  ·exact h4 j h
  ·omega
 ·have hyN:K.InN N B y/\(∀ j,rowOf o=some j->rowOf y.2≠some j):=by
   rcases List.mem_append.1 hy with hy | hy
   ·exact⟨h3 y hy,h5 y hy⟩
   ·simp only[List.mem_singleton] at hy
    subst hy;exact⟨hi,hne⟩
  rcases nw j hj with h | h
  ·exact hyN.2 j h
  ·exact fun e=>by have:=hyN.1.lt j e;omega
end NK
theorem zGS {f:AV->Option AV}:∀ {a b a' b':List AV},frzL f a=some a'->frzL f b=some b'->frzL f (a++b)=some (a'++b')
 | [],b,a',b',h1,h2=>by
  simp only[frzL,Option.some.injEq] at h1
  subst h1
  exact h2
 | x::a,b,a',b',h1,h2=>by
  simp only[frzL] at h1
  split at h1
  ·rename_i y hy
   split at h1
   ·rename_i r hr
    simp only[Option.some.injEq] at h1
    subst h1
    simp only[List.cons_append,frzL,hy,zGS hr h2]
   ·cases h1
  ·cases h1
theorem zIB {f:Mem->AV->Option (AV × Mem)}:∀ {a b a' b':List AV} {M N K:Mem},icyL f M a=some (a',N)->icyL f N b=some (b',K)->icyL f M (a++b)=some (a'++b',K)
 | [],b,a',b',M,N,K,h1,h2=>by
  simp only[icyL,Option.some.injEq,Prod.mk.injEq] at h1
  obtain⟨rfl,rfl⟩:=h1
  exact h2
 | x::a,b,a',b',M,N,K,h1,h2=>by
  simp only[icyL] at h1
  split at h1
  ·rename_i y M1 hy
   split at h1
   ·rename_i r M2 hr
    simp only[Option.some.injEq,Prod.mk.injEq] at h1
    obtain⟨rfl,rfl⟩:=h1
    simp only[List.cons_append,icyL,hy,zIB hr h2]
   ·cases h1
  ·cases h1
namespace NK
variable {α β : Type} {K : NK α β} {M N : Mem} {B : Nat}
theorem InN.frz {x:α × AV}(h:K.InN M B x){k:Nat}(hk:1<k):∃ ra,(∀ N:Mem,(∀ j,rowOf x.2=some j->N.get j=M.get j)->frzL (Go.Ax.frz N 0 k) (K.H x.1++[x.2])=some (K.H x.1++[ra]))/\Sl 1 K.T ra (K.f x.1):=by
 obtain⟨ra,b1,f1⟩:=zFS h.1 K.ft.cel k hk
 refine⟨ra,fun N hN=>?_,b1⟩
 refine zGS (zP5 (by omega) N (K.hz x.1)) ?_
 simp only[frzL,f1 N hN]
theorem zRJ {k:Nat}(hk:1<k):∀ {rows:List (List AV)} {lr:List (α × AV)},All2 K.isN rows lr->(∀ x∈lr,K.InN M B x) ->
  ∃ rows',(∀ N:Mem,(∀ j,B<=j->N.get j=M.get j)->frzL (Go.Ax.frz N 0 k) rows.flatten=some rows'.flatten)/\All2 K.is rows' (lr.map (·.1))/\(∀ r∈rows',r.length=K.st)
 | _,_,.nil,_=>⟨[],fun _ _=>rfl,.nil,by simp⟩
 | _,_,.cons (y:=x) (m:=lr) a t,h=>by
  have hx:=h x (by simp)
  obtain⟨ra,i1,b1⟩:=hx.frz hk
  obtain⟨rows',i2,hA,hl⟩:=zRJ hk t fun y hy=>h y (by simp [hy])
  obtain⟨rfl,_⟩:=a
  refine⟨(K.H x.1++[ra])::rows',fun N hN=>?_,.cons ⟨ra,rfl,b1,hx.2.2⟩ hA, ?_⟩
  ·rw[List.flatten_cons,List.flatten_cons]
   exact zGS (i1 N fun j hj=>hN j (hx.2.1 j hj)) (i2 N hN)
  ·intro r hr
   rcases List.mem_cons.1 hr with rfl | hr
   ·rw[List.length_append,List.length_singleton];exact K.hl _
   ·exact hl r hr
theorem NN.frz {o:AV}{l:List α}(h:K.NN M B o l){k:Nat}(hk:1<k):∃ o',(∀ N:Mem,(∀ j,B<=j->N.get j=M.get j)->Go.Ax.frz N 0 (k+1) o=some o')/\Sl K.st K.is o' l:=by
 obtain⟨lr,rfl,h2,h3,h4,_⟩:=h
 rcases h2 with⟨rfl,rfl⟩ | ⟨id,rows,cap,rfl,_,hg,hA,hr⟩
 ·exact⟨NIL,fun _ _=>rfl,.inl ⟨rfl,rfl⟩⟩
 ·obtain⟨rows',i1,hA',hl'⟩:=zRJ (k:=k) hk hA h3
  have hfl:=zAL hr
  have hfl':=zAL hl'
  have hn:rows'.length=rows.length:=by rw[hA'.length_eq,List.length_map,hA.length_eq]
  have hble:Nat.ble (0+rows.length*K.st) rows.flatten.length=true:=zBW (by omega)
  have hsl:slot rows'.flatten 0 (rows.length*K.st)=rows'.flatten:=zC0 _ _ (by rw[hfl',hn])
  refine⟨.pv rows'.flatten rows.length cap K.st,fun N hN=>?_,.inr ⟨rows',cap,by rw[hn],hA',hl'⟩⟩
  simp only[Go.Ax.frz,zC4 ((hN id (h4 id rfl)).trans hg),hble,i1 N hN,hsl,Nat.ble_eq_true_of_le (Nat.zero_le id)]
def Rd1 {β:Type}(M:Mem)(T:List AV->β->Prop)(v:AV)(l:List β):Prop :=
 (v=NIL/\l=[]) ∨ ∃ (id:Nat) (rows:List (List AV)) (cap:Option Nat),v = .sl id 0 rows.length cap 1/\M.rd id=some rows.flatten/\All2 T rows l /\ ∀ r∈rows,r.length=1
theorem Rd1.of {T:List AV->β->Prop}{v:AV}{l:List β}(h:SlM M 1 T v l):Rd1 M T v l:=by
 rcases h with h | ⟨id,rows,cap,rfl,_,hg,hA,hr⟩
 ·exact .inl h
 ·exact .inr ⟨id,rows,cap,rfl,zC4 hg,hA,hr⟩
theorem rd_fro {id:Nat}{ds:List AV}{b:Bool}(wf:Wf M)(hg:M.get id=some (.row b ds)):∀ j,(M.upd id (.fro ds)).rd j=M.rd j:=by
 intro j
 have lid:=Mem.get_lt hg
 by_cases e:id=j
 ·subst e
  rw[zB0,zB0,zAC wf _ _ lid,hg];rfl
 ·rw[zB0,zB0,zA0 wf _ _ _ e]
end NK
structure Kept (M N:Mem):Prop where
 wf:Wf N
 le:M.size<=N.size
 get:∀ j,j<M.size->N.get j=M.get j
 wm:N.wm=M.wm
 di:N.dirty=M.dirty
theorem Kept.refl {M:Mem}(wf:Wf M):Kept M M:=⟨wf,Nat.le_refl _,fun _ _=>rfl,rfl,rfl⟩
theorem Kept.trans {M N K:Mem}(h:Kept M N)(k:Kept N K):Kept M K :=
 ⟨k.wf,Nat.le_trans h.le k.le,fun j hj=>(k.get j (Nat.lt_of_lt_of_le hj h.le)).trans (h.get j hj),k.wm.trans h.wm,k.di.trans h.di⟩
theorem Kept.add {M N:Mem}(h:Kept M N)(o:AObj):Kept M (N.add o) :=
 ⟨h.wf.add _,by rw[zA2];have:=h.le;omega,fun j hj=>by rw[zAA h.wf _ _ (by have:=h.le;omega)];exact h.get j hj,h.wm,h.di⟩
theorem Kept.upd {M N:Mem}(h:Kept M N)(hw:M.wm<=M.size){i:Nat}(hi:M.size<=i)(o:AObj):Kept M (N.upd i o):=by
 refine⟨h.wf.upd _ _,by rw[zA7];exact h.le,fun j hj=>by rw[zA0 h.wf _ _ _ (by omega)];exact h.get j hj,h.wm, ?_⟩
 show (N.dirty || Nat.blt i N.wm)=M.dirty
 have hb:Nat.blt i N.wm=false:=by
  rw[h.wm];exact(zCE _ _).2 (by omega)
 rw[hb,h.di,Bool.or_false]
variable {α : Type} {T : List AV -> α -> Prop} {st : Nat} {ag : Bool} {a : AV} {l : List α}
theorem zPA {f ti tb tr:Nat}(hf:fs f=some ⟨19,zHZ st ag ti tb tr,[.tmp 4],0⟩)(h1':ag=false->st=1)(hT:FzT T)(hS:Sl st T a l)(hl:l.length<=1000000000000000)(hfu:l.length<fuel)
  {n:Nat} {g:FuncId} {first cap:List AV} {p:α->Bool} {M:Mem} {Q:AV->Mem->Prop} (wf:Wf M) (hr:∀ N,M.size<=N->((rowsOf (.fn g first cap)).all fun i=>Nat.blt i N)=true)
  (hp:∀ r x,T r x->x∈l -> ∀ N Q',Kept M N->(∀ N',Kept M N'->Q' (BL (p x)) N')->W3 (zAF P fs fuel n (.fn g) (first++[elA ag r]++cap) N) Q')
  (k:∀ N,Kept M N->Q (I64 (posF p l)) N):W3 (zAF P fs fuel (n+1) (.fn f) [a,.fn g first cap] M) Q:=by
 have ll:=hS.len
 simp only[zPW] at hr
 refine zAT hf rfl (by simp) fun b' ht hx=>?_
 have h0:=hx 0 _ rfl
 have h1:=hx 1 _ rfl
 clear hx
 simp only[zHZ] at ht ⊢
 simp (disch:=try exact SX) only[RV,seval,zAB,h0,h1,ll,hS.fz.rows,hS.fz.one,hS.fz.cells,hS.fz.icy,hS.fz.frz]
 refine zBB (I:=fun n t N => ∃ (i:Nat),n=l.length - i/\i<=l.length/\nth zA3 t 0=a/\nth zA3 t 1 = .fn g first cap/\nth zA3 t 6=a/\nth zA3 t 7=I64 l.length/\nth zA3 t 8=I64 i/\Kept M N/\(∀ j (h:j<l.length),j<i->p l[j]=false)) (n:=l.length) (by omega) ?_ ?_
 ·refine⟨0,rfl,Nat.zero_le _, ?_, ?_, ?_, ?_, ?_,Kept.refl wf,(fun _ _ h=>absurd h (by omega))⟩ <;> simp (disch:=try exact SX) only[RV,seval,zAB,h0,h1,ll]
  all_goals first | rfl | assumption | done
 ·rintro n t N hlt ⟨i,rfl,hi,g0,g1,g6,g7,g8,hk,hj⟩
  simp only[ht] at hlt ⊢
  by_cases hc:i<l.length
  ·have q1:decide ((i:Int)<l.length)=true:=decide_eq_true (by omega)
   have w1:IntKind.i64.wrap ((i:Int)+1)=((i+1:Nat):Int):=by rw[wrap_i64] <;> omega
   obtain⟨r,hr',hev,hlr⟩:=hS.iad i hc
   have p1:=zGE (ag:=ag) hlr h1'
   have er:=zOW hT (ag:=ag) hlr h1' hev
   have hpp:=hp r l[i] hev (List.getElem_mem hc)
   have frw:=hr N.size hk.le
   cases hb:p l[i] with
   | false =>
    rw[hb] at hpp
    simp (disch:=try exact SX) only[RV,seval,zAB,g0,g1,g6,g7,g8,hS.fz.rows,hS.fz.one,hS.fz.cells,hS.fz.icy,hS.fz.frz,frw,q1,hr',p1,er]
    refine hpp N _ hk fun N' hk'=>?_
    simp (disch:=try exact SX) only[RV,seval,zAB,g0,g1,g6,g7,g8,w1]
    exact⟨hlt,l.length - (i+1),by omega,i+1,rfl,by omega,rfl,hk',fun j h hj'=>by
     rcases Nat.lt_succ_iff_lt_or_eq.1 hj' with h' | rfl
     ·exact hj j h h'
     ·exact hb⟩
   | true =>
    rw[hb] at hpp
    have e1:=zME hc hb fun j hj'=>hj j (by omega) hj'
    rw[e1] at k
    simp (disch:=try exact SX) only[RV,seval,zAB,g0,g1,g6,g7,g8,hS.fz.rows,hS.fz.one,hS.fz.cells,hS.fz.icy,hS.fz.frz,frw,q1,hr',p1,er]
    refine hpp N _ hk fun N' hk'=>?_
    simp (disch:=try exact SX) only[RV,seval,zAB,g0,g1,g6,g7,g8]
    exact k _ hk'
  ·obtain rfl:i=l.length:=by omega
   have q1:decide ((l.length:Int)<l.length)=false:=decide_eq_false (by omega)
   have e1:=zMF (p:=p) fun j h=>hj j h h
   rw[e1] at k
   simp (disch:=try exact SX) only[RV,seval,zAB,g0,g1,g6,g7,g8,q1]
   exact k _ hk
theorem zLP {f f' ti tb tr ti' tr':Nat}(hf':fs f'=some ⟨9,hasC f ti' tr',[.tmp 4],0⟩)(hf:fs f=some ⟨19,zHZ st ag ti tb tr,[.tmp 4],0⟩)(h1':ag=false->st=1)(hT:FzT T)(hS:Sl st T a l)(hl:l.length<=1000000000000000)(hfu:l.length<fuel)
  {n:Nat} {g:FuncId} {first cap:List AV} {p:α->Bool} {M:Mem} {Q:AV->Mem->Prop} (wf:Wf M) (hr:∀ N,M.size<=N->((rowsOf (.fn g first cap)).all fun i=>Nat.blt i N)=true)
  (hp:∀ r x,T r x->x∈l -> ∀ N Q',Kept M N->(∀ N',Kept M N'->Q' (BL (p x)) N')->W3 (zAF P fs fuel n (.fn g) (first++[elA ag r]++cap) N) Q')
  (k:∀ N,Kept M N->Q (BL (l.any p)) N):W3 (zAF P fs fuel (n+2) (.fn f') [a,.fn g first cap] M) Q:=by
 have e:=zFR p l
 have frw:=hr M.size (Nat.le_refl _)
 simp only[zPW] at frw
 refine zAT hf' rfl (by simp) fun b' ht hx=>?_
 have h0:=hx 0 _ rfl
 have h1:=hx 1 _ rfl
 clear hx
 simp only[hasC] at ht ⊢
 simp (disch:=try exact SX) only[RV,seval,zAB,h0,h1,hS.fz.rows,hS.fz.one,hS.fz.cells,hS.fz.icy,hS.fz.frz,frw]
 refine zPA hf h1' hT hS hl hfu wf hr hp fun N hk=>?_
 simp (disch:=try exact SX) only[RV,seval,zAB,h0,h1,e]
 exact k N hk
set_option linter.unusedSectionVars false
variable {call : Tg -> List AV -> Mem -> Option (AV × Mem)} {t : List AV} {M : Mem}
def idxO (M:Mem)(len st:Nat)(ag:Bool)(x:AV)(i:Option Nat):OR:=match i with
 | some n=>match Nat.blt n len with
  | true=>match x with
   | .agg l=>match part l (n*st) st ag with | some v=>some (v,M) | none=>none
   | .sc (.agg cs)=>match part (cs.toList.map .sc) (n*st) st ag with | some v=>some (v,M) | none=>none
   | _=>none
  | false=>none
 | none=>none
theorem zOJ (len st:Nat)(ag:Bool)(x i:Operand):zA6 P call t M (.idx len st ag x i)=idxO M len st ag (zA5 t x) (zCL (zA5 t i)):=by
 simp only[zA6]
 unfold idxO
 cases zCL (zA5 t i) with
 | none=>rfl
 | some n =>
  cases Nat.blt n len with
  | false=>rfl
  | true =>
   cases zA5 t x with
   | sc v=>cases v <;> rfl
   | _=>rfl
theorem zFC (len st:Nat)(ag:Bool)(l:List AV)(n:Nat)(h:n<len):idxO M len st ag (.agg l) (some n)=(match part l (n*st) st ag with | some v=>some (v,M) | none=>none):=by
 simp only[idxO,(zAJ _ _).2 h]
structure KeyT (P:Program) (kt:TypeId) {α:Type} [DecidableEq α] (A:α->AV) where
 val:α->Value
 hval:∀ x,zAZ (A x)=some (val x)
 ck:∀ b x,(zAG P (Instr.checkKey b 10000 kt (val x))).isSome=true
 eq:∀ x y,zAG P (Op.equal kt (val x) (val y))=some (decide (x=y))
 same:∀ x,Instr.sameBits 10000 (val x) (val x)=true
section
variable {kt : TypeId} [DecidableEq α] {A : α -> AV} (K : KeyT P kt A)
def zIG (A:α->AV)(v:AV)(o:AObj)(l:List α):Prop:=∃ es c,o = .map es c/\es.map (fun e=>(e.1,e.2.1))=l.map fun x=>(A x,v)
theorem zIG.nil (A:α->AV)(v:AV):zIG A v (.map [] 0) []:=⟨[],0,rfl,rfl⟩
theorem zP4 {v:AV}:∀ {es:List (AV × AV × Nat)} {l:List α} (i:Nat),es.map (fun e=>(e.1,e.2.1))=l.map (fun x=>(A x,v)) -> ∀ {x:α},x∈l -> ∃ j n,zHG P kt (K.val x) es i=some (some (i+j,A x,v,n))/\es[j]? = some (A x,v,n)
 | [],l,i,h,x,hx=>by
  cases l with
  | nil=>cases hx
  | cons _ _=>cases h
 | e::es,[],i,h,x,hx=>by cases hx
 | e::es,y::l,i,h,x,hx=>by
  simp only[List.map_cons,List.cons.injEq,Prod.mk.injEq] at h
  obtain⟨⟨h1,h2⟩,h3⟩:=h
  obtain⟨k',v',n⟩:=e
  simp only at h1 h2
  subst h1 h2
  simp only[zHG,K.hval,K.eq]
  by_cases q:x=y
  ·subst q
   simp only[decide_true]
   exact⟨0,n,rfl,rfl⟩
  ·rw[decide_eq_false q]
   rcases List.mem_cons.1 hx with rfl | hx
   ·exact absurd rfl q
   ·obtain⟨j,n,h4,h5⟩:=zP4 (i+1) h3 hx
    exact⟨j+1,n,by rw[h4,show i+1+j=i+(j+1) by omega],h5⟩
theorem zLI {v:AV}:∀ {es:List (AV × AV × Nat)} {l:List α} (i:Nat),es.map (fun e=>(e.1,e.2.1))=l.map (fun x=>(A x,v)) -> ∀ {x:α},x ∉ l->zHG P kt (K.val x) es i=some none
 | [],l,i,h,x,hx=>rfl
 | e::es,[],i,h,x,hx=>by cases h
 | e::es,y::l,i,h,x,hx=>by
  simp only[List.map_cons,List.cons.injEq,Prod.mk.injEq] at h
  obtain⟨⟨h1,h2⟩,h3⟩:=h
  obtain⟨k',v',n⟩:=e
  simp only at h1 h2
  subst h1 h2
  have q:x≠y:=fun e=>hx (by rw[e];exact List.mem_cons_self ..)
  simp only[zHG,K.hval,K.eq,decide_eq_false q]
  exact zLI (i+1) h3 fun h=>hx (List.mem_cons_of_mem _ h)
def lkO (P:Program)(kt:TypeId)(z:Value)(ok:Bool)(M:Mem)(m k:AV):OR:=match zAZ k with
 | some kv=>match m with
  | .sc (.map none)=>match zAG P (Instr.checkKey true 10000 kt kv) with
   | some _=>some (okA ok (.sc z) false,M)
   | none=>none
  | .mp id=>match M.get id with
   | some (.map es _)=>match zAG P (Instr.checkKey es.isEmpty 10000 kt kv) with
    | some _=>match zHG P kt kv es 0 with
     | some (some (_,_,v,_))=>some (okA ok v true,M)
     | some none=>some (okA ok (.sc z) false,M)
     | none=>none
    | none=>none
   | _=>none
  | _=>none
 | none=>none
theorem x_lk (kt:TypeId)(z:Value)(m k:Operand)(ok:Bool):zA6 P call t M (.lookup kt z m k ok)=lkO P kt z ok M (zA5 t m) (zA5 t k):=by
 simp only[zA6]
 unfold lkO
 cases zAZ (zA5 t k) with
 | none=>rfl
 | some kv =>
  cases zA5 t m with
  | sc v=>cases v with
   | map r=>cases r <;> rfl
   | _=>rfl
  | _=>rfl
include K in
theorem zR1 {id:Nat}{o:AObj}{l:List α}{v:AV}{z:Value}(hg:M.get id=some o)(h:zIG A v o l)(x:α):lkO P kt z false M (.mp id) (A x)=some (if x∈l then v else .sc z,M):=by
 obtain⟨es,c,rfl,he⟩:=h
 obtain⟨u,hu⟩:=Option.isSome_iff_exists.1 (K.ck es.isEmpty x)
 simp only[lkO,K.hval,hg,hu]
 by_cases q:x∈l
 ·obtain⟨j,n,h1,_⟩:=zP4 K 0 he q
  rw[h1,if_pos q]
  rfl
 ·rw[zLI K 0 he q,if_neg q]
  rfl
def muO (P:Program)(kt:TypeId)(M:Mem)(m k v:AV):OR:=match zAZ k with
 | some kv=>match m with
  | .mp id=>match M.get id with
   | some (.map es clock)=>match zAG P (Instr.checkKey false 10000 kt kv) with
    | some _=>match zHG P kt kv es 0 with
     | some (some (i,k',_,n))=>match zAZ k' with
      | some kv'=>match Instr.sameBits 10000 kv' kv with
       | true=>match M.put id (.map (zCF (k,v,n) es i) clock) with
        | some M=>some (zA3,M)
        | none=>none
       | false=>none
      | none=>none
     | some none=>match M.put id (.map (es++[(k,v,clock)]) (clock+1)) with
      | some M=>some (zA3,M)
      | none=>none
     | none=>none
    | none=>none
   | _=>none
  | _=>none
 | none=>none
theorem x_mu (kt:TypeId)(m k v:Operand):zA6 P call t M (.mupd kt m k v)=muO P kt M (zA5 t m) (zA5 t k) (zA5 t v):=by
 simp only[zA6]
 unfold muO
 cases zAZ (zA5 t k) with
 | none=>rfl
 | some kv=>cases zA5 t m <;> rfl
theorem zJY {β:Type}:∀ {es:List β} {j:Nat} {e:β},es[j]? = some e->zCF e es j=es
 | [],_,_,h=>by cases h
 | a::es,0,e,h=>by cases h;rfl
 | a::es,j+1,e,h=>by
  simp only[zCF]
  rw[zJY (es:=es) (j:=j) h]
include K in
theorem zNR {id:Nat}{o:AObj}{l:List α}{v:AV}(wf:Wf M)(hi:id<M.size)(hg:M.get id=some o)(h:zIG A v o l)(x:α){Q:AV->Mem->Prop}(k:∀ o',zIG A v o' (if x∈l then l else l++[x])->Q zA3 (M.upd id o')):W3 (muO P kt M (.mp id) (A x) v) Q:=by
 obtain⟨es,c,rfl,he⟩:=h
 obtain⟨u,hu⟩:=Option.isSome_iff_exists.1 (K.ck false x)
 simp only[muO,K.hval,hg,hu]
 by_cases q:x∈l
 ·obtain⟨j,n,h1,h2⟩:=zP4 K 0 he q
  rw[if_pos q] at k
  simp only[h1,Nat.zero_add,K.hval,K.same,zJY h2,zBM wf hi]
  rw[zHR]
  exact k _ ⟨es,c,rfl,he⟩
 ·rw[if_neg q] at k
  simp only[zLI K 0 he q,zBM wf hi]
  rw[zHR]
  exact k _ ⟨es++[(A x,v,c)],c+1,rfl,by simp [he]⟩
def mlO (M:Mem)(m:AV):OR:=match m with
 | .sc (.map none)=>some (.sc (goInt 0),M)
 | .mp id=>match M.get id with
  | some (.map es _)=>some (.sc (goInt es.length),M)
  | _=>none
 | _=>none
theorem x_ml (m:Operand):zA6 P call t M (.mlen m)=mlO M (zA5 t m):=by
 simp only[zA6]
 unfold mlO
 cases zA5 t m with
 | sc v=>cases v with
  | map r=>cases r <;> rfl
  | _=>rfl
 | _=>rfl
theorem zbP {id:Nat}{o:AObj}{l:List α}{v:AV}(hg:M.get id=some o)(h:zIG A v o l):mlO M (.mp id)=some (.sc (.int .i64 l.length),M):=by
 obtain⟨es,c,rfl,he⟩:=h
 have:es.length=l.length:=by simpa using congrArg List.length he
 simp only[mlO,hg,this]
 rfl
theorem zXC (h:Wf M):zA6 P call t M .mkmap=some (.mp M.size,M.add (.map [] 0)):=by simp only[zA6,zCA h]
end
theorem zIA {α:Type}{N:Mem}{st:Nat}{T:List AV->α->Prop}{x:AV}{l:List α}(h:SlM N st T x l)(wf:Wf N)(hT:FzT T){k:Nat}(hk:1<k):∃ a' N',icy k N x=some (a',N')/\Sl st T a' l/\Wf N'/\N'.size=N.size/\(∀ j,rowOf x≠some j->N'.get j=N.get j) /\
  (∀ j,N'.rd j=N.rd j) /\ ∀ N7 m,1<m->(∀ j,rowOf x=some j->N7.get j=N'.get j)->frz N7 0 m x=some a':=by
 obtain⟨k,rfl⟩:∃ j,k=j+1:=⟨k - 1,by omega⟩
 rcases h with⟨rfl,rfl⟩ | ⟨id,rows,cap,rfl,hc,hg,hA,hr⟩
 ·exact⟨_,N,rfl,.inl ⟨rfl,rfl⟩,wf,rfl,fun _ _=>rfl,fun _=>rfl,fun N7 m hm _=>zFY _ (by omega)⟩
 ·have hfl:=zAL hr
  have lid:=Mem.get_lt hg
  have hcs:∀ N,icyL (icy k) N rows.flatten=some (rows.flatten,N):=zGW (by omega) fun x hx N=>hT.celI.flat hA x hx N k (by omega)
  have hble:Nat.ble (0+rows.length*st) rows.flatten.length=true:=zBW (by omega)
  have hsl:slot rows.flatten 0 (rows.length*st)=rows.flatten:=zC0 _ _ hfl.symm
  refine⟨.pv rows.flatten rows.length cap st,N.upd id (.fro rows.flatten), ?_,.inr ⟨rows,cap,rfl,hA,hr⟩,wf.upd _ _,rfl,fun j hj=>zA0 wf _ _ _ (fun e=>hj (by rw[e];rfl)),rd_fro' wf hg,fun N7 m hm h7=>?_⟩
  ·simp only[icy,zC4 hg,hble,hcs,hg,zBM wf lid,hsl]
  ·have q:=zKE (M:=N7) (k:=m) (off:=0) (n:=rows.length) (st:=st) (cap:=cap) (cs:=rows.flatten) (by rw[zB0,h7 id rfl,zAC wf _ _ lid,zWA]) (by omega) (by omega) (fun x hx=>(hT.cel.flat hA x hx).2 N7 _ (by omega))
   rw[q,hsl]
where
 rd_fro' {N:Mem} {id:Nat} {ds:List AV} {b:Bool} (wf:Wf N) (hg:N.get id=some (.row b ds)):∀ j,(N.upd id (.fro ds)).rd j=N.rd j:=NK.rd_fro wf hg
theorem zQS {α:Type}{N:Mem}{T:List AV->α->Prop}{x:AV}{l:List α}{H:List AV}(hz:∀ y∈H,Fz y)(h:SlM N 1 T x l)(wf:Wf N)(hT:FzT T){k:Nat}(hk:2<k):∃ a' N',icy k N (.agg (H++[x]))=some (.agg (H++[a']),N')/\Sl 1 T a' l/\Wf N'/\N'.size=N.size/\(∀ j,rowOf x≠some j->N'.get j=N.get j) /\
  (∀ j,N'.rd j=N.rd j) /\ ∀ N7 m,1<m->(∀ j,rowOf x=some j->N7.get j=N'.get j)->frz N7 0 m x=some a':=by
 obtain⟨a',N',i1,h1⟩:=zIA h wf hT (k:=k - 1) (by omega)
 refine⟨a',N', ?_,h1⟩
 obtain⟨k,rfl⟩:∃ j,k=j+1:=⟨k - 1,by omega⟩
 rw[zP6 _ (by omega),zIB (zLO (by omega) N hz) (a':=H) (b':=[a']) (K:=N') (by simp only[Nat.add_sub_cancel] at i1 ⊢;simp only[icyL,i1])]
section
variable {Q : AV -> Mem -> Prop}
theorem zT7 {α:Type}(H:List AV)(x:AV){T:List AV->α->Prop}{l:List α}{f n:Nat}{af:AFunc}{r:AV}(h:fs f=some af)(hg:af.gc=1)(hz:∀ y∈H,Fz y)(hm:SlM M 1 T x l)(wf:Wf M)(hT:FzT T)
  (hc:∀ a',Sl 1 T a' l -> ∀ M,zAF P fs fuel (n+1) (.fn f) [.agg (H++[a'])] M=some (r,M))
  (kk:∀ a' N',Sl 1 T a' l->Wf N'->N'.size=M.size->(∀ j,rowOf x≠some j->N'.get j=M.get j)->(∀ j,N'.rd j=M.rd j)->(∀ N7 m,1<m->(∀ j,rowOf x=some j->N7.get j=N'.get j)->frz N7 0 m x=some a')->Q r N') :
  W3 (zAF P fs fuel (n+1) (.fn f) [.agg (H++[x])] M) Q:=by
 obtain⟨a',N',i1,b1,w1,s1,g1,r1,f1⟩:=zQS hz hm wf hT (k:=12) (by omega)
 refine⟨r,N',zDX (bs:=[.agg (H++[a'])]) h hg (hc a' b1 mem0) (M3:=mem0) ?_ ?_,kk a' N' b1 w1 s1 g1 r1 f1⟩
 ·simp only[icyL,zAP (r:=H++[a']) (fun y hy=>by
   rcases List.mem_append.1 hy with hy | hy
   ·exact hz y hy
   ·rw[List.mem_singleton] at hy;subst hy;exact b1.fz) (show 1<12 by omega)]
 ·simp only[icyL,i1]
theorem zUZ {f f' te te1 ti1 tr1 ti tb tr te' tq:Nat}(hf':fs f'=some ⟨9,zd1 f st true te1 ti1 tr1,[.tmp 4],2⟩)(hf:fs f=some ⟨19,zLV st true te ti tb tr te' tq,[.tmp 4],1⟩)(hT:FzT T)(hS:Sl st T a l)(hl:l.length<=1000000000000000)(hfu:l.length<fuel)(hst:0<st)
  {n:Nat} {v:List AV} (hv:∀ y∈v,Fz y) (hvl:v.length=st) {p:α->Bool} {pe:Option AV->AV->AV->Option AV} (hq:∀ {t:List AV} (i j:Nat),zB9 P t (mkO (.binOp .eql te' (.tmp i) (.tmp j) te') tq)=pe (zDJ P t (mkO (.binOp .eql te' (.tmp i) (.tmp j) te') tq)) (zA5 t (.tmp i)) (zA5 t (.tmp j))) (hp:∀ d r x,T r x->x∈l->pe d (.agg v) (.agg r)=some (BL (p x))) (M:Mem) :
  zAF P fs fuel (n+2) (.fn f') [a,.agg v] M=some (BL (l.any p),M):=by
 have hi:=fun M=>zV2 (P:=P) (M:=M) (n:=n) hf hT hS hl hfu hst hv hvl hq hp
 have e:=zFR p l
 have frw:=zFO hv
 have pv:=zGE (ag:=true) hvl (by simp)
 simp only[elA] at pv
 apply zB1
 refine zIO hf' rfl (by simp only[icyL,hS.icy M 12 (by omega),zAP hv (show 1<12 by omega) M]) (by simp) fun b' ht hx=>?_
 have h0:=hx 0 _ rfl
 have h1:=hx 1 _ rfl
 clear hx
 simp only[zd1] at ht ⊢
 simp (disch:=try exact SX) only[RV,seval,zAB,h0,h1,hi,hS.fz.rows,hS.fz.one,hS.fz.cells,hS.fz.icy,hS.fz.frz,frw,pv,e,zK5]
theorem zYT {N:Mem}{f f' te te1 ti1 tr1 ti tb tr te' tq:Nat}(hf':fs f'=some ⟨9,zd1 f st true te1 ti1 tr1,[.tmp 4],2⟩)(hf:fs f=some ⟨19,zLV st true te ti tb tr te' tq,[.tmp 4],1⟩)(hT:FzT T)(hS:SlM N st T a l)(wf:Wf N)(hl:l.length<=1000000000000000)(hfu:l.length<fuel)(hst:0<st)
  {n:Nat} {v:List AV} (hv:∀ y∈v,Fz y) (hvl:v.length=st) {p:α->Bool} {pe:Option AV->AV->AV->Option AV} (hq:∀ {t:List AV} (i j:Nat),zB9 P t (mkO (.binOp .eql te' (.tmp i) (.tmp j) te') tq)=pe (zDJ P t (mkO (.binOp .eql te' (.tmp i) (.tmp j) te') tq)) (zA5 t (.tmp i)) (zA5 t (.tmp j))) (hp:∀ d r x,T r x->x∈l->pe d (.agg v) (.agg r)=some (BL (p x))) :
  zAF P fs fuel (n+2) (.fn f') [a,.agg v] N=some (BL (l.any p),N):=by
 obtain⟨a',N',i1,b1,_⟩:=zIA hS wf hT (k:=12) (by omega)
 exact zGM (bs:=[a',.agg v]) hf' rfl (zUZ (n:=n) hf' hf hT b1 hl hfu hst hv hvl hq hp mem0) (M3:=mem0) (M2:=N') (by simp only[icyL,b1.icy mem0 12 (by omega),zAP hv (show 1<12 by omega) mem0]) (by simp only[icyL,i1,zAP hv (show 1<12 by omega) N'])
theorem zgH {N:Mem}{f n:Nat}{af:AFunc}{y:AV}{v:Value}(h:fs f=some af)(hg:af.gc=2)(hT:FzT T)(hS:SlM N st T a l)(wf:Wf N)(hy:∀ M,icy 12 M y=some (y,M))(hc:∀ a',Sl st T a' l -> ∀ M,zAF P fs fuel (n+1) (.fn f) [a',y] M=some (.sc v,M)):zAF P fs fuel (n+1) (.fn f) [a,y] N=some (.sc v,N):=by
 obtain⟨a',N',i1,b1,_⟩:=zIA hS wf hT (k:=12) (by omega)
 exact zGM (bs:=[a',y]) h hg (hc a' b1 mem0) (M3:=mem0) (M2:=N') (by simp only[icyL,b1.icy mem0 12 (by omega),hy]) (by simp only[icyL,i1,hy])
theorem lend0 {N:Mem}{f n:Nat}{af:AFunc}{v:Value}(h:fs f=some af)(hg:af.gc=2)(hT:FzT T)(hS:SlM N st T a l)(wf:Wf N)(hc:∀ a',Sl st T a' l -> ∀ M,zAF P fs fuel (n+1) (.fn f) [a'] M=some (.sc v,M)):zAF P fs fuel (n+1) (.fn f) [a] N=some (.sc v,N):=by
 obtain⟨a',N',i1,b1,_⟩:=zIA hS wf hT (k:=12) (by omega)
 exact zGM (bs:=[a']) h hg (hc a' b1 mem0) (M3:=mem0) (M2:=N') (by simp only[icyL,b1.icy mem0 12 (by omega)]) (by simp only[icyL,i1])
theorem app1 {X:Mem}{bytes:Nat}{o:AV}{r:List AV}{x:α}(wf:Wf X)(h:SlM X st T o l)(hT:FzT T)(hx:T r x)(hr:r.length=st)(hs:0<st)(hb1:(l.length+1)*bytes<=140737488355328)(hb2:l.length+1<=140737488355328)
  (k:∀ o' M',SlM M' st T o' (l++[x])->Wf M'->X.size<=M'.size->(∀ j,j<X.size->rowOf o≠some j->M'.get j=X.get j)->(∀ id,rowOf o'=some id->rowOf o=some id∨X.size<=id)->M'.wm=X.wm->((rowsOf o').all fun i=>Nat.blt i M'.size)=true->oneA o'=true->cellsA o'=[o']->Q o' M'):W3 (appO (X.add (.row false r)) st bytes o (.sl X.size 0 1 (some 1) st)) Q:=by
 refine zX4 (wf.add _) (h.keep fun j hj=>zAA wf _ _ (h.lt j hj)) hT.cel (l':=[x]) (new:=[r]) ?_ rfl (.cons hx .nil) (by simpa using hr) hs (by simpa using hb1) (by simpa using hb2) fun o' M' m w le le2 kp nw wm rl on oc=>?_
 ·rw[zD6 (cs:=r) (n:=1) (st:=st) (zAE wf _ _ (Nat.le_refl _) (Nat.lt_succ_self _)) (by omega)];simp
 ·rw[zA2] at le
  refine k o' M' m w (by omega) (fun j hj hr=>?_) (fun id hid=>(nw id hid).imp (fun h=>h) (fun h=>by rw[zA2] at h;omega)) wm rl on oc
  rw[kp j (by rw[zA2];omega) hr,zAA wf _ _ hj]
theorem zgJ {N:Mem}{f n:Nat}{af:AFunc}{y:AV}{v:Value}(h:fs f=some af)(hg:af.gc=2)(hT:FzT T)(hS:Rd N st T a l)(wf:Wf N)(hy:∀ M,icy 12 M y=some (y,M))(hc:∀ a',Sl st T a' l -> ∀ M,zAF P fs fuel (n+1) (.fn f) [a',y] M=some (.sc v,M)):zAF P fs fuel (n+1) (.fn f) [a,y] N=some (.sc v,N) :=
 hS.elim (fun hS=>hc a hS N) (fun hS=>zgH h hg hT hS wf hy hc)
theorem zgI {N:Mem}{f n:Nat}{af:AFunc}{v:Value}(h:fs f=some af)(hg:af.gc=2)(hT:FzT T)(hS:Rd N st T a l)(wf:Wf N)(hc:∀ a',Sl st T a' l -> ∀ M,zAF P fs fuel (n+1) (.fn f) [a'] M=some (.sc v,M)):zAF P fs fuel (n+1) (.fn f) [a] N=some (.sc v,N) :=
 hS.elim (fun hS=>hc a hS N) (fun hS=>lend0 h hg hT hS wf hc)
end
abbrev J64 (n:Int):AV:=.sc (.int .i64 n)
def imax (a b:Int):Int:=if b > a then b else a
def imin (a b:Int):Int:=if b<a then b else a
theorem zhK (ty:TypeId)(x y:Operand)(a b:Int)(hx:zA5 t x=J64 a)(hy:zA5 t y=J64 b):zB9 P t (mkO (.call ⟨.builtin .max,#[x,y],#[ty,ty]⟩) ty)=some (J64 (imax a b)):=by
 refine zCR (v:=.int .i64 (imax a b)) ?_ ?_
 ·show ([x,y].all fun x=>(zAZ (zA5 t x)).isSome)=true
  simp only[List.all_cons,List.all_nil,hx,hy]
  rfl
 ·refine zA4 (P:=P) _ (a:=(⟨.builtin .max #[ty,ty] ty (#[x,y].map fun o=>match o with | .const _=>true | _=>false),#[.int .i64 a,.int .i64 b]⟩:Deferred)) ?_ ?_
  ·simp only[resolve,List.map_toArray,List.map_cons,List.map_nil,mkO,hx,hy,zAZ,Option.getD_some]
   rfl
  ·rfl
def zPN (d:Option AV)(u v:AV):Option AV:=match u,v with
 | .sc (.int .i64 a),.sc (.int .i64 b)=>some (J64 (imax a b))
 | _,_=>d
theorem zJG (d:Option AV)(a b:Int):zPN d (J64 a) (J64 b)=some (J64 (imax a b)):=rfl
theorem zC5 (ty:TypeId)(x y:Operand):zB9 P t (mkO (.call ⟨.builtin .max,#[x,y],#[ty,ty]⟩) ty)=zPN (zDJ P t (mkO (.call ⟨.builtin .max,#[x,y],#[ty,ty]⟩) ty)) (zA5 t x) (zA5 t y):=by
 unfold zPN
 split
 ·rename_i a b hx hy
  exact zhK ty x y a b hx hy
 ·rfl
def ze6 (d:Option AV)(u v:AV):Option AV:=match u,v with
 | .sc (.int .i64 a),.sc (.int .i64 b)=>some (J64 (imin a b))
 | _,_=>d
theorem zJI (d:Option AV)(a b:Int):ze6 d (J64 a) (J64 b)=some (J64 (imin a b)):=rfl
def ze5 (d:Option AV)(u v w:AV):Option AV:=match u,v,w with
 | .sc (.int .i64 a),.sc (.int .i64 b),.sc (.int .i64 c)=>some (J64 (imax (imax a b) c))
 | _,_,_=>d
theorem zJH (d:Option AV)(a b c:Int):ze5 d (J64 a) (J64 b) (J64 c)=some (J64 (imax (imax a b) c)):=rfl
theorem BMM:type_of% (And.intro @zJG (And.intro @zJI @zJH)):=And.intro @zJG (And.intro @zJI @zJH)
theorem Kept.bk {M N:Mem}(h:Kept M.lo N):Kept M (M.bk N):=by
 have hd:N.dirty=false:=h.di
 exact⟨h.wf,h.le,h.get,rfl,by show (M.dirty || N.dirty)=M.dirty;rw[hd,Bool.or_false]⟩
theorem Kept.wml {M N:Mem}(h:Kept M N)(hw:M.wm<=M.size):N.wm<=N.size:=by rw[h.wm];exact Nat.le_trans hw h.le
theorem All2.set2 {α β:Type}{T:α->β->Prop}:∀ {l:List α} {m:List β},All2 T l m -> ∀ (i:Nat) {x:α} {y:β},T x y->All2 T (l.set i x) (m.set i y)
 | _,_,.nil,_,_,_,_ => .nil
 | _,_,.cons a t,0,_,_,h => .cons h t
 | _,_,.cons a t,i+1,_,_,h => .cons a (t.set2 i h)
theorem zF1 (M:Mem)(v:Value):icy 12 M (.sc v)=some (.sc v,M):=zQV v (by omega)
namespace NK
variable {β : Type} {K : NK α β} {N : Mem} {B : Nat}
end NK
theorem zO0 {cs r:List AV}{at_ st off n:Nat}{ag:Bool}(h:slot cs at_ st=r)(hl:at_+st<=cs.length)(ho:off+n<=st):part cs (at_+off) n ag=part r off n ag:=by
 have hr:r.length=st:=by rw[<- h];simp [slot];omega
 have e:slot cs (at_+off) n=slot r off n:=by
  rw[<- h]
  simp only[slot]
  rw[List.drop_take,List.take_take,List.drop_drop,Nat.min_eq_left (by omega)]
 unfold part
 rw[e,Nat.ble_eq_true_of_le (show at_+off+n<=cs.length by omega),Nat.ble_eq_true_of_le (show off+n<=r.length by omega)]
theorem zYP {cs r:List AV}{at_ st off:Nat}(h:slot cs at_ st=r)(ho:off<st):cs[at_+off]? = r[off]? := by
 rw[<- h]
 simp only[slot]
 rw[List.getElem?_take_of_lt ho,List.getElem?_drop]
abbrev Cl:=Tg->List AV->Mem->Option (AV × Mem)
variable {call : Cl}
def insA (O:Nat->Oper)(g:FuncId)(e:TypeId)(st by':Nat)(z:Value):ACode :=
 (.seq (.region [⟨some 6,.mov (.const (.slice none 0 0)),none,[]⟩] false)
 (.seq (.region [⟨some 10,.mov (.tmp 0),none,[]⟩,
  ⟨some 11,.mov (.tmp 1),none,[]⟩,
  ⟨some 12,.slc st (.tmp 10) (some (.tmp 11)) none none,none,[]⟩] false)
 (.seq (.region [⟨some 13,.mov (.tmp 2),none,[]⟩,
  ⟨some 14,.len (.tmp 13),none,[]⟩,
  ⟨some 7,.mov (.tmp 14),none,[]⟩] false)
 (.seq (.seq (.region [⟨some 15,.mov (.tmp 7),none,[]⟩,
  ⟨some 16,.pur (O 0),none,[]⟩] false)
 (.cond (.tmp 16)
  (.seq (.region [⟨some 17,.mov (.tmp 0),none,[]⟩,
   ⟨some 6,.mov (.tmp 17),none,[]⟩] false)
  .ret)
  .skip))
 (.seq (.region [⟨some 18,.mov (.tmp 0),none,[]⟩,
  ⟨some 19,.len (.tmp 18),none,[]⟩,
  ⟨some 8,.mov (.tmp 19),none,[]⟩] false)
 (.seq (.seq (.region [⟨some 20,.mov (.tmp 1),none,[]⟩,
  ⟨some 21,.mov (.tmp 8),none,[]⟩,
  ⟨some 22,.pur (O 1),none,[]⟩] false)
 (.cond (.tmp 22)
  (.seq (.region [⟨some 23,.mov (.tmp 0),none,[]⟩,
   ⟨some 24,.mov (.tmp 2),none,[]⟩,
   ⟨some 25,.app e st by' z (.tmp 23) (.tmp 24),none,[]⟩,
   ⟨some 6,.mov (.tmp 25),none,[]⟩] false)
  .ret)
  .skip))
 (.seq (.seq (.region [⟨some 26,.mov (.tmp 8),none,[]⟩,
  ⟨some 27,.mov (.tmp 7),none,[]⟩,
  ⟨some 28,.pur (O 2),none,[]⟩,
  ⟨some 29,.mov (.tmp 0),none,[]⟩,
  ⟨some 30,.cap (.tmp 29),none,[]⟩,
  ⟨some 31,.pur (O 3),none,[]⟩] false)
 (.cond (.tmp 31)
  (.seq (.region [⟨some 32,.mov (.tmp 0),none,[]⟩,
   ⟨some 33,.mov (.tmp 1),none,[]⟩,
   ⟨some 34,.slc st (.tmp 32) none (some (.tmp 33)) none,none,[]⟩,
   ⟨some 35,.mov (.tmp 8),none,[]⟩,
   ⟨some 36,.mov (.tmp 7),none,[]⟩,
   ⟨some 37,.pur (O 4),none,[]⟩,
   ⟨some 38,.mov (.tmp 1),none,[]⟩,
   ⟨some 39,.pur (O 5),none,[]⟩,
   ⟨some 40,.appz e st by' z (.tmp 34) (.tmp 39),none,[]⟩,
   ⟨some 9,.mov (.tmp 40),none,[]⟩] false)
  (.seq (.region [⟨some 41,.mov (.tmp 9),none,[]⟩,
   ⟨some 42,.mov (.tmp 1),none,[]⟩,
   ⟨some 43,.slc st (.tmp 41) (some (.tmp 42)) none none,none,[]⟩,
   ⟨some 44,.mov (.tmp 2),none,[]⟩,
   ⟨some 45,.cpy st (.tmp 43) (.tmp 44),none,[]⟩] false)
  (.seq (.region [⟨some 46,.mov (.tmp 9),none,[1,2,3,5,6,7]⟩,
   ⟨some 47,.mov (.tmp 1),none,[0,2,5,6,7]⟩,
   ⟨some 48,.mov (.tmp 7),none,[0,1,5,6,7]⟩,
   ⟨some 49,.pur (O 6),none,[0,5,6,7]⟩,
   ⟨some 50,.slc st (.tmp 46) (some (.tmp 49)) none none,none,[5,6,7]⟩,
   ⟨some 51,.mov (.tmp 0),none,[0,1,2,3,4,6]⟩,
   ⟨some 52,.mov (.tmp 1),none,[0,1,2,3,4,5]⟩,
   ⟨some 53,.slc st (.tmp 51) (some (.tmp 52)) none none,none,[0,1,2,3,4]⟩,
   ⟨some 54,.cpy st (.tmp 50) (.tmp 53),none,[]⟩] true)
  (.seq (.region [⟨some 55,.mov (.tmp 9),none,[]⟩,
   ⟨some 6,.mov (.tmp 55),none,[]⟩] false)
  .ret))))
  .skip))
 (.seq (.region [⟨some 56,.mov (.tmp 0),none,[]⟩,
  ⟨some 57,.mov (.tmp 8),none,[]⟩,
  ⟨some 58,.mov (.tmp 7),none,[]⟩,
  ⟨some 59,.pur (O 7),none,[]⟩,
  ⟨some 60,.slc st (.tmp 56) none (some (.tmp 59)) none,none,[]⟩,
  ⟨some 0,.mov (.tmp 60),none,[]⟩] false)
 (.seq (.seq (.region [⟨some 61,.mov (.tmp 2),none,[]⟩,
  ⟨some 62,.mov (.tmp 0),none,[]⟩,
  ⟨some 63,.mov (.tmp 1),none,[]⟩,
  ⟨some 64,.mov (.tmp 7),none,[]⟩,
  ⟨some 65,.pur (O 8),none,[]⟩,
  ⟨some 66,.slc st (.tmp 62) (some (.tmp 65)) none none,none,[]⟩,
  ⟨some 67,.ovl st (.tmp 61) (.tmp 66),none,[]⟩,
  ⟨some 68,.pur (O 9),none,[]⟩] false)
 (.cond (.tmp 68)
  (.seq (.region [⟨some 69,.mov (.tmp 0),none,[1,2,3,5,6,7]⟩,
   ⟨some 70,.mov (.tmp 1),none,[0,2,5,6,7]⟩,
   ⟨some 71,.mov (.tmp 7),none,[0,1,5,6,7]⟩,
   ⟨some 72,.pur (O 10),none,[0,5,6,7]⟩,
   ⟨some 73,.slc st (.tmp 69) (some (.tmp 72)) none none,none,[5,6,7]⟩,
   ⟨some 74,.mov (.tmp 0),none,[0,1,2,3,4,6]⟩,
   ⟨some 75,.mov (.tmp 1),none,[0,1,2,3,4,5]⟩,
   ⟨some 76,.slc st (.tmp 74) (some (.tmp 75)) none none,none,[0,1,2,3,4]⟩,
   ⟨some 77,.cpy st (.tmp 73) (.tmp 76),none,[]⟩] true)
  (.seq (.region [⟨some 78,.mov (.tmp 0),none,[]⟩,
   ⟨some 79,.mov (.tmp 1),none,[]⟩,
   ⟨some 80,.slc st (.tmp 78) (some (.tmp 79)) none none,none,[]⟩,
   ⟨some 81,.mov (.tmp 2),none,[]⟩,
   ⟨some 82,.cpy st (.tmp 80) (.tmp 81),none,[]⟩] false)
  (.seq (.region [⟨some 83,.mov (.tmp 0),none,[]⟩,
   ⟨some 6,.mov (.tmp 83),none,[]⟩] false)
  .ret)))
  .skip))
 (.seq (.region [⟨some 84,.mov (.tmp 0),none,[]⟩,
  ⟨some 85,.mov (.tmp 8),none,[]⟩,
  ⟨some 86,.slc st (.tmp 84) (some (.tmp 85)) none none,none,[]⟩,
  ⟨some 87,.mov (.tmp 2),none,[]⟩,
  ⟨some 88,.cpy st (.tmp 86) (.tmp 87),none,[]⟩] false)
 (.seq (.region [⟨some 89,.mov (.tmp 0),none,[]⟩,
  ⟨some 90,.mov (.tmp 1),none,[]⟩,
  ⟨some 91,.slc st (.tmp 89) (some (.tmp 90)) none none,none,[]⟩,
  ⟨some 92,.mov (.tmp 7),none,[]⟩,
  ⟨some 93,.call (.func g) [(.tmp 91),(.tmp 92)],none,[]⟩] false)
 (.seq (.region [⟨some 94,.mov (.tmp 0),none,[]⟩,
  ⟨some 6,.mov (.tmp 94),none,[]⟩] false)
 .ret))))))))))))
structure InsO (O:Nat->Oper) (ti tb:TypeId):Prop where
 h0:(O 0).op = .binOp .eql ti (.tmp 15) (.const (.int .i64 0)) ti
 h1:(O 1).op = .binOp .eql ti (.tmp 20) (.tmp 21) ti
 h2:(O 2).op = .binOp .add ti (.tmp 26) (.tmp 27) ti
 h3:(O 3).op = .binOp .gtr ti (.tmp 28) (.tmp 30) ti
 h4:(O 4).op = .binOp .add ti (.tmp 35) (.tmp 36) ti
 h5:(O 5).op = .binOp .sub ti (.tmp 37) (.tmp 38) ti
 h6:(O 6).op = .binOp .add ti (.tmp 47) (.tmp 48) ti
 h7:(O 7).op = .binOp .add ti (.tmp 57) (.tmp 58) ti
 h8:(O 8).op = .binOp .add ti (.tmp 63) (.tmp 64) ti
 h9:(O 9).op = .unOp .not tb (.tmp 67)
 h10:(O 10).op = .binOp .add ti (.tmp 70) (.tmp 71) ti
def Rm (M:Mem):Prop:=M.size<=M.t.length
theorem Mem.put_ok {M:Mem}{i:Nat}(h:i<M.size)(hs:Rm M)(o:AObj):∃ M',M.put i o=some M':=by
 unfold Mem.put
 rw[(zAJ _ _).2 h]
 simp only[T.set_eq]
 rw[if_pos (Nat.lt_of_lt_of_le h hs)]
 exact⟨_,rfl⟩
theorem Mem.new_ok {M:Mem}(hs:Rm M)(o:AObj):∃ M',M.new o=some (M.size,M'):=by
 unfold Mem.new
 simp only[T.set_eq]
 unfold Rm at hs
 by_cases e:M.size<M.t.length
 ·rw[if_pos e];exact⟨_,rfl⟩
 ·rw[if_neg e,if_pos (by omega)];exact⟨_,rfl⟩
theorem Rm.put {M M':Mem}{i:Nat}{o:AObj}(hs:Rm M)(h:M.put i o=some M'):Rm M':=by
 have hlt:=(Mem.put_spec h).1
 unfold Rm at *
 unfold Mem.put at h
 rw[(zAJ _ _).2 hlt] at h
 simp only[T.set_eq,if_pos (Nat.lt_of_lt_of_le hlt hs)] at h
 cases h
 simp only[List.length_set]
 exact hs
theorem Rm.new {M M':Mem}{k:Nat}{o:AObj}(hs:Rm M)(h:M.new o=some (k,M')):Rm M':=by
 unfold Rm at *
 unfold Mem.new at h
 simp only[T.set_eq] at h
 by_cases e:M.size<M.t.length
 ·rw[if_pos e] at h
  cases h
  simp only[List.length_set]
  omega
 ·rw[if_neg e,if_pos (by omega)] at h
  cases h
  simp only[List.length_append,List.length_singleton]
  omega
theorem Rm.of_new {M M1 M':Mem}{id k:Nat}{o o2:AObj}{r:AObj}(hg:M.get id=some r)(hp:M.put id o=some M1)(h:M1.new o2=some (k,M')):Rm M:=by
 have hlt:=(Mem.put_spec hp).1
 have hget:T.get M.t id=some r:=by
  unfold Mem.get at hg
  rw[(zAJ _ _).2 hlt] at hg
  exact hg
 rw[T.get_eq] at hget
 have hl:id<M.t.length:=by
  by_cases e:id<M.t.length
  ·exact e
  ·rw[List.getElem?_eq_none (by omega)] at hget;cases hget
 unfold Mem.put at hp
 rw[(zAJ _ _).2 hlt] at hp
 simp only[T.set_eq,if_pos hl] at hp
 cases hp
 unfold Mem.new at h
 simp only[T.set_eq,List.length_set] at h
 unfold Rm
 by_cases e:M.size<M.t.length
 ·omega
 ·by_cases e2:M.size=M.t.length
  ·omega
  ·rw[if_neg e,if_neg e2] at h
   cases h
theorem zXW {a b:Nat}(h:b<a):Nat.ble a b=false:=by
 cases hb:Nat.ble a b with
 | false=>rfl
 | true=>have:=Nat.le_of_ble_eq_true hb;omega
theorem zIL {a b:Nat}(h:a≠b):Nat.beq a b=false:=by
 cases hb:Nat.beq a b with
 | false=>rfl
 | true=>exact absurd (Nat.eq_of_beq_eq_true hb) h
theorem zN3 (a:Nat):Nat.beq a a=true:=Nat.beq_refl a
def fr0 (X I Y:AV):Fr:=⟨[X,I,Y]++List.replicate 92 zA3,[]⟩
def zeF (a b:IntKind):Bool:=a == b
theorem zaE {a b:IntKind}(h:zeF a b=true):a=b:=by
 cases a <;> cases b <;> first | rfl | cases h
theorem zH7:zeF .i64 .i64=true:=rfl
theorem zUY (P:Program)(op:BinOp)(ty:TypeId)(x y:Operand)(k k':IntKind)(a b:Int):zAG P (eqGuard op ty x y (.int k a) (.int k' b))=some ():=by
 cases op <;> rfl
theorem zSZ {P:Program}{l:List AV}{o:Oper}{op:BinOp}{ty yt:TypeId}{x y:Operand}{k:IntKind}{a b:Int}(ho:o.op = .binOp op ty x y yt)(hx:zA5 l x = .sc (.int k a))(hy:zA5 l y = .sc (.int k b)){v:Value}
  (h:zAG P (binOp op ty (.int k a) (.int k b))=some v):zB9 P l o=some (.sc v):=by
 unfold zB9
 have h1:o.op.operands.toList.all (fun x=>(zAZ (zA5 l x)).isSome)=true:=by
  rw[ho];simp [Op.operands,hx,hy,zAZ]
 simp only[h1]
 have h2:zAG P (execOp (fun x=>(zAZ (zA5 l x)).getD undef) o)=some (.value v):=by
  have hg:=zUY P op ty x y k k a b
  simp only[execOp,ho,hx,hy,zAZ,Option.getD_some]
  exact zA4 _ (zA4 _ hg h) rfl
 rw[h2]
theorem zBZ {P:Program}{t:List AV}{o:Oper}{op:BinOp}{ty yt:TypeId}{x y:Operand}(ho:o.op = .binOp op ty x y yt) :
  zB9 P t o=(match zA5 t x with
   | .sc (.int k a)=>match zA5 t y with
    | .sc (.int j b)=>match zeF k j with
     | true=>match zAG P (binOp op ty (.int k a) (.int k b)) with
      | some v=>some (.sc v)
      | none=>zDJ P t o
     | false=>zDJ P t o
    | _=>zDJ P t o
   | _=>zDJ P t o):=by
 split
 ·rename_i k a hx
  split
  ·rename_i j b hy
   split
   ·rename_i hk
    have:=zaE hk;subst this
    split
    ·rename_i v hv;exact zSZ ho hx hy hv
    ·rfl
   ·rfl
  ·rfl
 ·rfl
theorem zZX {P:Program}{t:List AV}{o:Oper}{ty:TypeId}{x:Operand}(ho:o.op = .unOp .not ty x) :
  zB9 P t o=(match zA5 t x with
   | .sc (.bool b)=>some (.sc (.bool (!b)))
   | _=>zDJ P t o):=by
 split
 ·rename_i b hx
  unfold zB9
  have h1:o.op.operands.toList.all (fun x=>(zAZ (zA5 t x)).isSome)=true:=by
   rw[ho];simp [Op.operands,hx,zAZ]
  simp only[h1]
  have h2:zAG P (execOp (fun x=>(zAZ (zA5 t x)).getD undef) o)=some (.value (.bool (!b))):=by
   simp only[execOp,ho,hx,zAZ,Option.getD_some]
   rfl
  rw[h2]
 ·rfl
theorem rEql (P:Program)(ty:TypeId)(k:IntKind)(a b:Int):zAG P (binOp .eql ty (.int k a) (.int k b))=some (.bool (decide (a=b))):=vEql ty k a b
theorem rGtr (P:Program)(ty:TypeId)(k:IntKind)(a b:Int):zAG P (binOp .gtr ty (.int k a) (.int k b))=some (.bool (decide (b<a))):=vGtr ty k a b
theorem rAdd (P:Program)(ty:TypeId)(k:IntKind)(a b:Int):zAG P (binOp .add ty (.int k a) (.int k b))=some (.int k (k.wrap (a+b))):=vAdd ty k a b
theorem rSub (P:Program)(ty:TypeId)(k:IntKind)(a b:Int):zAG P (binOp .sub ty (.int k a) (.int k b))=some (.int k (k.wrap (a - b))):=vSub ty k a b
theorem zH0 (k:IntKind)(n:Nat):zCL (.sc (.int k (n:Int)))=some n:=rfl
section
variable {O : Nat -> Oper} {ti tb : TypeId} {g : FuncId} {e : TypeId} {by' : Nat} {z : Value} {k id2 off off2 n m c i : Nat} {cap2 : Option Nat} {str : Bool} {cs cs2 : List AV}
structure InsHyp (M:Mem) (k id2 off2 n m c i st by':Nat) (str:Bool) (cs cs2:List AV):Prop where
 gk:M.get k=some (.row str cs)
 g2:M.get id2=some (.row false cs2)
 lk:cs.length=c*st
 l2:off2+m*st<=cs2.length
 nc:n<=c
 im:i<=n
 m0:0<m
 s0:0<st
 ne:k≠id2
 b1:(n+m)*by'<=140737488355328
 b2:n+m<=140737488355328
 ms:Rm M
 o1:(slot cs 0 (n*st)).all oneA=true
 o2:(slot cs2 off2 (m*st)).all oneA=true
structure InsHypG (M:Mem) (k id2 off off2 n m c i st by':Nat) (str:Bool) (cs cs2:List AV):Prop where
 gk:M.get k=some (.row str cs)
 g2:M.get id2=some (.row false cs2)
 lk:off+n*st<=cs.length
 l2:off2+m*st<=cs2.length
 nc:n<=c
 im:i<=n
 m0:0<m
 s0:0<st
 ne:k≠id2
 b1:(n+m)*by'<=140737488355328
 b2:n+m<=140737488355328
 ms:Rm M
 o1:(slot cs off (n*st)).all oneA=true
 o2:(slot cs2 off2 (m*st)).all oneA=true
theorem zC7 {l:List AV}{o n:Nat}(h:o+n<=l.length):(slot l o n).length=n:=by
 unfold slot;simp;omega
theorem zHV {id off len c:Nat}{old new:List AV}{by':Nat}{M1:Mem}{j:Nat}(h0:0<m)(h1:new.all oneA=true)(hl:new.length=m*st)(b1:(len+m)*by'<=140737488355328)(b2:len+m<=140737488355328)
  (gk:M.get id=some (.row str cs)) (hc:c<len+m) (hn:M.new (.row false (old++new))=some (j,M1)):zBF M (.sl id off len (some c) st) old new m st by'=some (.sl j 0 (len+m) none st,M1):=by
 unfold zBF
 simp only[zIL (show m≠0 by omega),h1,hl,zN3,Bool.and_self,zBW b1,zBW b2,gk,zXW hc,hn]
theorem zN2 {id off len c:Nat}{old new:List AV}{by':Nat}{M1:Mem}(h0:0<m)(h1:new.all oneA=true)(hl:new.length=m*st)(b1:(len+m)*by'<=140737488355328)(b2:len+m<=140737488355328)
  (gk:M.get id=some (.row str cs)) (hc:len+m<=c) (hcs:off+(len+m)*st<=cs.length) (hp:M.put id (.row str (lay cs (off+len*st) new))=some M1):zBF M (.sl id off len (some c) st) old new m st by'=some (.sl id off (len+m) (some c) st,M1):=by
 unfold zBF
 simp only[zIL (show m≠0 by omega),h1,hl,zN3,Bool.and_self,zBW b1,zBW b2,gk,zBW hc,zBW hcs,hp]
def out6:Option (AExit × Fr × Mem)->Option (AExit × AV × List Nat × Mem)
 | some (e,fr,M)=>some (e,nth zA3 fr.t 6,fr.marks,M)
 | none=>none
theorem zW1 {x:Option (AExit × Fr × Mem)}{e:AExit}{v:AV}{mk:List Nat}{M:Mem}(h:out6 x=some (e,v,mk,M)):∃ t,x=some (e,⟨t,mk⟩,M)/\nth zA3 t 6=v:=by
 cases x with
 | none=>cases h
 | some q=>obtain⟨e',fr,M'⟩:=q;cases h;exact⟨fr.t,rfl,rfl⟩
set_option maxRecDepth 10000 in
theorem zNG (hO:InsO O ti tb)(H:InsHypG M k id2 off off2 n m c n st by' str cs cs2)(hc:c<n+m) :
  ∃ M',out6 (zA8 P 20000 call none (insA O g e st by' z) (fr0 (.sl k off n (some c) st) (.sc (.int .i64 (n:Int))) (.sl id2 off2 m cap2 st)) M)=some (.ret,.sl M.size 0 (n+m) none st,[],M') /\
   M.new (.row false (slot cs off (n*st)++slot cs2 off2 (m*st)))=some (M.size,M'):=by
 obtain⟨gk,g2,lk,l2,nc,im,m0,s0,ne,b1,b2,ms,o1,o2⟩:=H
 obtain⟨M',hM'⟩:=Mem.new_ok (M:=M) ms (.row false (slot cs off (n*st)++slot cs2 off2 (m*st)))
 have kM:=zF0 (Mem.get_lt gk)
 have k2M:=zF0 (Mem.get_lt g2)
 have hnn:=zBW (Nat.le_refl n)
 have hm0:((m:Int)=0)=False:=eq_false (by omega)
 have hst:=zN3 st
 have hcs:Nat.ble (off+n*st) cs.length=true:=zBW lk
 have hcs2:Nat.ble (off2+m*st) cs2.length=true:=zBW l2
 have hap:=zHV (off:=off) (old:=slot cs off (n*st)) (by':=by') m0 o2 (zC7 l2) b1 b2 gk hc hM'
 exact zE02
set_option maxRecDepth 10000 in
theorem zNH (hO:InsO O ti tb)(H:InsHyp M k id2 off2 n m c n st by' str cs cs2)(hc:n+m<=c) :
  ∃ M',out6 (zA8 P 20000 call none (insA O g e st by' z) (fr0 (.sl k 0 n (some c) st) (.sc (.int .i64 (n:Int))) (.sl id2 off2 m cap2 st)) M)=some (.ret,.sl k 0 (n+m) (some c) st,[],M') /\
   M.put k (.row str (lay cs (n*st) (slot cs2 off2 (m*st))))=some M':=by
 obtain⟨gk,g2,lk,l2,nc,im,m0,s0,ne,b1,b2,ms,o1,o2⟩:=H
 have kM:=zF0 (Mem.get_lt gk)
 obtain⟨M',hM'⟩:=Mem.put_ok (M:=M) (Mem.get_lt gk) ms (.row str (lay cs (n*st) (slot cs2 off2 (m*st))))
 have k2M:=zF0 (Mem.get_lt g2)
 have hnn:=zBW (Nat.le_refl n)
 have hm0:((m:Int)=0)=False:=eq_false (by omega)
 have hst:=zN3 st
 have hcs:Nat.ble (n*st) cs.length=true:=zBW (by rw[lk];exact Nat.mul_le_mul_right st nc)
 have hcs2:Nat.ble (off2+m*st) cs2.length=true:=zBW l2
 have hap:=zN2 (off:=0) (old:=slot cs 0 (n*st)) (by':=by') m0 o2 (zC7 l2) b1 b2 gk hc (by rw[lk,Nat.zero_add];exact Nat.mul_le_mul_right st hc) (by rw[Nat.zero_add];exact hM')
 exact zE02
theorem ziB {n:Nat}(h:(n:Int)<=9223372036854775807):IntKind.i64.wrap (n:Int)=n:=wrap_i64 (by omega) h
theorem zDZ {a b:Nat}(h:a+b<=9223372036854775807):IntKind.i64.wrap ((a:Int)+(b:Int))=((a+b:Nat):Int):=by
 have:=ziB (n:=a+b) (by omega)
 simpa using this
theorem zOH {a b:Nat}(hb:b<=a)(h:a<=9223372036854775807):IntKind.i64.wrap ((a:Int) - (b:Int))=((a - b:Nat):Int):=by
 have:=ziB (n:=a - b) (by omega)
 have e:(a:Int) - (b:Int)=((a - b:Nat):Int):=by omega
 rw[e]
 simpa using this
theorem zM0 {A B C new:List AV}{o:Nat}(hA:A.length=o)(hB:B.length=new.length):lay (A++(B++C)) o new=A++(new++C):=by
 subst hA
 unfold lay
 rw[List.take_left,<- List.append_assoc,List.drop_append_of_le_length (by simp;omega)]
 simp [hB]
theorem zC9 {a b s:Nat}(h:a<=b):a*s<=b*s:=Nat.mul_le_mul_right s h
set_option maxRecDepth 10000 in
set_option maxHeartbeats 1000000 in
theorem zNJ (hO:InsO O ti tb)(H:InsHypG M k id2 off off2 n m c i st by' str cs cs2)(hz:∀ q,(zA9 z q).all oneA=true/\(zA9 z q).length=q*st)(oc:(slot cs (off+i*st) ((n - i)*st)).all oneA=true)(hi:i<n)(hc:c<n+m) :
  ∃ M',out6 (zA8 P 20000 call none (insA O g e st by' z) (fr0 (.sl k off n (some c) st) (.sc (.int .i64 (i:Int))) (.sl id2 off2 m cap2 st)) M)=some (.ret,.sl M.size 0 (n+m) none st,[],M') /\
   M'.size=M.size+1/\(∀ j,j<M.size->M'.get j=M.get j)/\M'.get M.size=some (.row false (slot cs off (i*st)++(slot cs2 off2 (m*st)++slot cs (off+i*st) ((n - i)*st)))):=by
 obtain⟨gk,g2,lk,l2,nc,im,m0,s0,ne,b1,b2,ms,o1,o2⟩:=H
 have kM:=zF0 (Mem.get_lt gk)
 have k2M:=zF0 (Mem.get_lt g2)
 have e1:i+(n+m - i)=n+m:=by omega
 obtain⟨hz1,hz2⟩:=hz (n+m - i)
 obtain⟨M1,hM1⟩:=Mem.new_ok (M:=M) ms (.row false (slot cs off (i*st)++zA9 z (n+m - i)))
 obtain⟨_,s1,q1,r1,_,_⟩:=Mem.new_spec hM1
 obtain⟨M2,hM2⟩:=Mem.put_ok (M:=M1) (i:=M.size) (by omega) (ms.new hM1) (.row false (lay (slot cs off (i*st)++zA9 z (n+m - i)) (i*st) (slot cs2 off2 (m*st))))
 obtain⟨_,s2,q2,_,_⟩:=Mem.put_spec hM2
 obtain⟨M3,hM3⟩:=Mem.put_ok (M:=M2) (i:=M.size) (by omega) ((ms.new hM1).put hM2) (.row false (lay (lay (slot cs off (i*st)++zA9 z (n+m - i)) (i*st) (slot cs2 off2 (m*st))) ((i+m)*st) (slot cs (off+i*st) ((n - i)*st))))
 obtain⟨_,s3,q3,_,_⟩:=Mem.put_spec hM3
 have hin':n*st=i*st+(n - i)*st:=by rw[<- Nat.add_mul];congr 1;omega
 have lA:(slot cs off (i*st)).length=i*st:=zC7 (by omega)
 have lN:(slot cs2 off2 (m*st)).length=m*st:=zC7 l2
 have lT:(slot cs (off+i*st) ((n - i)*st)).length=(n - i)*st:=zC7 (by omega)
 have hst:=zN3 st
 have hst0:Nat.beq c 0=false:=zIL (by omega)
 have hm0:((m:Int)=0)=False:=eq_false (by omega)
 have hin:((i:Int)=(n:Int))=False:=eq_false (by omega)
 have hw1:=zDZ (a:=n) (b:=m) (by omega)
 have hw2:=zOH (a:=n+m) (b:=i) (by omega) (by omega)
 have hw3:=zDZ (a:=i) (b:=m) (by omega)
 have hgt:((c:Int)<((n+m:Nat):Int))=True:=eq_true (by omega)
 have a1:Nat.ble i n=true:=zBW (by omega)
 have a2:Nat.ble i c=true:=zBW (by omega)
 have a3:Nat.ble 0 i=true:=zBW (by omega)
 have a4:Nat.ble (off+i*st) cs.length=true:=zBW (by omega)
 have hap:=zHV (off:=off) (len:=i) (c:=c) (m:=n+m - i) (old:=slot cs off (i*st)) (by':=by') (by omega) hz1 hz2 (by rw[e1];exact b1) (by rw[e1];exact b2) gk (by omega) hM1
 rw[e1] at hap
 have gM1:M1.get M.size=some (.row false (slot cs off (i*st)++zA9 z (n+m - i))):=r1
 have g12:M1.get id2=some (.row false cs2):=by rw[q1 _ (Mem.get_lt g2),g2]
 have b1M:Nat.blt M.size M1.size=true:=zF0 (by omega)
 have b2M:Nat.blt id2 M1.size=true:=zF0 (by have:=Mem.get_lt g2;omega)
 have a5:Nat.ble i (n+m)=true:=zBW (by omega)
 have hmin1:Nat.min m (n+m - i)=m:=Nat.min_eq_left (by omega)
 have a6:Nat.ble m m=true:=zBW (Nat.le_refl _)
 have a7:Nat.ble (off2+m*st) cs2.length=true:=zBW l2
 have a8:Nat.ble (i*st+(slot cs2 off2 (m*st)).length) (slot cs off (i*st)++zA9 z (n+m - i)).length=true:=zBW (by rw[List.length_append,lA,lN,hz2];have:=zC9 (s:=st) (show m<=n+m - i by omega);omega)
 have gM2:M2.get M.size=some (.row false (lay (slot cs off (i*st)++zA9 z (n+m - i)) (i*st) (slot cs2 off2 (m*st)))):=by rw[q2,if_pos rfl]
 have gM2k:M2.get k=some (.row str cs):=by have:=Mem.get_lt gk;rw[q2,if_neg (by omega),q1 _ this,gk]
 have b3M:Nat.blt M.size M2.size=true:=zF0 (by omega)
 have b4M:Nat.blt k M2.size=true:=zF0 (by have:=Mem.get_lt gk;omega)
 have f1:Nat.ble M2.size k=false:=zXW (by have:=Mem.get_lt gk;omega)
 have f2:Nat.ble M2.size M.size=false:=zXW (by omega)
 have a9:Nat.ble (i+m) (n+m)=true:=zBW (by omega)
 have a10:Nat.beq c i=false:=zIL (by omega)
 have hmin2:Nat.min (n - i) (n+m - (i+m))=n - i:=Nat.min_eq_left (by omega)
 have a11:Nat.ble (n - i) (n - i)=true:=zBW (Nat.le_refl _)
 have a12:Nat.ble (off+i*st+(n - i)*st) cs.length=true:=zBW (by omega)
 have lR1:lay (slot cs off (i*st)++zA9 z (n+m - i)) (i*st) (slot cs2 off2 (m*st))=slot cs off (i*st)++(slot cs2 off2 (m*st)++(zA9 z (n+m - i)).drop (m*st)):=by
  have:=zM0 (A:=slot cs off (i*st)) (B:=(zA9 z (n+m - i)).take (m*st)) (C:=(zA9 z (n+m - i)).drop (m*st)) (new:=slot cs2 off2 (m*st)) lA (by
   rw[List.length_take,hz2,lN];have:=zC9 (s:=st) (show m<=n+m - i by omega);omega)
  rwa [List.take_append_drop] at this
 have a13:Nat.ble ((i+m)*st+(slot cs (off+i*st) ((n - i)*st)).length) (lay (slot cs off (i*st)++zA9 z (n+m - i)) (i*st) (slot cs2 off2 (m*st))).length=true:=zBW (by
  rw[lR1]
  simp only[List.length_append,List.length_drop,lA,lN,lT,hz2]
  have h1:(n+m - i)*st=(n - i)*st+m*st:=by rw[<- Nat.add_mul];congr 1;omega
  rw[h1,Nat.add_mul];omega)
 have o3:=oc
 refine⟨M3, ?_,by omega,fun j hj=>by rw[q3,if_neg (by omega),q2,if_neg (by omega),q1 _ hj], ?_⟩
 ·simp only[List.cons_append,List.nil_append,List.all_nil,List.all_cons,Bool.and_self,Bool.and_true,Bool.true_and,decide_false,decide_true,Bool.not_true,Bool.not_false,Nat.zero_add,Nat.add_zero,Nat.zero_mul,Nat.sub_zero,out6,fr0,insA,zA8,zAR,zA6,zBQ,zCD,zAQ,rowsOf,zA5,nth,putA,zCF,bound,lenA,goInt,List.replicate,zBZ hO.h0,zBZ hO.h1,zBZ hO.h2,zBZ hO.h3,zBZ hO.h4,zBZ hO.h5,zBZ hO.h6,zBZ hO.h7,zBZ hO.h8,zZX hO.h9,zBZ hO.h10,zH7,rEql,rGtr,rAdd,rSub,zH0,cellsOf,zE9,Mem.rd,kM,k2M,gk,g2,hst,decide_eq_true_eq,eq_self_iff_true,zAK,zBJ,zB4,zBS,FP.apart,FP.reads,FP.writes,disj,List.isEmpty_nil,List.isEmpty_cons,Bool.false_and,List.contains_cons,List.contains_nil,Bool.false_or,Bool.or_false,Bool.true_or,Bool.or_true,beq_self_eq_true,Nat.reduceBEq,Bool.and_false,hm0,hin,hw1,hw2,hw3,hgt,a1,a2,a3,a4,hap,gM1,g12,b1M,b2M,a5,hmin1,a6,a7,a8,o2,hM2,gM2,gM2k,b3M,b4M,f1,f2,a9,a10,hmin2,a11,a12,a13,o3,hM3,hst0,zN3]
 ·rw[q3,if_pos rfl,lR1]
  have h1:(i+m)*st=i*st+m*st:=Nat.add_mul ..
  have h2:(n+m - i)*st=(n - i)*st+m*st:=by rw[<- Nat.add_mul];congr 1;omega
  have:=zM0 (A:=slot cs off (i*st)++slot cs2 off2 (m*st)) (B:=(zA9 z (n+m - i)).drop (m*st)) (C:=[]) (new:=slot cs (off+i*st) ((n - i)*st)) (o:=(i+m)*st) (by rw[List.length_append,lA,lN,h1]) (by
   rw[List.length_drop,hz2,lT,h2];omega)
  simp only[List.append_nil,List.append_assoc] at this
  rw[this]
theorem zJZ {l:List AV}{o n:Nat}(h:o+n<=l.length):l.drop o=slot l o n++l.drop (o+n):=by
 unfold slot
 rw[<- List.drop_drop,List.take_append_drop]
set_option maxRecDepth 10000 in
set_option maxHeartbeats 1000000 in
theorem zNK (hO:InsO O ti tb)(H:InsHyp M k id2 off2 n m c i st by' str cs cs2)(oc:(slot cs (i*st) ((n - i)*st)).all oneA=true)(hi:i<n)(hc:n+m<=c) :
  ∃ M' rest,out6 (zA8 P 20000 call none (insA O g e st by' z) (fr0 (.sl k 0 n (some c) st) (.sc (.int .i64 (i:Int))) (.sl id2 off2 m cap2 st)) M)=some (.ret,.sl k 0 (n+m) (some c) st,[],M') /\
   M'.size=M.size/\(∀ j,j≠k->M'.get j=M.get j)/\M'.get k=some (.row str ((slot cs 0 (i*st)++(slot cs2 off2 (m*st)++slot cs (i*st) ((n - i)*st)))++rest)):=by
 obtain⟨gk,g2,lk,l2,nc,im,m0,s0,ne,b1,b2,ms,o1,o2⟩:=H
 have kM:=zF0 (Mem.get_lt gk)
 have k2M:=zF0 (Mem.get_lt g2)
 have hkk:=Mem.get_lt gk
 obtain⟨M1,hM1⟩:=Mem.put_ok (M:=M) hkk ms (.row str (lay cs ((i+m)*st) (slot cs (i*st) ((n+m - (i+m))*st))))
 obtain⟨_,s1,q1,_,_⟩:=Mem.put_spec hM1
 obtain⟨M2,hM2⟩:=Mem.put_ok (M:=M1) (i:=k) (by omega) (ms.put hM1) (.row str (lay (lay cs ((i+m)*st) (slot cs (i*st) ((n+m - (i+m))*st))) (i*st) (slot cs2 off2 (m*st))))
 obtain⟨_,s2,q2,_,_⟩:=Mem.put_spec hM2
 have eT:n+m - (i+m)=n - i:=by omega
 have lA:(slot cs 0 (i*st)).length=i*st:=zC7 (by rw[lk,Nat.zero_add];exact zC9 (by omega))
 have lN:(slot cs2 off2 (m*st)).length=m*st:=zC7 l2
 have lT:(slot cs (i*st) ((n+m - (i+m))*st)).length=(n - i)*st:=by rw[eT];exact zC7 (by rw[lk,<- Nat.add_mul];exact zC9 (by omega))
 have hst:=zN3 st
 have hm0:((m:Int)=0)=False:=eq_false (by omega)
 have hin:((i:Int)=(n:Int))=False:=eq_false (by omega)
 have hw1:=zDZ (a:=n) (b:=m) (by omega)
 have hw3:=zDZ (a:=i) (b:=m) (by omega)
 have hgt:((c:Int)<((n+m:Nat):Int))=False:=eq_false (by omega)
 have a1:Nat.ble i n=true:=zBW (by omega)
 have a2:Nat.ble (n+m) c=true:=zBW (by omega)
 have a3:Nat.ble 0 (n+m)=true:=zBW (by omega)
 have hst0:Nat.beq c 0=false:=zIL (by omega)
 have a4:Nat.ble (i+m) (n+m)=true:=zBW (by omega)
 have a5:Nat.beq c (i+m)=false:=zIL (by omega)
 have a6:Nat.beq id2 k=false:=zIL (fun e=>ne e.symm)
 have a7:Nat.beq m 0=false:=zIL (by omega)
 have a8:Nat.beq (n+m - (i+m)) 0=false:=zIL (by omega)
 have a9:Nat.beq st 0=false:=zIL (by omega)
 have a10:Nat.ble i (n+m)=true:=zBW (by omega)
 have a11:Nat.beq c i=false:=zIL (by omega)
 have hmin1:Nat.min (n+m - i) (n+m - (i+m))=n+m - (i+m):=Nat.min_eq_right (by omega)
 have a12:Nat.ble (n+m - (i+m)) (n+m - i)=true:=zBW (by omega)
 have a13:Nat.ble (i*st+(n+m - (i+m))*st) cs.length=true:=zBW (by rw[lk,<- Nat.add_mul];exact zC9 (by omega))
 have a14:Nat.ble ((i+m)*st+(slot cs (i*st) ((n+m - (i+m))*st)).length) cs.length=true:=zBW (by rw[lT,lk,<- Nat.add_mul];exact zC9 (by omega))
 have o3:(slot cs (i*st) ((n+m - (i+m))*st)).all oneA=true:=by rw[eT];exact oc
 have gM1:M1.get k=some (.row str (lay cs ((i+m)*st) (slot cs (i*st) ((n+m - (i+m))*st)))):=by rw[q1,if_pos rfl]
 have g12:M1.get id2=some (.row false cs2):=by rw[q1,if_neg (fun e=>ne e.symm),g2]
 have b1M:Nat.blt k M1.size=true:=zF0 (by omega)
 have b2M:Nat.blt id2 M1.size=true:=zF0 (by have:=Mem.get_lt g2;omega)
 have hmin2:Nat.min m (n+m - i)=m:=Nat.min_eq_left (by omega)
 have a15:Nat.ble m m=true:=zBW (Nat.le_refl _)
 have a16:Nat.ble (off2+m*st) cs2.length=true:=zBW l2
 have h1:(i+m)*st=i*st+m*st:=Nat.add_mul ..
 have h3:n*st=i*st+(n - i)*st:=by rw[<- Nat.add_mul];congr 1;omega
 have h4:(n+m)*st<=c*st:=zC9 hc
 have h5:(n+m)*st=i*st+(m*st+(n - i)*st):=by rw[<- Nat.add_mul,<- Nat.add_mul];congr 1;omega
 -- the row,in pieces
 have d1:cs=slot cs 0 (i*st)++(slot cs (i*st) (m*st)++(slot cs ((i+m)*st) ((n - i)*st)++cs.drop ((n+m)*st))):=by
  have x1:=zJZ (l:=cs) (o:=0) (n:=i*st) (by rw[lk];omega)
  have x2:=zJZ (l:=cs) (o:=i*st) (n:=m*st) (by rw[lk];omega)
  have x3:=zJZ (l:=cs) (o:=(i+m)*st) (n:=(n - i)*st) (by rw[lk];omega)
  rw[List.drop_zero,Nat.zero_add] at x1
  rw[<- h1] at x2
  rw[show (i+m)*st+(n - i)*st=(n+m)*st by omega] at x3
  rw[<- x3,<- x2,<- x1]
 have lB:(slot cs (i*st) (m*st)).length=m*st:=zC7 (by rw[lk];omega)
 have lC:(slot cs ((i+m)*st) ((n - i)*st)).length=(n - i)*st:=zC7 (by rw[lk];omega)
 have r1:lay cs ((i+m)*st) (slot cs (i*st) ((n+m - (i+m))*st))=slot cs 0 (i*st)++(slot cs (i*st) (m*st)++(slot cs (i*st) ((n+m - (i+m))*st)++cs.drop ((n+m)*st))):=by
  conv=>lhs;arg 1;rw[d1]
  have:=zM0 (A:=slot cs 0 (i*st)++slot cs (i*st) (m*st)) (B:=slot cs ((i+m)*st) ((n - i)*st)) (C:=cs.drop ((n+m)*st)) (new:=slot cs (i*st) ((n+m - (i+m))*st)) (o:=(i+m)*st) (by rw[List.length_append,lA,lB,h1]) (by rw[lC,lT])
  simpa only[List.append_assoc] using this
 have r2:lay (lay cs ((i+m)*st) (slot cs (i*st) ((n+m - (i+m))*st))) (i*st) (slot cs2 off2 (m*st))=(slot cs 0 (i*st)++(slot cs2 off2 (m*st)++slot cs (i*st) ((n - i)*st)))++cs.drop ((n+m)*st):=by
  rw[r1,zM0 lA (by rw[lB,lN]),eT]
  simp only[List.append_assoc]
 have a17:Nat.ble (i*st+(slot cs2 off2 (m*st)).length) (lay cs ((i+m)*st) (slot cs (i*st) ((n+m - (i+m))*st))).length=true:=zBW (by
  rw[r1];simp only[List.length_append,lA,lB,lN];omega)
 have a18:Nat.ble M.size k=false:=zXW hkk
 refine⟨M2,cs.drop ((n+m)*st), ?_,by omega,fun j hj=>by rw[q2,if_neg hj,q1,if_neg hj], ?_⟩
 ·simp only[List.cons_append,List.nil_append,List.all_nil,List.all_cons,Bool.and_self,Bool.and_true,Bool.true_and,decide_false,decide_true,Bool.not_true,Bool.not_false,Nat.zero_add,Nat.add_zero,Nat.zero_mul,Nat.sub_zero,out6,fr0,insA,zA8,zAR,zA6,zBQ,zCD,zAQ,rowsOf,zA5,nth,putA,zCF,bound,lenA,goInt,List.replicate,zBZ hO.h0,zBZ hO.h1,zBZ hO.h2,zBZ hO.h3,zBZ hO.h4,zBZ hO.h5,zBZ hO.h6,zBZ hO.h7,zBZ hO.h8,zZX hO.h9,zBZ hO.h10,zH7,rEql,rGtr,rAdd,rSub,zH0,cellsOf,zE9,Mem.rd,kM,k2M,gk,g2,hst,decide_eq_true_eq,eq_self_iff_true,zAK,zBJ,zB4,zBS,FP.apart,FP.reads,FP.writes,disj,List.isEmpty_nil,List.isEmpty_cons,Bool.false_and,List.contains_cons,List.contains_nil,Bool.false_or,Bool.or_false,Bool.true_or,Bool.or_true,beq_self_eq_true,Nat.reduceBEq,Bool.and_false,hm0,hin,hw1,hw3,hgt,a1,a2,a3,a4,a5,a6,a7,a8,a9,a10,a11,hmin1,a12,a13,a14,o3,hM1,gM1,g12,b1M,b2M,hmin2,a15,a16,a17,a18,o2,hM2,hst0,zN3]
 ·rw[q2,if_pos rfl,r2]
end
variable {Γ : Glob}
mutual
theorem VRel.swap {μ μ2 μ':Inj}(hag:∀ i p,μ i=some p->μ' i=μ2 i)(hf:μ'.f=μ2.f):∀ {a:AV} {v0 v:Value},VRel μ a v0->VRel μ2 a v->VRel μ' a v
 | _,_,_,.sc _,h=>by cases h;exact .sc _
 | _,_,_,.ptr e,h=>by cases h with | ptr e2=>exact .ptr ((hag _ _ e).trans e2)
 | _,_,_,.sl e _,h=>by
  cases h with
  | sl e2 c2=>exact .sl ((hag _ _ e).trans e2) c2
  | sl0 e2 c2=>exact .sl0 ((hag _ _ e).trans e2) c2
 | _,_,_,.sl0 e _,h=>by
  cases h with
  | sl e2 c2=>exact .sl ((hag _ _ e).trans e2) c2
  | sl0 e2 c2=>exact .sl0 ((hag _ _ e).trans e2) c2
 | _,_,_,.mp e,h=>by cases h with | mp e2=>exact .mp ((hag _ _ e).trans e2)
 | _,_,_,.fn x y,h=>by cases h with | fn x2 y2=>exact .fn (VRels.swap hag hf x x2) (VRels.swap hag hf y y2)
 | _,_,_,.yl e,h=>by cases h with | yl e2=>exact .yl ((hag _ _ e).trans e2)
 | _,_,_,.agg x,h=>by cases h with | agg x2=>exact .agg (VRels.swap hag hf x x2)
 | _,_,_,.tup x,h=>by cases h with | tup x2=>exact .tup (VRels.swap hag hf x x2)
 | _,_,_,.pv _ _ _ _ _ _,h=>by
  cases h with
  | pv a b c d e g=>exact .pv (by rw[hf];exact a) b (by rw[hf];exact c) d e g
  | pv0 a=>exact .pv0 a
 | _,_,_,.pv0 _,h=>by
  cases h with
  | pv a b c d e g=>exact .pv (by rw[hf];exact a) b (by rw[hf];exact c) d e g
  | pv0 a=>exact .pv0 a
 | _,_,_,.cp _ _ _,h=>by cases h with | cp a b c=>exact .cp (by rw[hf];exact a) b (by rw[hf];exact c)
theorem VRels.swap {μ μ2 μ':Inj}(hag:∀ i p,μ i=some p->μ' i=μ2 i)(hf:μ'.f=μ2.f):∀ {l:List AV} {vs0 vs:List Value},VRels μ l vs0->VRels μ2 l vs->VRels μ' l vs
 | _,_,_,.nil,h=>by cases h;exact .nil
 | _,_,_,.cons x y,h=>by cases h with | cons x2 y2=>exact .cons (VRel.swap hag hf x x2) (VRels.swap hag hf y y2)
end
theorem zFU.swap {μ μ2 μ':Inj}(hag:∀ i p,μ i=some p->μ' i=μ2 i)(hf:μ'.f=μ2.f){obj:AObj}{p0 p:Pl}{w0 w:World}(h0:zFU P μ obj p0 w0)(h:zFU P μ2 obj p w):zFU P μ' obj p w:=by
 cases obj with
 | row str cs =>
  obtain⟨_,_,_,_,_,_,_,k5,_⟩:=h0
  obtain⟨c,e,fz,h1,h2,h3,h4,h5,h6⟩:=h
  exact⟨c,e,fz,h1,h2,h3,h4,k5.swap hag hf h5,h6⟩
 | map es clock =>
  obtain⟨_,_,k2⟩:=h0
  obtain⟨es',h1,h2⟩:=h
  refine⟨es',h1,h2.1,fun i a b n hi=>?_⟩
  obtain⟨e,he,x1,x2,x3⟩:=h2.2 i a b n hi
  obtain⟨e0,_,y1,y2,_⟩:=k2.2 i a b n hi
  exact⟨e,he,y1.swap hag hf x1,y2.swap hag hf x2,x3⟩
 | loop st pend tm ps assign body dfr =>
  obtain⟨_,_,_,_,k4,_,_,_,q0,k8,_⟩:=h0
  obtain⟨r,h1,h2,h3,h4,h5,h6,h7,q,h8,h9⟩:=h
  exact⟨r,h1,h2,h3,k4.swap hag hf h4,h5,h6,h7,q,(hag _ _ k8).trans h8,h9⟩
 | dfr spent=>exact h
 | siter s pos=>exact h
 | fro cs =>
  obtain⟨_,_,_,_,_,_,_,k5⟩:=h0
  obtain⟨c,e,fz,h1,h2,h3,h4,h5⟩:=h
  exact⟨c,e,fz,by rw[hf];exact h1,h2,h3,h4,k5.swap hag hf h5⟩
 | dead=>trivial
theorem zKG {μ:Inj}{i j:Nat}{p:Pl}(h:j≠i):μ.upd i p j=μ j:=by rw[Inj.upd_m,if_neg h]
def Inj.upf (μ:Inj)(i:Nat)(p:Pl)(f:Nat->Option Obj):Inj:=⟨(μ.upd i p).m,f⟩
theorem zKH {μ:Inj}{i j:Nat}{p:Pl}{f:Nat->Option Obj}(h:j≠i):μ.upf i p f j=μ j:=zKG h
theorem Inj.upf_same (μ:Inj)(i:Nat)(p:Pl)(f:Nat->Option Obj):μ.upf i p f i=some p:=Inj.upd_same ..
theorem Inj.le_upf {μ:Inj}{i:Nat}{p:Pl}{f:Nat->Option Obj}(h:μ i=none)(hf:∀ b x,μ.f b=some x->f b=some x):μ.le (μ.upf i p f):=⟨(Inj.le_upd h).app,hf⟩
theorem zd9 {μ μx μ2:Inj}{M M1 Mx M2 M':Mem}{w w2:World}{id k kk n:Nat}{p qx q2:Pl}{str s2:Bool}{Tg rest cellsx:List AV}{vs0:List Value}{v:Value}{st:Nat}{cap:Option Nat}
  (R:RelOn Γ P (· < M.size) μ M.get w) (hfr:μ M.size=none) (hid:μ id=some p) (hlive:live M.get id)
  (hput:M.put id .dead=some M1) (hx:M1.new (.row str cellsx)=some (k,Mx)) (hμx:μx=μ.upd M.size qx) (hqx:qx.b=p.b)
  (S:Seg Γ P μx Mx w μ2 M2 w2) (hkeep:∀ j,j<M.size->M2.get j=M1.get j) (hkk:M.size<=kk) (hq2:μ2 kk=some q2) (hg2:M2.get kk=some (.row s2 (Tg++rest))) (hs:s2=str∨s2=false)
  (hb:q2.b=p.b∨w.heap.size<=q2.b) (hT:VRels μ Tg vs0) (hTl:Tg.length=n*st) (hn:0<n) (hv:VRel μ2 (.sl kk 0 n cap st) v) (hM':M1.new (.row str Tg)=some (k,M')) :
  Res Γ P (· < M.size) (· < M.size) μ M w (.sl k 0 n none st) M' v w2 (μ.upf M.size ⟨q2.b,q2.o,n*st,q2.sz⟩ μ2.f):=by
 obtain⟨hlt,hsz,hget,_,_⟩:=Mem.put_spec hput
 obtain⟨rfl,hs1,hold1,hnew1,_,_⟩:=Mem.new_spec hx
 obtain⟨_,hs2,hold2,hnew2,_,_⟩:=Mem.new_spec hM'
 rw[hsz] at hs1 hold1 hnew1 hs2 hold2 hnew2
 have hkM:M1.size=M.size:=hsz
 rw[hkM]
 have lex:μ.le μx:=by rw[hμx];exact Inj.le_upd hfr
 have le2:μ.le μ2:=Inj.le_trans lex S.ext.sub
 have le':μ.le (μ.upf M.size ⟨q2.b,q2.o,n*st,q2.sz⟩ μ2.f):=Inj.le_upf hfr le2.fz
 have hag:∀ i q,μ i=some q->(μ.upf M.size ⟨q2.b,q2.o,n*st,q2.sz⟩ μ2.f) i=μ2 i:=fun i q h=>by rw[le' _ _ h,le2 _ _ h]
 have old:∀ i q,(μ.upf M.size ⟨q2.b,q2.o,n*st,q2.sz⟩ μ2.f) i=some q->i≠M.size->μ i=some q:=fun i q h hne=>by rwa [zKH hne] at h
 have gM':∀ i,i<M.size->M'.get i=M2.get i:=fun i hi=>by rw[hold2 i hi,hkeep i hi]
 have kkM:kk<M2.size:=Mem.get_lt hg2
 obtain⟨kb,obj,ko,kok⟩:=S.on.ok kk q2 kkM hq2
 rw[hg2] at ko;cases ko
 have livekk:live M2.get kk:=zCH hg2 rfl
 refine⟨?_, ?_, ?_⟩
 ·-- the value
  cases hv with
  | sl e c2 =>
   rename_i c' pp
   rw[hq2] at e;cases e
   have h1:n<=c'/\q2.o+0+c'*st<=q2.sz:=by
    cases cap with
    | some c=>exact⟨c2.2.1,c2.2.2⟩
    | none=>exact⟨c2.1,c2.2.1⟩
   refine .sl (p:=⟨q2.b,q2.o,n*st,q2.sz⟩) (Inj.upf_same ..) ⟨h1.1,h1.2, ?_⟩
   show n*st<=0+c'*st
   rw[Nat.zero_add];exact zC9 h1.1
  | sl0 e c2=>omega
 ·refine⟨le',fun i q h1 h2=>?_,fun b x h1 h2=>?fn,by omega,S.ext.hs,fun b hb' hf=>?_,fun i hi hn'=>absurd hi hn',fun i hi hd=>?_,S.ext.os,S.ext.tape,S.ext.output⟩
  ·have:i=M.size:=by
    by_cases e:i=M.size
    ·exact e
    ·rw[old i q h1 e] at h2;cases h2
   subst this
   rw[Inj.upf_same] at h1;cases h1
   refine⟨Nat.le_refl _,by omega, ?_⟩
   rcases hb with hb | hb
   ·exact .inr ⟨id,p,hlt,hlt,hid,hb.symm,hlive,zFA (o:=.dead) (by rw[hold2 id hlt,hget,if_pos rfl]) rfl⟩
   ·exact .inl hb
  case fn =>
   have h1:μ2.f b=some x:=h1
   rcases S.ext.fnew b x h1 (by rw[hμx];exact h2) with h | ⟨i,q,_,hi,hq,hqb,hl,hd⟩
   ·exact .inl h
   ·by_cases e:i=M.size
    ·subst e
     rw[hμx,Inj.upd_same] at hq;cases hq
     exact .inr ⟨id,p,hlt,hlt,hid,by rw[<- hqx];exact hqb,hlive,zFA (o:=.dead) (by rw[hold2 id hlt,hget,if_pos rfl]) rfl⟩
    ·exfalso
     have hi':i<M.size:=by omega
     exact hd ((zBP ((hold1 i hi').trans (hkeep i hi').symm)).1 hl)
  ·refine S.ext.frame b hb' fun i q _ hi hq hl=>?_
   by_cases e:i=M.size
   ·subst e
    rw[hμx,Inj.upd_same] at hq;cases hq
    rw[hqx];exact hf id p hlt hlt hid hlive
   ·have hi':i<M.size:=by omega
    rw[hμx,zKG e] at hq
    refine hf i q hi' hi' hq ?_
    have e':i≠id:=fun h=>by subst h;exact zFA (o:=.dead) (by rw[hold1 i hi',hget,if_pos rfl]) rfl hl
    exact(zBP (by rw[hold1 i hi',hget,if_neg e'])).1 hl
  ·rw[hold2 i hi,hget,if_neg (fun (e:i=id)=>hd (e ▸ hlive))]
 ·constructor
  ·intro i q hi hq
   by_cases e:i=M.size
   ·subst e
    rw[Inj.upf_same] at hq;cases hq
    refine⟨kb,_,hnew2, ?_⟩
    obtain⟨c,e,fz,h1,h2,h3,h4,h5,h6,h7⟩:=kok
    have hL:n*st<=q2.L:=by rw[<- h3,List.length_append,hTl];omega
    refine⟨c,e,fz,h1,h2,hTl,by show q2.o+n*st<=q2.sz;omega, ?_,h6,fun hstr=>h7 ?_⟩
    ·have:=h5.take (n*st)
     rw[List.take_left' hTl,List.take_take,Nat.min_eq_left hL] at this
     exact hT.swap hag rfl this
    ·rcases hs with hs | hs
     ·exact hs.trans hstr
     ·exact hs
   ·have hi':i<M.size:=by omega
    have hμ:=old i q hq e
    obtain⟨a1,obj,a2,a3⟩:=S.on.ok i q (by have:=S.ext.le;omega) (le2 _ _ hμ)
    refine⟨a1,obj,by rw[gM' i hi',a2], ?_⟩
    by_cases hd:i=id
    ·subst hd
     rw[hkeep i hi',hget,if_pos rfl] at a2
     cases a2;trivial
    ·rw[hkeep i hi',hget,if_neg hd] at a2
     obtain⟨_,obj0,b2,b3⟩:=R.ok i q hi' hμ
     rw[a2] at b2;cases b2
     exact b3.swap hag rfl a3
  ·intro i j pi pj hi hj hpi hpj hli hlj e
   by_cases ei:i=M.size
   ·by_cases ej:j=M.size
    ·rw[ei,ej]
    ·exfalso
     have hj':j<M.size:=by omega
     subst ei
     rw[Inj.upf_same] at hpi;cases hpi
     have:=S.on.ex kk j q2 pj kkM (by have:=S.ext.le;omega) hq2 (le2 _ _ (old j pj hpj ej)) livekk ((zBP (gM' j hj')).1 hlj) e
     omega
   ·have hi':i<M.size:=by omega
    by_cases ej:j=M.size
    ·exfalso
     subst ej
     rw[Inj.upf_same] at hpj;cases hpj
     have:=S.on.ex i kk pi q2 (by have:=S.ext.le;omega) kkM (le2 _ _ (old i pi hpi ei)) hq2 ((zBP (gM' i hi')).1 hli) livekk e
     omega
    ·have hj':j<M.size:=by omega
     exact S.on.ex i j pi pj (by have:=S.ext.le;omega) (by have:=S.ext.le;omega) (le2 _ _ (old i pi hpi ei)) (le2 _ _ (old j pj hpj ej)) ((zBP (gM' i hi')).1 hli) ((zBP (gM' j hj')).1 hlj) e
  ·exact S.on.fz
  ·intro b x i pi hb1 hi hpi hli
   have hb1:μ2.f b=some x:=hb1
   by_cases ei:i=M.size
   ·subst ei
    rw[Inj.upf_same] at hpi;cases hpi
    exact S.on.sep b x kk q2 hb1 kkM hq2 livekk
   ·have hi':i<M.size:=by omega
    exact S.on.sep b x i pi hb1 (by have:=S.ext.le;omega) (le2 _ _ (old i pi hpi ei)) ((zBP (gM' i hi')).1 hli)
  ·exact S.on.gl
theorem zNI {μ μ2:Inj}{M M1 M2 M':Mem}{w w2:World}{id k n:Nat}{str:Bool}{Tg:List AV}{vs0:List Value}{v:Value}{st:Nat}
  (R:RelOn Γ P (· < M.size) μ M.get w) (hfr:μ M.size=none) (hlive:live M.get id)
  (hput:M.put id .dead=some M1) (S:Seg Γ P μ M w μ2 M2 w2) (hsz2:M2.size=M.size+1) (hkeep:∀ j,j<M.size->M2.get j=M.get j) (hg2:M2.get M.size=some (.row false Tg))
  (hT:VRels μ Tg vs0) (hTl:Tg.length=n*st) (hn:0<n) (hv:VRel μ2 (.sl M.size 0 n none st) v) (hM':M1.new (.row str Tg)=some (k,M')) :
  ∃ μ',Res Γ P (· < M.size) (· < M.size) μ M w (.sl k 0 n none st) M' v w2 μ':=by
 obtain⟨hlt,hsz,hget,_,_⟩:=Mem.put_spec hput
 obtain⟨rfl,hs2,hold2,hnew2,_,_⟩:=Mem.new_spec hM'
 rw[hsz] at hs2 hold2 hnew2
 have hq:∃ q2,μ2 M.size=some q2:=by
  cases hv with
  | sl e _=>exact⟨_,e⟩
  | sl0 e _=>exact⟨_,e⟩
 obtain⟨q2,hq2⟩:=hq
 have hnewq:=S.ext.new M.size q2 hq2 hfr
 have hb:w.heap.size<=q2.b:=by
  rcases hnewq.2.2 with h | ⟨i,q,_,hi,_,_,hl,hd⟩
  ·exact h
  ·exact absurd ((zBP (hkeep i hi)).2 hl) hd
 have hkM:M1.size=M.size:=hsz
 rw[hkM]
 have le2:μ.le μ2:=S.ext.sub
 have hag:∀ i q,μ i=some q->(μ.upf M.size ⟨q2.b,q2.o,n*st,q2.sz⟩ μ2.f) i=μ2 i:=fun i q h=>by rw[Inj.le_upf hfr le2.fz _ _ h,le2 _ _ h]
 have old:∀ i q,(μ.upf M.size ⟨q2.b,q2.o,n*st,q2.sz⟩ μ2.f) i=some q->i≠M.size->μ i=some q:=fun i q h hne=>by rwa [zKH hne] at h
 have kkM:M.size<M2.size:=by omega
 obtain⟨kb,obj,ko,kok⟩:=S.on.ok M.size q2 kkM hq2
 rw[hg2] at ko;cases ko
 have livekk:live M2.get M.size:=zCH hg2 rfl
 have lv:∀ i,i<M.size->live M'.get i->live M2.get i:=fun i hi hl=>by
  have e':i≠id:=fun h=>by subst h;exact zFA (o:=.dead) (by rw[hold2 i hi,hget,if_pos rfl]) rfl hl
  exact(zBP (by rw[hold2 i hi,hget,if_neg e',hkeep i hi])).1 hl
 refine⟨μ.upf M.size ⟨q2.b,q2.o,n*st,q2.sz⟩ μ2.f, ?_, ?_, ?_⟩
 ·cases hv with
  | sl e c2 =>
   rename_i c' pp
   rw[hq2] at e;cases e
   refine .sl (p:=⟨q2.b,q2.o,n*st,q2.sz⟩) (Inj.upf_same ..) ⟨c2.1,c2.2.1, ?_⟩
   show n*st<=0+c'*st
   rw[Nat.zero_add];exact Nat.mul_le_mul_right st c2.1
  | sl0 e c2=>omega
 ·refine⟨Inj.le_upf hfr le2.fz,fun i q h1 h2=>?_,fun b x h1 h2=>?fn2,by omega,S.ext.hs,fun b hb' hf=>S.ext.frame b hb' hf,fun i hi hn'=>absurd hi hn',fun i hi hd=>?_,S.ext.os,S.ext.tape,S.ext.output⟩
  ·have:i=M.size:=by
    by_cases e:i=M.size
    ·exact e
    ·rw[old i q h1 e] at h2;cases h2
   subst this
   rw[Inj.upf_same] at h1;cases h1
   exact⟨Nat.le_refl _,by omega,.inl hb⟩
  case fn2 =>
   have h1:μ2.f b=some x:=h1
   rcases S.ext.fnew b x h1 h2 with h | ⟨i,q,_,hi,_,_,hl,hd⟩
   ·exact .inl h
   ·exfalso
    rw[zBP (hkeep i hi)] at hd
    exact hd hl
  ·rw[hold2 i hi,hget,if_neg (fun (e:i=id)=>hd (e ▸ hlive))]
 ·constructor
  ·intro i q hi hq
   by_cases e:i=M.size
   ·subst e
    rw[Inj.upf_same] at hq;cases hq
    refine⟨kb,_,hnew2, ?_⟩
    obtain⟨c,e,fz,h1,h2,h3,h4,h5,h6,h7⟩:=kok
    refine⟨c,e,fz,h1,h2,hTl,by show q2.o+n*st<=q2.sz;omega, ?_,h6,fun hstr=>h7 rfl⟩
    have:q2.L=n*st:=by rw[<- h3,hTl]
    rw[this] at h5
    exact hT.swap hag rfl h5
   ·have hi':i<M.size:=by omega
    have hμ:=old i q hq e
    obtain⟨a1,obj,a2,a3⟩:=S.on.ok i q (by omega) (le2 _ _ hμ)
    by_cases hd:i=id
    ·subst hd
     exact⟨a1,.dead,by rw[hold2 i hi',hget,if_pos rfl],trivial⟩
    ·refine⟨a1,obj,by rw[hold2 i hi',hget,if_neg hd,<- hkeep i hi',a2], ?_⟩
     rw[hkeep i hi'] at a2
     obtain⟨_,obj0,b2,b3⟩:=R.ok i q hi' hμ
     rw[a2] at b2;cases b2
     exact b3.swap hag rfl a3
  ·intro i j pi pj hi hj hpi hpj hli hlj e
   by_cases ei:i=M.size
   ·by_cases ej:j=M.size
    ·rw[ei,ej]
    ·exfalso
     have hj':j<M.size:=by omega
     subst ei
     rw[Inj.upf_same] at hpi;cases hpi
     have:=S.on.ex M.size j q2 pj kkM (by omega) hq2 (le2 _ _ (old j pj hpj ej)) livekk (lv j hj' hlj) e
     omega
   ·have hi':i<M.size:=by omega
    by_cases ej:j=M.size
    ·exfalso
     subst ej
     rw[Inj.upf_same] at hpj;cases hpj
     have:=S.on.ex i M.size pi q2 (by omega) kkM (le2 _ _ (old i pi hpi ei)) hq2 (lv i hi' hli) livekk e
     omega
    ·have hj':j<M.size:=by omega
     exact S.on.ex i j pi pj (by omega) (by omega) (le2 _ _ (old i pi hpi ei)) (le2 _ _ (old j pj hpj ej)) (lv i hi' hli) (lv j hj' hlj) e
  ·exact S.on.fz
  ·intro b x i pi hb1 hi hpi hli
   have hb1:μ2.f b=some x:=hb1
   by_cases ei:i=M.size
   ·subst ei
    rw[Inj.upf_same] at hpi;cases hpi
    exact S.on.sep b x M.size q2 hb1 kkM hq2 livekk
   ·have hi':i<M.size:=by omega
    exact S.on.sep b x i pi hb1 (by omega) (le2 _ _ (old i pi hpi ei)) (lv i hi' hli)
  ·exact S.on.gl
end Go.Ax
