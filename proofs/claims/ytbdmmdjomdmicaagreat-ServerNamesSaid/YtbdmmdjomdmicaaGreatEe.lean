/-
 The executor on abstract memory, part 5: what it is, and that what it finds is so of the program.
-/
import Derived.Test.YtbdmmdjomdmicaaGreatEd
import Derived.ProofKit
import Derived.OpenShut
import Derived.ShutString
import Derived.ChangeOld
import Derived.ChangeMaps5
import Derived.Laws.StructEq
set_option linter.unusedSimpArgs false
set_option linter.unusedVariables false
namespace Go.Ax
theorem azZ {a b:Prop}(x:a)(y:b):a∧b:=⟨x,y⟩
open Go
variable {P : Program} {call : Tg → List AV → Mem → Option (AV × Mem)}
theorem zDB (un:List Nat):∀ (i:Nat) (log:List (FP × Nat × Nat)),zAH .pure un i log=true
 | _,[]=>rfl
 | i,g::l=>by
  have h:=zDB un (i+1) l
  simp only[zAH,h,Bool.and_true,zBW,FP.reads,FP.writes,List.all_nil]
  have:FP.apart .pure g.1=true:=by cases g.1 <;> rfl
  simp [this]
def Mem.lo (M:Mem):Mem:=⟨M.t,M.size,M.size,false⟩
def Mem.bk (M M':Mem):Mem:=⟨M'.t,M'.size,M.wm,M.dirty || M'.dirty⟩
theorem zMR (M:Mem):M.lo.dirty=false:=Eq.trans rfl rfl
theorem zFP (M:Mem):M.lo.size=M.size:=Eq.trans rfl rfl
theorem zR7 (M:Mem)(i:Nat):M.lo.get i=M.get i:=Eq.trans rfl rfl
theorem zR8 (M:Mem):Wf M.lo=Wf M:=Eq.trans rfl rfl
theorem zFG (M M':Mem):(M.bk M').size=M'.size:=Eq.trans rfl rfl
theorem zQG (M M':Mem)(i:Nat):(M.bk M').get i=M'.get i:=Eq.trans rfl rfl
theorem zQH (M M':Mem):Wf (M.bk M')=Wf M':=Eq.trans rfl rfl
theorem bk_lo (M:Mem):M.bk M.lo=M:=by cases M;simp [Mem.bk,Mem.lo]
def fpOf (r w:List Nat)(n n':Nat):FP:=match r.isEmpty&&w.isEmpty&&Nat.beq n n' with | true => .pure | false => .acc r w
def fpC (d:Bool)(M M':Mem):FP:=match d with | true => .wrs (chgF M M' M.size) | false => .quiet
def kD (P:Program)(call:Tg→List AV→Mem→Option (AV × Mem))(r w:List Nat)(n:Nat)(d:Option Nat)(un:List Nat)(log:List (FP × Nat × Nat))(rest:List AOper)(t:List AV)(Q:List AV→Mem→Prop)(v:AV)(M':Mem):Prop :=
 zAH (fpOf r w n M'.size) un 0 log=true∧W2 (zA8 P call rest (log++[(fpOf r w n M'.size,n,M'.size)]) (putA t d v) M') Q
def kE (P:Program)(call:Tg→List AV→Mem→Option (AV × Mem))(M:Mem)(d:Option Nat)(un:List Nat)(log:List (FP × Nat × Nat))(rest:List AOper)(t:List AV)(Q:List AV→Mem→Prop)(v:AV)(M':Mem):Prop :=
 zAH (fpC M'.dirty M M') un 0 log=true∧W2 (zA8 P call rest (log++[(fpC M'.dirty M M',M.size,M'.size)]) (putA t d v) (M.bk M')) Q
def drw (P:Program)(call:Tg→List AV→Mem→Option (AV × Mem))(f:FP)(d:Option Nat)(op:AOp)(un:List Nat)(log:List (FP × Nat × Nat))(rest:List AOper)(t:List AV)(M:Mem)(Q:List AV→Mem→Prop):Prop:=match f with
 | .acc r w=>(r.all (Nat.blt · M.size)&&w.all (Nat.blt · M.size))=true∧W3 (zA1 P call t M op) (kD P call r w M.size d un log rest t Q)
 | _=>W3 (zA1 P call t M.lo op) (kE P call M d un log rest t Q)
section
variable (d : Option Nat) (op : AOp) (un : List Nat) (log : List (FP × Nat × Nat)) (rest : List AOper) (t : List AV) (M M' : Mem) (Q : List AV → Mem → Prop) (v : AV) (r w : List Nat) (n : Nat)
theorem zS9:W3 (some (v,M')) (kD P call r w n d un log rest t Q)=(zAH (fpOf r w n M'.size) un 0 log=true∧W2 (zA8 P call rest (log++[(fpOf r w n M'.size,n,M'.size)]) (putA t d v) M') Q):=zG0 ..
theorem zR3:kD P call r w n d un log rest t Q v M'=(zAH (fpOf r w n M'.size) un 0 log=true∧W2 (zA8 P call rest (log++[(fpOf r w n M'.size,n,M'.size)]) (putA t d v) M') Q):=rfl
theorem zSA:W3 (some (v,M')) (kE P call M d un log rest t Q)=(zAH (fpC M'.dirty M M') un 0 log=true∧W2 (zA8 P call rest (log++[(fpC M'.dirty M M',M.size,M'.size)]) (putA t d v) (M.bk M')) Q):=zG0 ..
theorem zR4:kE P call M d un log rest t Q v M'=(zAH (fpC M'.dirty M M') un 0 log=true∧W2 (zA8 P call rest (log++[(fpC M'.dirty M M',M.size,M'.size)]) (putA t d v) (M.bk M')) Q):=rfl
theorem zJV:drw P call (.acc r w) d op un log rest t M Q=((r.all (Nat.blt · M.size)&&w.all (Nat.blt · M.size))=true∧W3 (zA1 P call t M op) (kD P call r w M.size d un log rest t Q)):=rfl
theorem zOF:drw P call .any d op un log rest t M Q=W3 (zA1 P call t M.lo op) (kE P call M d un log rest t Q):=rfl
theorem zJ6 (mk:List Nat)(Q:AExit→Fr→Mem→Prop):W2 (zA8 P call [] log t M) (kR mk Q)=Q .normal ⟨t,mk⟩ M:=zFZ ..
theorem zNI (hf:zAD t op = .acc r w)(hb:(r.all (Nat.blt · M.size)&&w.all (Nat.blt · M.size))=true):zAJ P call ⟨d,op,none,un⟩ t M=(match zA1 P call t M op with
  | some (v,M')=>some (fpOf r w M.size M'.size,v,M')
  | none=>none):=by
 unfold zAJ
 simp only[zAQ,hf,hb]
 match zA1 P call t M op with
 | none=>rfl
 | some (v,M') =>
  dsimp only
  unfold fpOf
  cases hc:(r.isEmpty&&w.isEmpty&&Nat.beq M.size M'.size) <;> rfl
theorem zNJ {f:FP}(hf:zAD t op=f)(hn:∀ r w,f ≠ .acc r w):zAJ P call ⟨d,op,none,un⟩ t M=(match zA1 P call t ⟨M.t,M.size,M.size,false⟩ op with
  | some (v,M')=>some (fpC M'.dirty M M',v,⟨M'.t,M'.size,M.wm,M.dirty || M'.dirty⟩)
  | none=>none):=by
 unfold zAJ
 simp only[zAQ]
 subst hf
 split
 ·rename_i r w h;exact absurd h (hn r w)
 ·match zA1 P call t ⟨M.t,M.size,M.size,false⟩ op with
  | none=>rfl
  | some (v,M')=>rfl
theorem zSC:W2 (zA8 P call (⟨d,op,none,un⟩::rest) log t M) Q=drw P call (zAD t op) d op un log rest t M Q:=by
 apply propext
 simp only[zA8]
 have hany:∀ f,(∀ r w,f ≠ .acc r w)→zAD t op=f→(W2 (match zAJ P call ⟨d,op,none,un⟩ t M with
   | some (f,v,M')=>(match zAH f un 0 log with
    | true=>zA8 P call rest (log++[(f,M.size,M'.size)]) (putA t d v) M'
    | false=>none)
   | none=>none) Q↔W3 (zA1 P call t ⟨M.t,M.size,M.size,false⟩ op) (kE P call M d un log rest t Q)):=by
  intro f h1 h2
  rw[zNJ d op un t M h2 h1]
  match zA1 P call t ⟨M.t,M.size,M.size,false⟩ op with
  | none=>exact⟨fun⟨_,_,h,_⟩=>(by cases h),fun⟨_,_,h,_⟩=>(by cases h)⟩
  | some (v,M') =>
   rw[zSA]
   show W2 (match zAH (fpC M'.dirty M M') un 0 log with | true=>_ | false=>none) Q↔_
   cases zAH (fpC M'.dirty M M') un 0 log <;> simp [W2,Mem.bk]
 cases hf:zAD t op with
 | acc r w =>
  simp only[zJV]
  cases hb:(r.all (Nat.blt · M.size)&&w.all (Nat.blt · M.size)) with
  | false =>
   have:zAJ P call ⟨d,op,none,un⟩ t M=none:=by
    unfold zAJ
    simp only[zAQ,hf,hb]
   simp [this,W2]
  | true =>
   simp only[true_and]
   rw[zNI d op un t M r w hf hb]
   match zA1 P call t M op with
   | none=>exact⟨fun⟨_,_,h,_⟩=>(by cases h),fun⟨_,_,h,_⟩=>(by cases h)⟩
   | some (v,M') =>
    rw[zS9]
    show W2 (match zAH (fpOf r w M.size M'.size) un 0 log with | true=>_ | false=>none) Q↔_
    cases zAH (fpOf r w M.size M'.size) un 0 log <;> simp [W2]
 | pure=>exact hany _ (fun _ _ h=>by cases h) hf
 | quiet=>exact hany _ (fun _ _ h=>by cases h) hf
 | any=>exact hany _ (fun _ _ h=>by cases h) hf
 | wrs _=>exact hany _ (fun _ _ h=>by cases h) hf
def gdd (P:Program)(call:Tg→List AV→Mem→Option (AV × Mem))(c:AV)(want:Bool)(d:Option Nat)(op:AOp)(un:List Nat)(log:List (FP × Nat × Nat))(rest:List AOper)(t:List AV)(M:Mem)(Q:List AV→Mem→Prop):Prop :=
 match (match c with | .sc (.bool b)=>b == want | _=>false) with
 | true=>W2 (zA8 P call (⟨d,op,none,un⟩::rest) log t M) Q
 | false=>W2 (zA8 P call rest (log++[(.pure,M.size,M.size)]) (putA t d zA6) M) Q
theorem zQR:gdd P call (.sc (.bool true)) true d op un log rest t M Q=W2 (zA8 P call (⟨d,op,none,un⟩::rest) log t M) Q:=rfl
theorem zQO:gdd P call (.sc (.bool false)) false d op un log rest t M Q=W2 (zA8 P call (⟨d,op,none,un⟩::rest) log t M) Q:=rfl
theorem zQQ:gdd P call (.sc (.bool true)) false d op un log rest t M Q=W2 (zA8 P call rest (log++[(.pure,M.size,M.size)]) (putA t d zA6) M) Q:=rfl
theorem zQP:gdd P call (.sc (.bool false)) true d op un log rest t M Q=W2 (zA8 P call rest (log++[(.pure,M.size,M.size)]) (putA t d zA6) M) Q:=rfl
theorem zK5 (want:Bool):gdd P call zA6 want d op un log rest t M Q=W2 (zA8 P call rest (log++[(.pure,M.size,M.size)]) (putA t d zA6) M) Q:=rfl
theorem zQ2 (g:Nat)(want:Bool):W2 (zA8 P call (⟨d,op,some (g,want),un⟩::rest) log t M) Q=gdd P call (nth zA6 t g) want d op un log rest t M Q:=by
 have key:∀ b,zAQ t (some (g,want))=b→W2 (zA8 P call (⟨d,op,some (g,want),un⟩::rest) log t M) Q=(match b with | true=>W2 (zA8 P call (⟨d,op,none,un⟩::rest) log t M) Q | false=>W2 (zA8 P call rest (log++[(.pure,M.size,M.size)]) (putA t d zA6) M) Q):=fun b hb=>by
  cases b with
  | true =>
   have:zAJ P call ⟨d,op,some (g,want),un⟩ t M=zAJ P call ⟨d,op,none,un⟩ t M:=by
    unfold zAJ;simp only[hb,show zAQ t none=true from rfl]
   simp only[zA8,this]
  | false =>
   have:zAJ P call ⟨d,op,some (g,want),un⟩ t M=some (.pure,zA6,M):=by
    unfold zAJ;simp only[hb]
   simp only[zA8,this,zDB]
 rw[key (match nth zA6 t g with | .sc (.bool b)=>b == want | _=>false) rfl]
 rfl
theorem zLE (fuel:Nat)(rd:Option Nat)(ops:List AOper)(mk:List Nat)(Q:AExit→Fr→Mem→Prop) :
  W (zA4 P fuel call rd (.region ops true) ⟨t,mk⟩ M) Q=W2 (zA8 P call ops [] t M) (kR mk Q):=by
 simp only[zA4]
 apply propext
 match zA8 P call ops [] t M with
 | none=>exact⟨fun⟨_,_,_,h,_⟩=>(by cases h),fun⟨_,_,h,_⟩=>(by cases h)⟩
 | some (t,M)=>simp only[zC4,zFZ,kR]
end
theorem zDK (f:FP):∀ (i:Nat) (log:List (FP × Nat × Nat)),zAH f [] i log=true
 | _,[]=>rfl
 | i,g::l=>by simp [zAH,zDK f (i+1) l]
theorem zJF (f:FP)(un:List Nat)(i:Nat):zAH f un i []=true:=rfl
theorem zIK (f:FP)(un:List Nat)(i:Nat)(g:FP)(a b:Nat)(l:List (FP × Nat × Nat)):zAH f un i ((g,a,b)::l)=((!un.contains i || zBW f (g,a,b))&&zAH f un (i+1) l):=rfl
theorem zGY (f g:FP)(a:Nat):zBW f (g,a,a)=FP.apart f g:=by
 have e:∀ i,(Nat.ble a i&&Nat.blt i a)=false:=fun i=>by
  cases h1:Nat.ble a i with
  | false=>rfl
  | true =>
   have:=Nat.le_of_ble_eq_true h1
   cases h2:Nat.blt i a with
   | false=>rfl
   | true=>have:=(zAB _ _).1 h2;omega
 have ha:∀ l:List Nat,(l.all fun _=>true)=true:=fun l=>by induction l <;> simp_all
 simp only[zBW,e,Bool.not_false,ha,Bool.and_true]
theorem zLP (g:FP):FP.apart .pure g=true:=by cases g <;> rfl
theorem zLO (g:FP):FP.apart g .pure=true:=by cases g <;> rfl
theorem zLV (r r':List Nat):FP.apart (.acc r []) (.acc r' [])=true:=by simp [FP.apart,disj,FP.reads,FP.writes]
theorem zLU (r:List Nat):FP.apart (.acc r []) .quiet=true:=rfl
theorem zLS (r:List Nat):FP.apart .quiet (.acc r [])=true:=rfl
theorem zLR:FP.apart .quiet .quiet=true:=rfl
theorem zON (n:Nat):fpOf [] [] n n = .pure:=by simp [fpOf]
theorem zQJ (n:Nat):fpOf [] [] n (n+1) = .acc [] []:=by
 have:Nat.beq n (n+1)=false:=by
  cases h:Nat.beq n (n+1) with
  | false=>rfl
  | true=>have:=Nat.eq_of_beq_eq_true h;omega
 simp [fpOf,this]
theorem zOO (i:Nat)(r w:List Nat)(n n':Nat):fpOf (i::r) w n n' = .acc (i::r) w:=rfl
theorem zMI (i:Nat)(r w:List Nat)(n n':Nat):fpOf r (i::w) n n' = .acc r (i::w):=by cases r <;> rfl
theorem fpC_f (M M':Mem):fpC false M M' = .quiet:=rfl
def SlM {α:Type}(M:Mem)(st:Nat)(T:List AV→α→Prop)(a:AV)(l:List α):Prop :=
 (a = .sc (.slice none 0 0)∧l=[]) ∨ ∃ (id:Nat) (rows:List (List AV)) (cap:Option Nat),a = .sl id 0 rows.length cap st∧(cap=none∨cap=some rows.length)∧M.get id=some (.row false rows.flatten)∧All2 T rows l ∧ ∀ r∈rows,r.length=st
def rowOf:AV→Option Nat
 | .sl id .. => some id
 | _=>none
theorem zAE {st:Nat}:∀ {rows:List (List AV)},(∀ r∈rows,r.length=st)→rows.flatten.length=rows.length*st
 | [],_=>by simp
 | r::rows,h=>by simp [zAE (rows:=rows) (fun r hr=>h r (by simp [hr])),h r (by simp),Nat.succ_mul,Nat.add_comm]
def Cel {α:Type}(T:List AV→α→Prop):Prop:=∀ r x,T r x → ∀ y∈r,oneA y=true ∧ ∀ M k,0<k→frz M 0 k y=some y
theorem Cel.flat {α:Type}{T:List AV→α→Prop}(h:Cel T):∀ {rows:List (List AV)} {l:List α},All2 T rows l → ∀ y∈rows.flatten,oneA y=true ∧ ∀ M k,0<k→frz M 0 k y=some y
 | _,_,.nil=>fun y hy=>by simp at hy
 | _,_,.cons a b=>fun y hy=>by
  rw[List.flatten_cons,List.mem_append] at hy
  rcases hy with hy | hy
  ·exact h _ _ a y hy
  ·exact h.flat b y hy
theorem Cel.all {α:Type}{T:List AV→α→Prop}(h:Cel T){rows:List (List AV)}{l:List α}(k:All2 T rows l):rows.flatten.all oneA=true:=by
 rw[List.all_eq_true];exact fun y hy=>(h.flat k y hy).1
section
variable {α : Type} {M : Mem} {st : Nat} {T : List AV → α → Prop} {a : AV} {l : List α}
theorem SlM.one (h:SlM M st T a l):oneA a=true:=by rcases h with⟨rfl,_⟩ | ⟨_,_,_,rfl,_⟩ <;> rfl
theorem SlM.cells (h:SlM M st T a l):cellsA a=[a]:=by rcases h with⟨rfl,_⟩ | ⟨_,_,_,rfl,_⟩ <;> rfl
theorem SlM.len (h:SlM M st T a l)(N:Mem):lenO N a=some (.sc (.int .i64 l.length),N):=by
 rcases h with⟨rfl,rfl⟩ | ⟨id,rows,cap,rfl,_,_,h,_⟩
 ·rfl
 ·rw[zNW,h.length_eq]
theorem SlM.keep {N:Mem}(h:SlM M st T a l)(k:∀ id,rowOf a=some id→N.get id=M.get id):SlM N st T a l:=by
 rcases h with⟨rfl,rfl⟩ | ⟨id,rows,cap,rfl,hc,hg,h,hl⟩
 ·exact .inl ⟨rfl,rfl⟩
 ·exact .inr ⟨id,rows,cap,rfl,hc,(k id rfl).trans hg,h,hl⟩
theorem SlM.lt (h:SlM M st T a l):∀ id,rowOf a=some id→id<M.size:=by
 intro id hi
 rcases h with⟨rfl,rfl⟩ | ⟨id',rows,cap,rfl,_,hg,h,hl⟩
 ·cases hi
 ·cases hi;exact Mem.get_lt hg
theorem SlM.nil:SlM M st T (.sc (.slice none 0 0)) ([]:List α):=.inl ⟨rfl,rfl⟩
theorem SlM.frz (h:SlM M st T a l)(hT:Cel T){k:Nat}(hk:1<k):∃ r,Go.Ax.frz M 0 k a=some r∧Sl st T r l:=by
 rcases h with⟨rfl,rfl⟩ | ⟨id,rows,cap,rfl,_,hg,h,hl⟩
 ·exact⟨_,zK2 _ (by omega),.inl ⟨rfl,rfl⟩⟩
 ·refine⟨_,zNT (zBA hg) (by rw[zAE hl];omega) (by omega) (fun x hx=>(hT.flat h x hx).2 M _ (by omega)),.inr ⟨rows,cap, ?_,h,hl⟩⟩
  rw[zBC _ _ (by rw[zAE hl])]
theorem SlM.app (h:SlM M st T a l)(wf:Wf M){new:List (List AV)}{l':List α}(hn:All2 T new l')(hr:∀ r∈new,r.length=st)(ho:new.flatten.all oneA=true)(hs:0<st){bytes:Nat}
  (hb1:(l.length+l'.length)*bytes≤140737488355328) (hb2:l.length+l'.length≤140737488355328) :
  ∃ a' M',(∃ old,cellsOf M a=some old∧zAM M a old new.flatten l'.length st bytes=some (a',M'))∧SlM M' st T a' (l++l')∧Wf M'∧M.size≤M'.size∧M'.size≤M.size+1 ∧
   (∀ j,j<M.size→rowOf a≠some j→M'.get j=M.get j)∧(∀ id,rowOf a'=some id→rowOf a=some id∨M.size≤id)∧M'.wm=M.wm:=by
 have hfl:new.flatten.length=l'.length*st:=by rw[zAE hr,hn.length_eq]
 by_cases hz:l'.length=0
 ·have hl':l'=[]:=List.eq_nil_of_length_eq_zero hz
  subst hl'
  have hnew:new=[]:=List.eq_nil_of_length_eq_zero (hn.length_eq.trans hz)
  subst hnew
  rcases h with⟨rfl,rfl⟩ | ⟨id,rows,cap,rfl,hc,hg,h,hl⟩
  ·exact⟨_,M,⟨_,rfl,rfl⟩,.inl ⟨rfl,rfl⟩,wf,Nat.le_refl _,by omega,fun _ _ _=>rfl,fun id h => .inl h,rfl⟩
  ·refine⟨_,M,⟨slot rows.flatten 0 (rows.length*st), ?_,rfl⟩,.inr ⟨id,rows,cap,rfl,hc,hg,by simpa using h,hl⟩,wf,Nat.le_refl _,by omega,fun _ _ _=>rfl,fun id h => .inl h,rfl⟩
   simp only[cellsOf,zBA hg,Nat.zero_add,Nat.ble_eq_true_of_le (show rows.length*st≤rows.flatten.length by rw[zAE hl];exact Nat.le_refl _)]
 ·have hz2:Nat.beq l'.length 0=false:=by
   cases hb:Nat.beq l'.length 0 with
   | false=>rfl
   | true=>exact absurd (Nat.eq_of_beq_eq_true hb) hz
  rcases h with⟨rfl,rfl⟩ | ⟨id,rows,cap,rfl,hc,hg,h,hl⟩
  ·refine⟨.sl M.size 0 l'.length none st,M.add (.row false new.flatten),⟨_,rfl, ?_⟩,.inr ⟨M.size,new,none,by rw[hn.length_eq],.inl rfl,zAN wf _ _ (Nat.le_refl _) (by omega),by simpa using hn,hr⟩,wf.add _,by rw[zAK];omega,by rw[zAK];omega,fun j hj _=>zBJ wf _ _ hj,fun id h => .inr (by cases h;exact Nat.le_refl _),rfl⟩
   simp only[List.length_nil,Nat.zero_add] at hb1 hb2
   unfold zAM
   simp only[hz2,ho,hfl,Nat.beq_refl,Bool.and_self,Nat.ble_eq_true_of_le hb1,Nat.ble_eq_true_of_le hb2,zBO wf]
  ·have hlen:=h.length_eq
   have hid:=Mem.get_lt hg
   have hfr:=zAE hl
   have hgr:Nat.ble (0+(rows.length+l'.length)*st) rows.flatten.length=false:=by
    cases hb:Nat.ble (0+(rows.length+l'.length)*st) rows.flatten.length with
    | false=>rfl
    | true =>
     have:=Nat.le_of_ble_eq_true hb
     rw[hfr,Nat.add_mul] at this
     have:0<l'.length*st:=Nat.mul_pos (by omega) hs
     omega
   have hgr2:Nat.ble (rows.length+l'.length) rows.length=false:=by
    cases hb:Nat.ble (rows.length+l'.length) rows.length with
    | false=>rfl
    | true=>have:=Nat.le_of_ble_eq_true hb;omega
   rw[← hlen] at hb1 hb2
   have hcell:cellsOf M (.sl id 0 rows.length cap st)=some rows.flatten:=by
    simp only[cellsOf,zBA hg,Nat.zero_add,Nat.ble_eq_true_of_le (show rows.length*st≤rows.flatten.length by rw[hfr];exact Nat.le_refl _)]
    rw[zBC _ _ (by rw[hfr])]
   have hrows:∀ r∈rows++new,r.length=st:=fun r hr'=>by
    rcases List.mem_append.1 hr' with k | k
    ·exact hl r k
    ·exact hr r k
   rcases hc with rfl | rfl
   ·refine⟨.sl M.size 0 (rows.length+l'.length) none st,(M.upd id .dead).add (.row false (rows++new).flatten),⟨_,hcell, ?_⟩,.inr ⟨M.size,rows++new,none,by rw[List.length_append,hn.length_eq],.inl rfl,zAN (wf.upd _ _) _ _ (Nat.le_refl _) (by rw[zAX];omega),h.append hn,hrows⟩,(wf.upd _ _).add _,by rw[zAK,zAX];omega,by rw[zAK,zAX];omega,fun j hj hne=>?_,fun i h => .inr (by cases h;exact Nat.le_refl _),rfl⟩
    ·unfold zAM
     simp only[hz2,ho,hfl,Nat.beq_refl,Bool.and_self,Bool.and_true,Nat.ble_eq_true_of_le hb1,Nat.ble_eq_true_of_le hb2,hg,hgr,zC8 wf hid,zBO (wf.upd id .dead),zAX,List.flatten_append]
    ·rw[zBJ (wf.upd _ _) _ _ (by rw[zAX];exact hj),zB5 wf _ _ _ (fun e=>hne (by rw[e];rfl))]
   ·refine⟨.sl M.size 0 (rows.length+l'.length) none st,M.add (.row false (rows++new).flatten),⟨_,hcell, ?_⟩,.inr ⟨M.size,rows++new,none,by rw[List.length_append,hn.length_eq],.inl rfl,zAN wf _ _ (Nat.le_refl _) (by omega),h.append hn,hrows⟩,wf.add _,by rw[zAK];omega,by rw[zAK];omega,fun j hj hne=>zBJ wf _ _ hj,fun i h => .inr (by cases h;exact Nat.le_refl _),rfl⟩
    exact zE0o
theorem Sl.open (h:Sl st T a l):∃ rows:List (List AV),(∀ M,cellsOf M a=some rows.flatten)∧lenA a=some l.length∧All2 T rows l ∧ ∀ r∈rows,r.length=st:=by
 rcases h with⟨rfl,rfl⟩ | ⟨rows,cap,rfl,h,hl⟩
 ·exact⟨[],fun M=>rfl,rfl,.nil,fun r hr=>by cases hr⟩
 ·exact⟨rows,fun M=>rfl,by rw[← h.length_eq];rfl,h,hl⟩
theorem SlM.open (h:SlM M st T a l):∃ rows:List (List AV),cellsOf M a=some rows.flatten∧lenA a=some l.length∧All2 T rows l ∧ ∀ r∈rows,r.length=st:=by
 rcases h with⟨rfl,rfl⟩ | ⟨id,rows,cap,rfl,_,hg,h,hl⟩
 ·exact⟨[],rfl,rfl,.nil,fun r hr=>by cases hr⟩
 ·refine⟨rows, ?_,by rw[← h.length_eq];rfl,h,hl⟩
  simp only[cellsOf,zBA hg,Nat.zero_add,Nat.ble_eq_true_of_le (show rows.length*st≤rows.flatten.length by rw[zAE hl];exact Nat.le_refl _)]
  rw[zBC _ _ (by rw[zAE hl])]
end
def appO (M:Mem)(st bytes:Nat)(x y:AV):OR:=match cellsOf M y,lenA y,cellsOf M x with
  | some new,some n,some old=>zAM M x old new n st bytes
  | _,_,_=>none
theorem x_app (t:List AV)(M:Mem)(e:TypeId)(st bytes:Nat)(z:Value)(x y:Operand):zA1 P call t M (.app e st bytes z x y)=appO M st bytes (zA2 t x) (zA2 t y):=rfl
theorem zM2 {fuel:Nat}{fs:Nat→Option AFunc}{f:Nat}{af:AFunc}(h:fs f=some af)(hg:af.gc=1){n:Nat}{args as bs:List AV}{r:AV}{M0 M1 M M2 M3:Mem}(k:zAY P fs fuel (n+1) (.fn f) args M0=some (r,M1))
  (h0:icyL (icy 12) M0 args=some (bs,M3)) (h1:icyL (icy 12) M as=some (bs,M2)):zAY P fs fuel (n+1) (.fn f) as M=some (r,M2):=by
 simp only[zAY,h,hg,h0,h1,zIY] at k ⊢
 split at k
 ·cases k
 ·rename_i e fr M' hne he
  split at k
  ·rename_i M2 hs
   split at k
   ·rename_i vs hv
    split at k
    ·rename_i ws hw
     cases k
     simp only[hs,hv,hw]
    ·cases k
   ·cases k
  ·cases k
 ·cases k
theorem SlM.appO {α:Type}{M:Mem}{st:Nat}{T:List AV→α→Prop}{a y:AV}{l l':List α}(h:SlM M st T a l)(wf:Wf M){new:List (List AV)}(hy:cellsOf M y=some new.flatten)(hl:lenA y=some l'.length)(hn:All2 T new l')(hr:∀ r∈new,r.length=st)(ho:new.flatten.all oneA=true)(hs:0<st){bytes:Nat}
  (hb1:(l.length+l'.length)*bytes≤140737488355328) (hb2:l.length+l'.length≤140737488355328) :
  ∃ a' M',Go.Ax.appO M st bytes a y=some (a',M')∧SlM M' st T a' (l++l')∧Wf M'∧M.size≤M'.size∧M'.size≤M.size+1 ∧
   (∀ j,j<M.size→rowOf a≠some j→M'.get j=M.get j)∧(∀ id,rowOf a'=some id→rowOf a=some id∨M.size≤id)∧M'.wm=M.wm:=by
 obtain⟨a',M',⟨old,h1,h2⟩,h3⟩:=h.app wf hn hr ho hs hb1 hb2
 refine⟨a',M', ?_,h3⟩
 unfold Go.Ax.appO
 rw[hy,hl,h1]
 exact h2
theorem zCB {M:Mem}{id st n:Nat}{cap:Option Nat}{cs:List AV}(hg:M.get id=some (.row false cs))(hn:cs.length=n*st):cellsOf M (.sl id 0 n cap st)=some cs:=by
 simp only[cellsOf,zBA hg,Nat.zero_add,Nat.ble_eq_true_of_le (show n*st≤cs.length by omega)]
 rw[zBC _ _ hn.symm]
def Rd {α:Type}(M:Mem)(st:Nat)(T:List AV→α→Prop)(a:AV)(l:List α):Prop:=Sl st T a l∨SlM M st T a l
def Full {α:Type}(M:Mem)(st:Nat)(T:List AV→α→Prop)(a:AV)(l:List α):Prop :=
 (a = .sc (.slice none 0 0)∧l=[]) ∨ ∃ rows:List (List AV),All2 T rows l∧(∀ r∈rows,r.length=st) ∧
  (a = .pv rows.flatten rows.length (some rows.length) st ∨ ∃ id,a = .sl id 0 rows.length (some rows.length) st∧M.get id=some (.row false rows.flatten))
section
variable {α : Type} {M : Mem} {st : Nat} {T : List AV → α → Prop} {a : AV} {l : List α}
theorem Rd.len (h:Rd M st T a l)(N:Mem):lenO N a=some (.sc (.int .i64 l.length),N):=h.elim (fun h=>h.len N) (fun h=>h.len N)
theorem Rd.one (h:Rd M st T a l):oneA a=true:=h.elim (fun h=>h.one) (fun h=>h.one)
theorem Rd.cells (h:Rd M st T a l):cellsA a=[a]:=h.elim (fun h=>h.cells) (fun h=>h.cells)
theorem Rd.keep {N:Mem}(h:Rd M st T a l)(k:∀ id,rowOf a=some id→N.get id=M.get id):Rd N st T a l:=h.imp (fun h=>h) (fun h=>h.keep k)
theorem Rd.rows (h:Rd M st T a l):∀ i∈rowsOf a,rowOf a=some i∧i<M.size:=by
 intro i hi
 rcases h with h | h
 ·rw[h.rows M] at hi;cases hi
 ·rcases h with⟨rfl,rfl⟩ | ⟨id,rows,cap,rfl,hc,hg,h,hl⟩
  ·cases hi
  ·simp [rowsOf] at hi;subst hi;exact⟨rfl,Mem.get_lt hg⟩
theorem Full.keep {N:Mem}(h:Full M st T a l)(k:∀ id,rowOf a=some id→N.get id=M.get id):Full N st T a l:=by
 rcases h with h | ⟨rows,h1,h2,h3 | ⟨id,rfl,hg⟩⟩
 ·exact .inl h
 ·exact .inr ⟨rows,h1,h2,.inl h3⟩
 ·exact .inr ⟨rows,h1,h2,.inr ⟨id,rfl,(k id rfl).trans hg⟩⟩
theorem Full.appO (h:Full M st T a l)(wf:Wf M){y:AV}{l':List α}{new:List (List AV)}(hy:cellsOf M y=some new.flatten)(hl:lenA y=some l'.length)(hn:All2 T new l')(hr:∀ r∈new,r.length=st)(ho:new.flatten.all oneA=true)(hs:0<st)(hne:l'≠[]){bytes:Nat}
  (hb1:(l.length+l'.length)*bytes≤140737488355328) (hb2:l.length+l'.length≤140737488355328) :
  ∃ a' cs,Go.Ax.appO M st bytes a y=some (a',M.add (.row false cs))∧SlM (M.add (.row false cs)) st T a' (l++l')∧rowOf a'=some M.size:=by
 have hfl:new.flatten.length=l'.length*st:=by rw[zAE hr,hn.length_eq]
 have hz:l'.length≠0:=fun h=>hne (List.eq_nil_of_length_eq_zero h)
 have hz2:Nat.beq l'.length 0=false:=by
  cases hb:Nat.beq l'.length 0 with
  | false=>rfl
  | true=>exact absurd (Nat.eq_of_beq_eq_true hb) hz
 rcases h with⟨rfl,rfl⟩ | ⟨rows,hA,hrr,h⟩
 ·refine⟨.sl M.size 0 l'.length none st,new.flatten, ?_,.inr ⟨M.size,new,none,by rw[hn.length_eq],.inl rfl,zAN wf _ _ (Nat.le_refl _) (by omega),by simpa using hn,hr⟩,rfl⟩
  simp only[List.length_nil,Nat.zero_add] at hb1 hb2
  unfold Go.Ax.appO
  rw[hy,hl]
  show zAM M (.sc (.slice none 0 0)) [] new.flatten l'.length st bytes=_
  unfold zAM
  simp only[hz2,ho,hfl,Nat.beq_refl,Bool.and_self,Nat.ble_eq_true_of_le hb1,Nat.ble_eq_true_of_le hb2,zBO wf]
 ·have hlen:=hA.length_eq
  have hrows:∀ r∈rows++new,r.length=st:=fun r hr'=>by
   rcases List.mem_append.1 hr' with k | k
   ·exact hrr r k
   ·exact hr r k
  rw[← hlen] at hb1 hb2
  have hgr2:Nat.ble (rows.length+l'.length) rows.length=false:=by
   cases hb:Nat.ble (rows.length+l'.length) rows.length with
   | false=>rfl
   | true=>have:=Nat.le_of_ble_eq_true hb;omega
  refine⟨.sl M.size 0 (rows.length+l'.length) none st,(rows++new).flatten, ?_,.inr ⟨M.size,rows++new,none,by rw[List.length_append,hn.length_eq],.inl rfl,zAN wf _ _ (Nat.le_refl _) (by omega),hA.append hn,hrows⟩,rfl⟩
  rcases h with rfl | ⟨id,rfl,hg⟩
  ·unfold Go.Ax.appO
   rw[hy,hl]
   show zAM M (.pv rows.flatten rows.length (some rows.length) st) rows.flatten new.flatten l'.length st bytes=_
   unfold zAM
   simp only[hz2,ho,hfl,Nat.beq_refl,Bool.and_self,Bool.and_true,Nat.ble_eq_true_of_le hb1,Nat.ble_eq_true_of_le hb2,zBY (show rows.length<rows.length+l'.length by omega),zBO wf,List.flatten_append]
  ·have hcell:cellsOf M (.sl id 0 rows.length (some rows.length) st)=some rows.flatten:=zCB hg (zAE hrr)
   unfold Go.Ax.appO
   rw[hy,hl,hcell]
   show zAM M (.sl id 0 rows.length (some rows.length) st) rows.flatten new.flatten l'.length st bytes=_
   exact zE0o
theorem Rd.iad (h:Rd M st T a l)(i:Nat)(hi:i<l.length):∃ r p,(∀ N,iadO N st a (some i)=some (p,N))∧T r l[i]∧r.length=st∧rowsOf p=rowsOf a ∧
  ((∃ id,p = .ptr id (i*st)∧rowOf a=some id ∧ ∃ cs,M.rd id=some cs∧slot cs (i*st) st=r∧i*st+st≤cs.length)∨p = .cp r 0):=by
 rcases h with h | h
 ·obtain⟨r,h1,h2,h3⟩:=h.iad i hi
  exact⟨r,.cp r 0,h1,h2,h3,by rw[h.rows M];rfl,.inr rfl⟩
 ·rcases h with⟨rfl,rfl⟩ | ⟨id,rows,cap,rfl,hc,hg,h,hr⟩
  ·simp at hi
  ·have hlen:=h.length_eq
   have hir:i<rows.length:=by omega
   refine⟨rows[i],.ptr id (i*st),fun N=>?_,h.get hir hi,hr _ (List.getElem_mem hir),rfl,.inl ⟨id,rfl,rfl,_,zBA hg,zE9 hr i _ (by simp [hir]), ?_⟩⟩
   ·simp only[iadO,Nat.beq_refl,zBY hir,Bool.and_self,Nat.zero_add]
   ·rw[zAE hr,← Nat.succ_mul];exact Nat.mul_le_mul_right _ hir
end
theorem ro_sc (v:Value):rowsOf (.sc v)=[]:=rfl
theorem zS1 (id off:Nat):rowsOf (.ptr id off)=[id]:=rfl
theorem ro_sl (id off n st:Nat)(cap:Option Nat):rowsOf (.sl id off n cap st)=[id]:=rfl
theorem ro_mp (id:Nat):rowsOf (.mp id)=[id]:=rfl
theorem ro_pv (cs:List AV)(n st:Nat)(cap:Option Nat):rowsOf (.pv cs n cap st)=[]:=rfl
theorem ro_cp (cs:List AV)(n:Nat):rowsOf (.cp cs n)=[]:=rfl
theorem ro_fn (f:FuncId)(a b:List AV):rowsOf (.fn f a b)=[]:=rfl
theorem zS0 (l:List AV):rowsOf (.agg l)=[]:=rfl
theorem zS2 (l:List AV):rowsOf (.tup l)=[]:=rfl
theorem ro_yl (id:Nat):rowsOf (.yl id)=[]:=rfl
def RL (n:Nat)(a:AV):Prop:=∀ i∈rowsOf a,i<n
theorem zPR {n m:Nat}{a:AV}(h:RL n a)(k:n≤m):((rowsOf a).all fun i=>Nat.blt i m)=true:=by
 rw[List.all_eq_true];exact fun i hi=>zBY (Nat.lt_of_lt_of_le (h i hi) k)
section
variable {α : Type} {M : Mem} {st : Nat} {T : List AV → α → Prop} {a : AV} {l : List α}
theorem Rd.lt (h:Rd M st T a l):RL M.size a:=fun i hi=>(h.rows i hi).2
theorem SlM.rl (h:SlM M st T a l):RL M.size a:=Rd.lt (.inr h)
end
theorem zLN (r r':List Nat)(n n':Nat):FP.apart (fpOf r [] n n') (.acc r' [])=true:=by unfold fpOf;split <;> simp [FP.apart,disj,FP.reads,FP.writes]
theorem zLT (r r':List Nat)(n n':Nat):FP.apart (.acc r' []) (fpOf r [] n n')=true:=by unfold fpOf;split <;> simp [FP.apart,disj,FP.reads,FP.writes]
theorem zLL (r r':List Nat)(n n' m m':Nat):FP.apart (fpOf r' [] m m') (fpOf r [] n n')=true:=by unfold fpOf;split <;> split <;> simp [FP.apart,disj,FP.reads,FP.writes]
theorem zLM (r:List Nat)(n n':Nat):FP.apart (fpOf r [] n n') .quiet=true:=by unfold fpOf;split <;> simp [FP.apart,disj,FP.reads,FP.writes]
theorem zLQ (r:List Nat)(n n':Nat):FP.apart .quiet (fpOf r [] n n')=true:=by unfold fpOf;split <;> simp [FP.apart,disj,FP.reads,FP.writes]
theorem zHZ {M:Mem}{st id off n i:Nat}{cap:Option Nat}(h:i<n):iadO M st (.sl id off n cap st) (some i)=some (.ptr id (off+i*st),M):=by
 simp only[iadO,Nat.beq_refl,zBY h,Bool.and_self]
def b2sO (M:Mem)(x:AV):OR:=match x with
  | .sc (.slice none _ _)=>some (.sc (.string ⟨#[]⟩),M)
  | .sl id off len cap st=>match Nat.beq st 1 with
   | true=>match cellsOf M (.sl id off len cap st) with
    | some cs=>match bytesOf cs with
     | some bs=>some (.sc (.string ⟨bs.toArray⟩),M)
     | none=>none
    | none=>none
   | false=>none
  | .pv cs _ _ st=>match Nat.beq st 1 with
   | true=>match bytesOf cs with
    | some bs=>some (.sc (.string ⟨bs.toArray⟩),M)
    | none=>none
   | false=>none
  | _=>none
theorem x_b2s (t:List AV)(M:Mem)(x:Operand):zA1 P call t M (.b2s x)=b2sO M (zA2 t x):=by
 simp only[zA1,b2sO]
 rfl
abbrev I64 (n:Int):AV:=.sc (.int .i64 n)
abbrev I32 (n:Int):AV:=.sc (.int .i32 n)
abbrev U8 (n:Int):AV:=.sc (.int .u8 n)
abbrev BL (b:Bool):AV:=.sc (.bool b)
abbrev NIL:AV:=.sc (.slice none 0 0)
def isU8 (r:List AV)(b:UInt8):Prop:=r=[U8 b.toNat]
abbrev Bs (a:AV)(l:List UInt8):Prop:=Sl 1 isU8 a l
theorem zDC:∀ {rows:List (List AV)} {l:List UInt8},All2 isU8 rows l→bytesOf rows.flatten=some l
 | _,_,.nil=>rfl
 | _,_,.cons (x:=r) (y:=b) (l:=rows) h k=>by
  have h':r=[U8 b.toNat]:=h
  subst h'
  have ih:=zDC k
  simp only[List.flatten_cons,List.cons_append,List.nil_append,bytesOf,ih]
  simp
abbrev STR (l:List UInt8):AV:=.sc (.string ⟨l.toArray⟩)
theorem Sl.b2s {a:AV}{l:List UInt8}(h:Bs a l)(M:Mem):b2sO M a=some (STR l,M):=by
 rcases h with⟨rfl,rfl⟩ | ⟨rows,cap,rfl,hA,hr⟩
 ·rfl
 ·simp only[b2sO,Nat.beq_refl,zDC hA]
theorem SlM.b2s {M:Mem}{a:AV}{l:List UInt8}(h:SlM M 1 isU8 a l):b2sO M a=some (STR l,M):=by
 obtain⟨rows,h1,_,h3,_⟩:=h.open
 rcases h with⟨rfl,rfl⟩ | ⟨id,rows',cap,rfl,_⟩
 ·rfl
 ·simp only[b2sO,Nat.beq_refl,h1,zDC h3]
theorem wrap_i64 {n:Int}(h1 : -9223372036854775808≤n)(h2:n≤9223372036854775807):IntKind.i64.wrap n=n:=by
 simp [IntKind.wrap,IntKind.bits,IntKind.signed]
 omega
def RUN':=PLift.up (azZ @zSF (azZ @zQ3 (azZ @w_ret (azZ @zSD (azZ @zQ5 (azZ @w_seq (azZ @zQ1 (azZ @zSB (azZ @zNM (azZ @zLD (azZ @w_ops (azZ @zSE (azZ @w3_kO (azZ @zQ4 (azZ @zJ0 (azZ @zP7 (azZ @zMZ (azZ @zIN (azZ @zOC (azZ @zLZ (azZ @zKG (azZ @zR9 (azZ @zP2 (azZ @zOL (azZ @zIR (azZ @zMF (azZ @zH7 (azZ @zM7 (azZ @zJT (azZ @zQV (azZ @zQU (azZ @zQT (azZ @zQS (azZ @zK6 (azZ @zOJ (azZ @zNO (azZ @eval_const (azZ @eval_func (azZ @zRY (azZ @zNA (azZ @zR6 (azZ @zP1 (azZ @x_mov (azZ @zSL (azZ @zQ6 (azZ @x_box (azZ @zQ7 (azZ @x_bsl (azZ @zSJ (azZ @zQA (azZ @zQ9 (azZ @x_pur (azZ @zQ8 (azZ @x_len (azZ @x_fad (azZ @x_fld (azZ @x_iad (azZ @x_ext (azZ @zSI (azZ @zSK (azZ @x_app (azZ @x_b2s (azZ @x_slc (azZ @zHZ (azZ @zSC (azZ @zJ6 (azZ @zLE (azZ @zJV (azZ @zOF (azZ @zQ2 (azZ @zQR (azZ @zQO (azZ @zQQ (azZ @zQP (azZ @zK5 (azZ @zS9 (azZ @zSA (azZ @zR5 (azZ @zR3 (azZ @zR4 (azZ @zMR (azZ @zFP (azZ @zR7 (azZ @zR8 (azZ @zFG (azZ @zQG (azZ @zQH (azZ @bk_lo (azZ @zDB (azZ @zDK (azZ @zJF (azZ @zIK (azZ @zGY (azZ @zLP (azZ @zLO (azZ @zLV (azZ @zLU (azZ @zLS (azZ @zLR (azZ @zLN (azZ @zLT (azZ @zLL (azZ @zLM (azZ @zLQ (azZ @zON (azZ @zQJ (azZ @zOO (azZ @zMI (azZ @fpC_f (azZ @zMC (azZ @zMB (azZ @zMD (azZ @zJX (azZ @zMA (azZ @pNil (azZ @zPN (azZ @zRX (azZ @zRW (azZ @zP0 (azZ @zOZ (azZ @ld_cp (azZ @zPY (azZ @zPX (azZ @zKL (azZ @zMU (azZ @zMV (azZ @zMW (azZ @len_nil (azZ @zNW (azZ @zNV (azZ @zOK (azZ @zQI (azZ @zOM (azZ @zPT (azZ @zPU (azZ @zND (azZ @zJ3 (azZ @zL9 (azZ @zPV (azZ @zJQ (azZ @zJR (azZ @zIP (azZ @zG7 (azZ @zH0 (azZ @zFI (azZ @zJS (azZ @zM6 (azZ @zM5 (azZ @zM3 (azZ @zM4 (azZ @ro_sc (azZ @zS1 (azZ @ro_sl (azZ @ro_mp (azZ @ro_pv (azZ @ro_cp (azZ @ro_fn (azZ @zS0 (azZ @zS2 (azZ @ro_yl (azZ @pInt2 (azZ @zPK (azZ @zPL (azZ @zN8 (azZ @vsEql (azZ @vsNeq (azZ @vLss (azZ @vLeq (azZ @vGtr (azZ @vGeq (azZ @vEql (azZ @vNeq (azZ @vAdd (azZ @vSub (azZ @vMul (azZ @pNot2 (azZ @zN9 (azZ @pMin (azZ @zPO (azZ @zNN (azZ @zD0 (azZ @zAK (azZ @zAX (azZ @zOY (azZ @zD6 (azZ @zPQ (azZ @zPP (azZ @zQZ (azZ @zQY (azZ @zQW (azZ @zOT (azZ @zOU (azZ @zQX (azZ @zK2 (azZ @zQM (azZ @zQK (azZ @zOQ (azZ @zOS (azZ @zQL (azZ @zO5 (azZ @zO6 (azZ @zLF (azZ @zC8 (azZ @zAN (azZ @zBJ (azZ @zDE (azZ @zB5 (azZ @zI6 (azZ @zKZ (azZ @zF6 (azZ @zEH (azZ @zD3 (azZ @zDP (azZ @zF7 (azZ @zKP (azZ @zO1 (azZ @zO0 (azZ @zNY (azZ @zNZ (azZ @zBY (azZ @zAT (@zKK))))))))))))))))))))))))))))))))))))))))))))))))))))))))))))))))))))))))))))))))))))))))))))))))))))))))))))))))))))))))))))))))))))))))))))))))))))))))))))))))))))))))))))))))))))))))))))))))))))))))))))))))))))))))))))))
theorem RUN:type_of% RUN'.down:=RUN'.down
set_option maxRecDepth 100000
variable {fuel : Nat} {fs : Nat → Option AFunc} {M : Mem} {Q : AV → Mem → Prop} {d : Nat}
open Go Go.RowKit Go.ChangeShapes Go.WideShapes Go.ChangeAt
open Go.ChangeMaps (open_string)
theorem zJE {α:Type}{T:List AV→α→Prop}:∀ {rows:List (List AV)},(∀ r∈rows,∃ x,T r x) → ∃ xs,All2 T rows xs
 | [],_=>⟨[],.nil⟩
 | r::rows,h=>by
  obtain⟨x,hx⟩:=h r (by simp)
  obtain⟨xs,hxs⟩:=zJE (rows:=rows) fun r hr=>h r (by simp [hr])
  exact⟨x::xs,.cons hx hxs⟩
theorem Is.slice {α:Type}{g:GT}{T:List AV→α→Prop}(hT:∀ r,Is g r → ∃ x,T r x){l:List AV}(h:Is (.sl g) l):∃ a xs,l=[a]∧Sl g.n T a xs:=by
 simp only[Is] at h
 rcases h with rfl | ⟨rows,cap,rfl,_,_,hr⟩
 ·exact⟨_,[],rfl,.inl ⟨rfl,rfl⟩⟩
 ·obtain⟨xs,hxs⟩:=zJE fun r hr'=>hT r (hr r hr')
  exact⟨_,xs,rfl,.inr ⟨rows,some cap,rfl,hxs,fun r hr'=>Is.len g (hr r hr')⟩⟩
theorem Is.u8 {r:List AV}(h:Is (.int .u8) r):∃ b,isU8 r b:=by
 simp only[Is] at h
 obtain⟨n,rfl,hw⟩:=h
 have hb:0≤n∧n≤255:=by
  simp [Lit.wf,IntKind.min,IntKind.max,IntKind.signed,IntKind.bits] at hw
  omega
 refine⟨UInt8.ofNat n.toNat, ?_⟩
 show [AV.sc (.int .u8 n)]=[U8 _]
 simp only[UInt8.toNat_ofNat']
 congr 3
 rw[Nat.mod_eq_of_lt (by omega)];omega
theorem Is.i64 {r:List AV}(h:Is (.int .i64) r):∃ n,r=[I64 n] ∧ -9223372036854775808≤n∧n≤9223372036854775807:=by
 simp only[Is] at h
 obtain⟨n,rfl,hw⟩:=h
 refine⟨n,rfl, ?_⟩
 simp [Lit.wf,IntKind.min,IntKind.max,IntKind.signed,IntKind.bits] at hw
 omega
theorem Is.bytes {r:List AV}(h:Is (.sl (.int .u8)) r):∃ a b,r=[a]∧Bs a b:=Is.slice (fun _=>Is.u8) h
section
variable {H : Type} {enc : TypeId × Value → H} {w : World}
end
theorem zEA {k:Nat}(hk:0<k):∀ {l:List AV},(∀ x∈l,∀ M,icy k M x=some (x,M)) → ∀ M,icyL (icy k) M l=some (l,M)
 | [],_,_=>rfl
 | x::l,h,M=>by
  have h1:=h x (by simp) M
  have h2:=zEA hk (l:=l) (fun y hy=>h y (List.mem_cons_of_mem _ hy)) M
  simp only[icyL,h1,h2]
def CelI {α:Type}(T:List AV→α→Prop):Prop:=∀ r x,T r x → ∀ y∈r,∀ M k,0<k→icy k M y=some (y,M)
theorem CelI.flat {α:Type}{T:List AV→α→Prop}(h:CelI T):∀ {rows:List (List AV)} {l:List α},All2 T rows l → ∀ y∈rows.flatten,∀ M k,0<k→icy k M y=some (y,M)
 | _,_,.nil=>fun y hy=>by simp at hy
 | _,_,.cons a b=>fun y hy=>by
  rw[List.flatten_cons,List.mem_append] at hy
  rcases hy with hy | hy
  ·exact h _ _ a y hy
  ·exact h.flat b y hy
def RU':=PLift.up (azZ @decide_true (azZ @decide_false (azZ @Int.lt_irrefl (azZ @Nat.beq_eq (azZ @Option.map_some.{0,0} (azZ @Option.map_none.{0,0} (azZ @List.contains_cons.{0} (azZ @List.contains_nil.{0} (azZ @Bool.or_true (azZ @Bool.true_or (azZ @Bool.or_false (azZ @Bool.false_or (azZ @Bool.not_true (azZ @Bool.not_false (azZ @Bool.and_self (azZ @List.elem_nil.{0} (azZ @List.all_nil.{0} (azZ @List.all_cons.{0} (azZ @Bool.and_true (azZ @Bool.true_and (azZ @true_and (azZ @and_true (azZ @List.map_cons.{0,0} (azZ @List.map_nil.{0,0} (azZ @List.nil_append.{0} (azZ @List.cons_append.{0} (azZ @List.append_nil.{0} (azZ @Nat.zero_add (azZ @Nat.add_zero (azZ @List.drop_succ_cons.{0} (azZ @List.drop_zero.{0} (azZ @List.take_succ_cons.{0} (azZ @List.take_zero.{0} (azZ @List.getElem?_cons_zero.{0} (azZ @List.getElem?_cons_succ.{0} (azZ @List.length_cons.{0} (@List.length_nil.{0})))))))))))))))))))))))))))))))))))))
theorem RU:type_of% RU'.down:=RU'.down
def DS':=PLift.up (azZ @zAK (azZ @zAX (azZ @zD0 (azZ @List.length_cons.{0} (azZ @List.length_nil.{0} (azZ @zO5 (azZ @zO6 (azZ @zLF (azZ @zR8 (azZ @zQH (azZ @zFP (azZ @zFG (azZ @List.all_cons.{0} (azZ @List.all_nil.{0} (azZ @zF6 (azZ @zEH (azZ @zD3 (azZ @zDP (azZ @zF7 (azZ @zKP (azZ @zO1 (azZ @zO0 (azZ @zNY (azZ @zNZ (@Bool.and_true)))))))))))))))))))))))))
theorem DS:type_of% DS'.down:=DS'.down
theorem DZ:type_of% (azZ @zAK (azZ @zAX (azZ @zD0 (azZ @zFP (azZ @zFG (azZ @List.length_cons.{0} (@List.length_nil.{0}))))))):=azZ @zAK (azZ @zAX (azZ @zD0 (azZ @zFP (azZ @zFG (azZ @List.length_cons.{0} (@List.length_nil.{0}))))))
theorem FA:(∀ t x0,zAD t (.mov x0) = .acc [] []) ∧
 (∀ t x0 x1 x2,zAD t (.pick x0 x1 x2) = .acc [] []) ∧
 (∀ t x0 x1,zAD t (.alloc x0 x1) = .acc [] []) ∧
 (∀ t x0 x1,zAD t (.box x0 x1) = .acc [] []) ∧
 (∀ t x0 x1,zAD t (.build x0 x1) = .acc [] []) ∧
 (∀ t x0 x1 x2 x3 x4,zAD t (.bsl x0 x1 x2 x3 x4) = .acc [] []) ∧
 (∀ t x0,zAD t (.nilck x0) = .acc [] []) ∧
 (∀ t x0,zAD t (.pur x0) = .acc [] []) ∧
 (∀ t x0 x1 x2 x3,zAD t (.eqnil x0 x1 x2 x3) = .acc [] []) ∧
 (∀ t x0 x1,zAD t (.fad x0 x1) = .acc [] []) ∧
 (∀ t x0 x1 x2 x3,zAD t (.fld x0 x1 x2 x3) = .acc [] []) ∧
 (∀ t x0 x1 x2,zAD t (.iad x0 x1 x2) = .acc [] []) ∧
 (∀ t x0 x1 x2 x3,zAD t (.ida x0 x1 x2 x3) = .acc [] []) ∧
 (∀ t x0 x1 x2 x3 x4,zAD t (.idx x0 x1 x2 x3 x4) = .acc [] []) ∧
 (∀ t x0 x1 x2,zAD t (.mkfn x0 x1 x2) = .acc [] []) ∧
 (∀ t,zAD t (.mkmap) = .acc [] []) ∧
 (∀ t x0 x1 x2 x3 x4 x5,zAD t (.mksl x0 x1 x2 x3 x4 x5) = .acc [] []) ∧
 (∀ t x0 x1,zAD t (.ext x0 x1) = .acc [] []) ∧
 (∀ t x0,zAD t (.len x0) = .acc [] []) ∧
 (∀ t x0,zAD t (.cap x0) = .acc [] []) ∧
 (∀ t x0 x1,zAD t (.s2b x0 x1) = .acc [] []) ∧
 (∀ t x0,zAD t (.rng x0) = .acc [] []) ∧
 (∀ t x0 x1 x2,zAD t (.load x0 x1 x2) = .acc (rowsOf (zA2 t x2)) []) ∧
 (∀ t x0 x1 x2 x3 x4,zAD t (.lookup x0 x1 x2 x3 x4) = .acc (rowsOf (zA2 t x2)) []) ∧
 (∀ t x0,zAD t (.mlen x0) = .acc (rowsOf (zA2 t x0)) []) ∧
 (∀ t x0,zAD t (.b2s x0) = .acc (rowsOf (zA2 t x0)) []) ∧
 (∀ t x0 x1 x2 x3 x4,zAD t (.slc x0 x1 x2 x3 x4) = .acc (rowsOf (zA2 t x1)) []) ∧
 (∀ t x0 x1 x2 x3 x4 x5,zAD t (.sla x0 x1 x2 x3 x4 x5) = .acc (rowsOf (zA2 t x2)) []) ∧
 (∀ t x0 x1 x2,zAD t (.store x0 x1 x2) = .acc [] (rowsOf (zA2 t x1))) ∧
 (∀ t x0 x1 x2,zAD t (.clr x0 x1 x2) = .acc [] (rowsOf (zA2 t x2))) ∧
 (∀ t x0,zAD t (.mrk x0) = .acc [] (rowsOf (zA2 t x0))) ∧
 (∀ t x0,zAD t (.nxt x0) = .acc [] (rowsOf (zA2 t x0))) ∧
 (∀ t x0 x1 x2 x3,zAD t (.mupd x0 x1 x2 x3) = .acc [] (rowsOf (zA2 t x1))) ∧
 (∀ t x0 x1 x2 x3 x4 x5,zAD t (.appz x0 x1 x2 x3 x4 x5) = .acc [] (rowsOf (zA2 t x4))) ∧
 (∀ t x0 x1 x2 x3 x4 x5,zAD t (.app x0 x1 x2 x3 x4 x5) = .acc (rowsOf (zA2 t x5)) (rowsOf (zA2 t x4))) ∧
 (∀ t x0 x1 x2,zAD t (.cpy x0 x1 x2) = .acc (rowsOf (zA2 t x2)) (rowsOf (zA2 t x1))) ∧
 (∀ t x0 x1,zAD t (.call x0 x1) = .any) ∧
 (∀ t x0 x1 x2 x3 x4 x5 x6,zAD t (.ins x0 x1 x2 x3 x4 x5 x6) = .any) ∧
 (∀ t x0 x1 x2,zAD t (.ovl x0 x1 x2) = .any) ∧
 (∀ n r w,zCC n (.acc r w)=((r.all fun i=>Nat.blt i n)&&w.all fun i=>Nat.blt i n)) ∧
 (∀ n,zCC n .any=true) ∧
 (∀ x:AV,zBU [x]=x) ∧
 (zBU [] = .tup []) ∧
 (∀ (x y:AV) l,zBU (x::y::l) = .tup (x::y::l)):=by
 refine⟨?_, ?_, ?_, ?_, ?_, ?_, ?_, ?_, ?_, ?_, ?_, ?_, ?_, ?_, ?_, ?_, ?_, ?_, ?_, ?_, ?_, ?_, ?_, ?_, ?_, ?_, ?_, ?_, ?_, ?_, ?_, ?_, ?_, ?_, ?_, ?_, ?_, ?_, ?_, ?_, ?_, ?_, ?_, ?_⟩ <;> intros <;> rfl
theorem RV:type_of% (azZ @RUN (azZ @RU (azZ @FA (azZ @zAF.eq_1 (azZ @zAF.eq_2 (azZ @zAF.eq_3 (azZ @frzL.eq_1 (azZ @frzL.eq_2 (azZ @slot.eq_1 (azZ @lay.eq_1 (azZ @kR.eq_1 (azZ @icyL.eq_1 (azZ @icyL.eq_2 (azZ @zA5.eq_1 (@zA5.eq_2))))))))))))))):=azZ @RUN (azZ @RU (azZ @FA (azZ @zAF.eq_1 (azZ @zAF.eq_2 (azZ @zAF.eq_3 (azZ @frzL.eq_1 (azZ @frzL.eq_2 (azZ @slot.eq_1 (azZ @lay.eq_1 (azZ @kR.eq_1 (azZ @icyL.eq_1 (azZ @icyL.eq_2 (azZ @zA5.eq_1 (@zA5.eq_2))))))))))))))
theorem SX {p:Prop}(h:p:=by first | omega | assumption | (simp only[DS,Nat.reduceAdd, *];done) | (simp only[DZ];omega)):p:=h
theorem DT {p:Prop}[Decidable p](h:p:=by omega):decide p=true:=decide_eq_true h
theorem DF {p:Prop}[Decidable p](h:¬p:=by omega):decide p=false:=decide_eq_false h
theorem WI {a b:Int}(h : -9223372036854775808≤a∧a≤9223372036854775807∧a=b:=by omega):IntKind.i64.wrap a=b:=by rw[wrap_i64 h.1 h.2.1];exact h.2.2
theorem hx2 {b:List AV}{x y:AV}{l:List AV}(h:∀ (i:Nat) (q:AV),(x::y::l)[i]? = some q→nth zA6 b i=q):nth zA6 b 0=x∧nth zA6 b 1=y:=⟨h 0 _ rfl,h 1 _ rfl⟩
theorem hx3 {b:List AV}{x y z:AV}{l:List AV}(h:∀ (i:Nat) (q:AV),(x::y::z::l)[i]? = some q→nth zA6 b i=q):nth zA6 b 0=x∧nth zA6 b 1=y∧nth zA6 b 2=z:=⟨h 0 _ rfl,h 1 _ rfl,h 2 _ rfl⟩
variable {Γ : Glob}
theorem zG4 {α:Type}{T:List AV→α→Prop}:∀ {rows:List (List AV)} {l:List α} (n:Nat),All2 T rows l→All2 T (rows.take n) (l.take n)
 | _,_,0,_=>by simp;exact .nil
 | _,_,n+1,.nil=>by simp;exact .nil
 | _,_,n+1,.cons a b => .cons a (zG4 n b)
theorem zC0 {st:Nat}:∀ {rows:List (List AV)} (i:Nat),(∀ r∈rows,r.length=st)→rows.flatten.drop (i*st)=(rows.drop i).flatten
 | _,0,_=>by simp
 | [],i+1,_=>by simp
 | r::rows,i+1,h=>by
  have hr:=h r List.mem_cons_self
  rw[List.flatten_cons,List.drop_succ_cons,Nat.succ_mul,Nat.add_comm,← List.drop_drop,List.drop_left' hr]
  exact zC0 i fun q hq=>h q (List.mem_cons_of_mem _ hq)
theorem zEY {st:Nat}:∀ {rows:List (List AV)} (i:Nat),(∀ r∈rows,r.length=st)→rows.flatten.take (i*st)=(rows.take i).flatten
 | _,0,_=>by simp
 | [],i+1,_=>by simp
 | r::rows,i+1,h=>by
  have hr:=h r List.mem_cons_self
  rw[List.flatten_cons,List.take_succ_cons,List.flatten_cons,Nat.succ_mul,Nat.add_comm,← hr,List.take_length_add_append,hr,zEY i fun q hq=>h q (List.mem_cons_of_mem _ hq)]
theorem zG3 {α:Type}{T:List AV→α→Prop}:∀ {rows:List (List AV)} {l:List α} (n:Nat),All2 T rows l→All2 T (rows.drop n) (l.drop n)
 | _,_,0,h=>h
 | _,_,n+1,.nil=>by simp;exact .nil
 | _,_,n+1,.cons a b=>zG3 n b
def msk:List (Option AFunc)→List (Option AFunc)→List (Option AFunc)
 | none::l,_::m=>none::msk l m
 | some _::l,x::m=>x::msk l m
 | _,_=>[]
theorem zHE:∀ {l m:List (Option AFunc)} {i:Nat} {a:AFunc} {x:Option AFunc},l[i]? = some (some a)→(msk l m)[i]? = some x→m[i]? = some x
 | [],_,_,_,_,h,_=>by simp at h
 | none::l,[],_,_,_,_,k=>by simp [msk] at k
 | some _::l,[],_,_,_,_,k=>by simp [msk] at k
 | none::l,y::m,0,_,_,h,_=>by simp at h
 | some _::l,y::m,0,_,_,_,k=>by simpa [msk] using k
 | none::l,y::m,i+1,_,_,h,k=>by
  simp only[msk,List.getElem?_cons_succ] at h k ⊢
  exact zHE h k
 | some _::l,y::m,i+1,_,_,h,k=>by
  simp only[msk,List.getElem?_cons_succ] at h k ⊢
  exact zHE h k
def noX:Option AFunc→Option AFunc
 | some af=>match af.gc with | 3=>none | _=>some af
 | none=>none
theorem zPZ {P:Program}{l:List (Option AFunc)}{n:Nat}(h:(l.map noX).map clr=msk (l.map noX) (zAV P n 0))
  (hx : ∀ f af, l[f]? = some (some af) → af.gc = 3 → ∃ fn, P.funcs[f]? = some fn ∧ (fn.name == "runtime.NumGoroutine") = false ∧ fn.body.isSome = true ∧ ∃ g, af.body = .ext g ∧ zQC Γ P f g) : zIJ Γ P (fsT l) := by
 intro f af hf
 have hl:l[f]? = some (some af):=by
  unfold fsT at hf
  rw[zD2] at hf
  cases hl:l[f]? with
  | none=>rw[hl] at hf;cases hf
  | some x=>rw[hl] at hf;simp at hf;subst hf;rfl
 by_cases hg:af.gc=3
 ·obtain⟨fn,h1,h2,h3,g,h4,h5⟩:=hx f af hl hg
  exact⟨fn,h1,h2,.inr ⟨hg,h3,g,h4,h5⟩⟩
 ·have hl':(l.map noX)[f]? = some (some af):=by
   have e:noX (some af)=some af:=by
    obtain⟨a,b,c,g⟩:=af
    unfold noX
    match g,hg with
    | 0,_=>rfl
    | 1,_=>rfl
    | 2,_=>rfl
    | 3,h=>exact absurd rfl h
    | _+4,_=>rfl
   rw[List.getElem?_map,hl,Option.map_some,e]
  have h1:((l.map noX).map clr)[f]? = some (clr (some af)):=by rw[List.getElem?_map,hl'];rfl
  rw[h] at h1
  have h2:=zHE hl' h1
  have h3:nth none (zAV P n 0) f=some { af with gc:=0 }:=by rw[zD2,h2];rfl
  have h4:=zER P n 0 f _ h3
  rw[Nat.zero_add] at h4
  obtain⟨fn,k1,k2,k3⟩:=zNK (Γ:=Γ) P f _ h4
  refine⟨fn,k1,k2,.inl ⟨?_,hg⟩⟩
  rcases k3 with⟨k3,_⟩ | ⟨k3,_⟩
  ·exact k3
  ·exact absurd (show (0:Nat)=3 from k3) (by decide)
def no3:Option AFunc→Bool
 | some af=>match af.gc with | 3=>false | _=>true
 | none=>true
theorem zNL {P:Program}{l:List (Option AFunc)}{n:Nat}(h:(l.map noX).map clr=msk (l.map noX) (zAV P n 0))(h3:l.all no3=true):zIJ Γ P (fsT l) :=
 zPZ h fun f af hl hg=>by
  rw[List.all_eq_true] at h3
  have:=h3 _ (List.mem_of_getElem? hl)
  simp only[no3] at this
  rw[hg] at this
  cases this
theorem zBP {α β:Type}(f:α→Sem β){b:β}:∀ {s:Sem α},zA9 P (s >>= f)=some b → ∃ a,zA9 P s=some a∧zA9 P (f a)=some b:=by
 intro s
 induction s with
 | pure a=>intro h;exact⟨a,rfl,h⟩
 | program k ih=>intro h;exact ih P h
 | mark m k ih=>intro h;exact ih h
 | _=>intro h;cases h
theorem zET {d:Nat}{t:TypeId}{xs ys:Array Value}{fs:Array Field}{b:Bool}(ht:P.underlying t=some (.struct fs))(hp:P.stoodInHeld t=false)(h:zA9 P (Op.eqFields d xs ys fs.toList)=some b) :
  zA9 P (Op.equalIn (d+1) t (.agg xs) (.agg ys))=some b:=by
 unfold Op.equalIn
 refine zA3 _ (a:=TypeDesc.struct fs) (zA3 _ (a:=P) rfl (by simp only[ht];rfl)) ?_
 refine zA3 _ (a:=P) rfl ?_
 simp only[hp,Bool.false_eq_true,if_false]
 rw[← Array.forIn_toList]
 generalize fs.toList=l at h
 clear ht
 induction l with
 | nil=>exact h
 | cons f l ih =>
  simp only[Op.eqFields] at h
  simp only[List.forIn_cons]
  split at h
  ·rename_i hn
   obtain⟨a,h1,h⟩:=zBP _ h
   obtain⟨c,h2,h⟩:=zBP _ h
   obtain⟨r,h3,h⟩:=zBP _ h
   cases r with
   | false =>
    simp only[Bool.not_false,if_true] at h
    cases h
    refine zA3 _ (a:=(some false,())) (zA3 _ (a:=ForInStep.done (some false,())) ?_ rfl) rfl
    rw[if_pos hn]
    exact zA3 _ h1 (zA3 _ h2 (zA3 _ h3 rfl))
   | true =>
    simp only[Bool.not_true,Bool.false_eq_true,if_false] at h
    obtain⟨e,k1,k2⟩:=zBP _ (ih h)
    refine zA3 _ (a:=e) (zA3 _ (a:=ForInStep.yield (none,())) ?_ k1) k2
    rw[if_pos hn]
    exact zA3 _ h1 (zA3 _ h2 (zA3 _ h3 rfl))
  ·rename_i hn
   obtain⟨e,k1,k2⟩:=zBP _ (ih h)
   refine zA3 _ (a:=e) (zA3 _ (a:=ForInStep.yield (none,())) ?_ k1) k2
   rw[if_neg hn]
   rfl
inductive PT where
 | int (k:IntKind)
 | bool
 | str
 | st (l:List PT)
mutual
def PT.n:PT→Nat
 | .st l=>PT.ns l
 | .int _=>1
 | .bool=>1
 | .str=>1
def PT.ns:List PT→Nat
 | []=>0
 | t::l=>t.n+PT.ns l
end
mutual
def PT.dep:PT→Nat
 | .st l=>PT.deps l+1
 | .int _=>1
 | .bool=>1
 | .str=>1
def PT.deps:List PT→Nat
 | []=>0
 | t::l=>Nat.max t.dep (PT.deps l)
end
mutual
def PT.is:PT→List Value→Prop
 | .int k,l => ∃ n,l=[.int k n]
 | .bool,l => ∃ b,l=[.bool b]
 | .str,l => ∃ s,l=[.string s]
 | .st ts,l=>PT.iss ts l
def PT.iss:List PT→List Value→Prop
 | [],l=>l=[]
 | t::ts,l => ∃ a b,l=a++b∧t.is a∧PT.iss ts b
end
mutual
def PT.fits (P:Program):PT→TypeId→Bool
 | .int k,t=>match P.underlying t with | some (.int _)=>true | _=>false
 | .bool,t=>match P.underlying t with | some .bool=>true | _=>false
 | .str,t=>match P.underlying t with | some .string=>true | _=>false
 | .st gs,t=>match P.underlying t with
  | some (.struct fs) => !P.stoodInHeld t&&(match P.info? t with | some i=>Nat.beq i.size (PT.ns gs) | none=>false)&&PT.fitss P gs fs.toList 0
  | _=>false
def PT.fitss (P:Program):List PT→List Field→Nat→Bool
 | [],[],_=>true
 | g :: gs, f :: fs, o => Nat.beq f.offset o && !(f.name == "_") && g.fits P f.type && PT.fitss P gs fs (o + g.n)
 | [],_::_,_=>false
 | _::_,[],_=>false
end
def PT.val:PT→List Value→Value
 | .st _,l => .agg l.toArray
 | _,l=>l.headD undef
mutual
theorem PT.is_len:∀ (g:PT) {l:List Value},g.is l→l.length=g.n
 | .int _,_,h=>by simp only[PT.is] at h;obtain⟨_,rfl⟩:=h;rfl
 | .bool,_,h=>by simp only[PT.is] at h;obtain⟨_,rfl⟩:=h;rfl
 | .str,_,h=>by simp only[PT.is] at h;obtain⟨_,rfl⟩:=h;rfl
 | .st ts,_,h=>by
  simp only[PT.is] at h
  simpa [PT.n] using PT.iss_len ts h
theorem PT.iss_len:∀ (g:List PT) {l:List Value},PT.iss g l→l.length=PT.ns g
 | [],_,h=>by simp only[PT.iss] at h;subst h;rfl
 | t::ts,_,h=>by
  simp only[PT.iss] at h
  obtain⟨a,b,rfl,h1,h2⟩:=h
  rw[List.length_append,PT.is_len t h1,PT.iss_len ts h2];rfl
end
theorem zF9 {t:TypeId}{d:TypeDesc}(h:P.underlying t=some d):zA9 P (isAgg t)=some (match d with | .struct _ | .array _ _=>true | _=>false):=by
 unfold isAgg
 refine zA3 _ (a:=d) (zA3 _ (a:=P) rfl (by simp only[h];rfl)) ?_
 cases d <;> rfl
theorem zDH {t:TypeId}{d:TypeDesc}(h:P.underlying t=some d)(hd:(match d with | .struct _ | .array _ _=>true | _=>false)=false){xs:Array Value}{o:Nat}{v:Value}(hv:xs[o]? = some v):zA9 P (Go.part t xs o)=some v:=by
 unfold Go.part
 refine zA3 _ (zF9 h) ?_
 rw[hd,hv]
 rfl
theorem zJ2 {t:TypeId}{fs:Array Field}{n:Nat}(h:P.underlying t=some (.struct fs))(hn:∃ i,P.info? t=some i∧i.size=n){xs:Array Value}{o:Nat}:zA9 P (Go.part t xs o)=some (.agg (xs.extract o (o+n))):=by
 obtain⟨i,hi,rfl⟩:=hn
 unfold Go.part
 refine zA3 _ (zF9 h) ?_
 refine zA3 _ (a:=i.size) ?_ rfl
 unfold sizeOf typeInfo
 refine zA3 _ (a:=i) ?_ rfl
 refine zA3 _ (a:=P) rfl ?_
 rw[hi];rfl
mutual
theorem PT.eq:∀ (g:PT) (t:TypeId) (n:Nat) {xs ys:List Value},g.fits P t=true→g.dep≤n→g.is xs→g.is ys → ∃ b,zA9 P (Op.equalIn n t (g.val xs) (g.val ys))=some b∧(b=true↔xs=ys)
 | .int k,t,n,xs,ys,hf,hn,hx,hy=>by
  simp only[PT.dep] at hn
  obtain⟨n,rfl⟩:∃ m,n=m+1:=⟨n - 1,by omega⟩
  simp only[PT.is] at hx hy
  obtain⟨a,rfl⟩:=hx
  obtain⟨b,rfl⟩:=hy
  simp only[PT.fits] at hf
  split at hf
  ·rename_i j hu
   refine⟨a == b, ?_,by simp⟩
   unfold Op.equalIn
   refine zA3 _ (a:=TypeDesc.int j) (zA3 _ (a:=P) rfl (by simp only[hu];rfl)) ?_
   show zA9 P (if k=k then pure (a == b) else stuck _)=_
   rw[if_pos rfl]
   rfl
  ·cases hf
 | .bool,t,n,xs,ys,hf,hn,hx,hy=>by
  simp only[PT.dep] at hn
  obtain⟨n,rfl⟩:∃ m,n=m+1:=⟨n - 1,by omega⟩
  simp only[PT.is] at hx hy
  obtain⟨a,rfl⟩:=hx
  obtain⟨b,rfl⟩:=hy
  simp only[PT.fits] at hf
  split at hf
  ·rename_i hu
   refine⟨a == b, ?_,by simp⟩
   unfold Op.equalIn
   refine zA3 _ (a:=TypeDesc.bool) (zA3 _ (a:=P) rfl (by simp only[hu];rfl)) ?_
   rfl
  ·cases hf
 | .str,t,n,xs,ys,hf,hn,hx,hy=>by
  simp only[PT.dep] at hn
  obtain⟨n,rfl⟩:∃ m,n=m+1:=⟨n - 1,by omega⟩
  simp only[PT.is] at hx hy
  obtain⟨a,rfl⟩:=hx
  obtain⟨b,rfl⟩:=hy
  simp only[PT.fits] at hf
  split at hf
  ·rename_i hu
   refine⟨a == b, ?_,by
    obtain⟨x⟩:=a
    obtain⟨y⟩:=b
    show (x == y)=true↔_
    rw[beq_iff_eq]
    exact⟨fun h=>by rw[h],fun h=>by cases h;rfl⟩⟩
   unfold Op.equalIn
   refine zA3 _ (a:=TypeDesc.string) (zA3 _ (a:=P) rfl (by simp only[hu];rfl)) ?_
   rfl
  ·cases hf
 | .st gs,t,n,xs,ys,hf,hn,hx,hy=>by
  simp only[PT.dep] at hn
  obtain⟨n,rfl⟩:∃ m,n=m+1:=⟨n - 1,by omega⟩
  simp only[PT.is] at hx hy
  simp only[PT.fits] at hf
  split at hf
  ·rename_i fs hu
   simp only[Bool.and_eq_true,Bool.not_eq_true'] at hf
   obtain⟨b,h1,h2⟩:=PT.eqs gs fs.toList n 0 (X:=xs.toArray) (Y:=ys.toArray) hf.2 (by omega) hx hy (by simp) (by simp)
   exact⟨b,zET hu hf.1.1 h1,h2⟩
  ·cases hf
theorem PT.eqs:∀ (gs:List PT) (fs:List Field) (n o:Nat) {xs ys:List Value} {X Y:Array Value},PT.fitss P gs fs o=true→PT.deps gs≤n→PT.iss gs xs→PT.iss gs ys→X.toList.drop o=xs→Y.toList.drop o=ys →
  ∃ b,zA9 P (Op.eqFields n X Y fs)=some b∧(b=true↔xs=ys)
 | [],[],n,o,xs,ys,X,Y,_,_,hx,hy,_,_=>by
  simp only[PT.iss] at hx hy
  subst hx hy
  exact⟨true,rfl,by simp⟩
 | [],_::_,_,_,_,_,_,_,hf,_,_,_,_,_=>by simp [PT.fitss] at hf
 | _::_,[],_,_,_,_,_,_,hf,_,_,_,_,_=>by simp [PT.fitss] at hf
 | g::gs,f::fs,n,o,xs,ys,X,Y,hf,hn,hx,hy,hX,hY=>by
  simp only[PT.fitss,Bool.and_eq_true,Bool.not_eq_true'] at hf
  obtain⟨⟨⟨h1,h2⟩,h3⟩,h4⟩:=hf
  have h1:=Nat.eq_of_beq_eq_true h1
  have h2 : f.name ≠ "_" := fun e => by rw [e] at h2; simp at h2
  simp only[PT.deps] at hn
  have hn1:g.dep≤n:=Nat.le_trans (Nat.le_max_left _ _) hn
  have hn2:PT.deps gs≤n:=Nat.le_trans (Nat.le_max_right _ _) hn
  simp only[PT.iss] at hx hy
  obtain⟨xa,xb,hxe,hxa,hxb⟩:=hx
  obtain⟨ya,yb,hye,hya,hyb⟩:=hy
  have lxa:=PT.is_len g hxa
  have lya:=PT.is_len g hya
  have hp:∀ (Z:Array Value) (za zb:List Value),Z.toList.drop o=za++zb→g.is za→za.length=g.n→zA9 P (Go.part f.type Z f.offset)=some (g.val za):=by
   intro Z za zb hz hza lza
   rw[h1]
   have hget:∀ v,za=[v]→Z[o]? = some v:=fun v e=>by
    rw[e] at hz
    have:=congrArg (·[0]?) hz
    simp only[List.getElem?_drop] at this
    rw[← Array.getElem?_toList]
    simpa using this
   cases g with
   | int k =>
    simp only[PT.is] at hza
    obtain⟨a,rfl⟩:=hza
    simp only[PT.fits] at h3
    split at h3
    ·rename_i j hu
     exact zDH hu rfl (hget _ rfl)
    ·cases h3
   | bool =>
    exact zE0j
   | str =>
    exact zE0j
   | st ts =>
    simp only[PT.fits] at h3
    split at h3
    ·rename_i fs' hu
     simp only[Bool.and_eq_true,Bool.not_eq_true'] at h3
     have hi:∃ i,P.info? f.type=some i∧i.size=PT.ns ts:=by
      have:=h3.1.2
      split at this
      ·rename_i i hi
       exact⟨i,hi,Nat.eq_of_beq_eq_true this⟩
      ·cases this
     rw[zJ2 hu hi]
     show some (Value.agg _)=some (Value.agg _)
     congr 2
     apply Array.ext'
     rw[Array.toList_extract,List.extract_eq_take_drop,Nat.add_sub_cancel_left,hz]
     have:za.length=PT.ns ts:=lza
     rw[← this,List.take_left]
    ·cases h3
  have px:=hp X xa xb (hX.trans hxe) hxa lxa
  have py:=hp Y ya yb (hY.trans hye) hya lya
  obtain⟨b1,pe,he1⟩:=PT.eq g f.type n h3 hn1 hxa hya
  have dX:X.toList.drop (o+g.n)=xb:=by rw[← List.drop_drop,hX,hxe,← lxa,List.drop_left]
  have dY:Y.toList.drop (o+g.n)=yb:=by rw[← List.drop_drop,hY,hye,← lya,List.drop_left]
  obtain⟨b2,ps,he2⟩:=PT.eqs gs fs n (o+g.n) h4 hn2 hxb hyb dX dY
  simp only[Op.eqFields]
  rw[if_pos h2]
  have hl:xa.length=ya.length:=lxa.trans lya.symm
  cases b1 with
  | true =>
   refine⟨b2,zA3 _ px (zA3 _ py (zA3 _ pe ps)), ?_⟩
   have e:=he1.1 rfl
   subst e
   rw[he2,hxe,hye]
   exact⟨fun h=>by rw[h],fun h=>List.append_cancel_left h⟩
  | false =>
   refine⟨false,zA3 _ px (zA3 _ py (zA3 _ pe rfl)), ?_⟩
   constructor
   ·intro h;cases h
   ·intro h
    rw[hxe,hye] at h
    exact he1.2 (List.append_inj h hl).1
end
section
variable {n : Nat}
end
theorem zNH {α:Type}{M:Mem}{st:Nat}{T:List AV→α→Prop}{a:AV}{l:List α}(h:SlM M st T a l)(hT:Cel T)(k:Nat)(hk:1<k):∃ ro,Sl st T ro l ∧ ∀ N,(∀ id,rowOf a=some id→N.get id=M.get id)→frz N 0 k a=some ro:=by
 rcases h with⟨rfl,rfl⟩ | ⟨id,rows,cap,rfl,_,hg,h,hl⟩
 ·exact⟨_,.inl ⟨rfl,rfl⟩,fun N _=>zK2 _ (by omega)⟩
 ·refine⟨.pv rows.flatten rows.length cap st,.inr ⟨rows,cap,rfl,h,hl⟩,fun N hN=>?_⟩
  rw[zNT (zBA ((hN id rfl).trans hg)) (by rw[zAE hl];omega) (by omega) (fun x hx=>(hT.flat h x hx).2 N _ (by omega)),zBC _ _ (by rw[zAE hl])]
variable {t : List AV}
theorem FRels.plain {h:Nat→Option Obj}:∀ {l vs:List Value},FRels h (l.map .sc) vs→vs=l
 | [],_,.nil=>rfl
 | _::_,_,.cons a b=>by cases a;rw[FRels.plain b]
structure Fz (a:AV):Prop where
 rows:rowsOf a=[]
 one:oneA a=true
 cells:cellsA a=[a]
 icy:∀ (M:Mem) (k:Nat),0<k→icy k M a=some (a,M)
 frz:∀ (M:Mem) (m k:Nat),0<k→frz M m k a=some a
theorem Sl.fz {α:Type}{st:Nat}{T:List AV→α→Prop}{a:AV}{l:List α}(h:Sl st T a l):Fz a :=
 ⟨h.rows mem0,h.one,h.cells,h.icy,fun M m k hk=>h.frz M m k hk⟩
section
variable {α β : Type} {p : α → β → Bool}
end
theorem All2.split {α β:Type}{T:α→β→Prop}{p:β→Prop}:∀ {l:List α} {m:List β},All2 (fun r x=>T r x∧p x) l m→All2 T l m ∧ ∀ x∈m,p x
 | _,_,.nil=>⟨.nil,fun _ h=>by cases h⟩
 | _,_,.cons a b=>⟨.cons a.1 b.split.1,fun x h=>by
  rcases List.mem_cons.1 h with rfl | h
  ·exact a.2
  ·exact b.split.2 x h⟩
theorem Sl.split {α:Type}{st:Nat}{T:List AV→α→Prop}{p:α→Prop}{a:AV}{l:List α}(h:Sl st (fun r x=>T r x∧p x) a l):Sl st T a l ∧ ∀ x∈l,p x:=by
 rcases h with⟨rfl,rfl⟩ | ⟨rows,cap,rfl,hA,hr⟩
 ·exact⟨.inl ⟨rfl,rfl⟩,fun _ h=>by cases h⟩
 ·exact⟨.inr ⟨rows,cap,rfl,hA.split.1,hr⟩,hA.split.2⟩
theorem Ws.len {α:Type}{g:GT}{st:Nat}{T:List AV→α→Prop}{a:AV}{l:List α}(hw:Ws (.sl g) [a])(h:Sl st T a l):l.length*g.by≤reachBytes:=by
 rcases h with⟨rfl,rfl⟩ | ⟨rows,cap,rfl,hA,_⟩
 ·simp
 ·simp only[Ws] at hw
  rw[← hA.length_eq]
  exact(hw _ _ _ _ rfl).1
end Go.Ax
