/-
  Texts joined: RiA RiB RiC RiD RgI VpA TwB VpD VpB VqC RiE VqA VqB TrG TrH TrI TrJ TrK TrM TwA VqE VqI VpE VpF SbF VpG EdK.
-/
import Derived.Test.YtginjhihkleaoaaGreatEg
import Derived.Test.YtginjhihkleaoaaGreatPb
set_option linter.unusedSimpArgs false
set_option linter.unusedVariables false
set_option maxHeartbeats 64000000
set_option maxRecDepth 100000
namespace Go.Proofs.YtginjhihkleaoaaGreat
open Go Go.Ax
theorem zHM {α:Type}[DecidableEq α]:∀ {l m:List α},l.Nodup→(∀ x∈l,x∈m)→l.length≤m.length
 | [],_,_,_=>Nat.zero_le _
 | a::l,m,hn,h=>by
  rw[List.nodup_cons] at hn
  have ha:=h a List.mem_cons_self
  have:=zHM (l:=l) (m:=m.erase a) hn.2 fun x hx=>(List.mem_erase_of_ne (fun e=>hn.1 (by rw[← e];exact hx))).2 (h x (List.mem_cons_of_mem _ hx))
  rw[List.length_erase_of_mem ha] at this
  have:=List.length_pos_of_mem ha
  rw[List.length_cons]
  omega
theorem zGJ {α:Type}[DecidableEq α]:∀ {l m:List α},l.Nodup→(∀ x∈l,x∈m)→m.length≤l.length→m.Nodup
 | [],m,_,_,h=>by
  rw[List.length_nil] at h
  have e:m=[]:=List.eq_nil_of_length_eq_zero (by omega)
  rw[e]
  exact List.nodup_nil
 | a::l,m,hn,h,hl=>by
  have hn':=List.nodup_cons.1 hn
  have ha:=h a List.mem_cons_self
  have hs:∀ x∈l,x∈m.erase a:=fun x hx=>(List.mem_erase_of_ne (fun e=>hn'.1 (by rw[← e];exact hx))).2 (h x (List.mem_cons_of_mem _ hx))
  have hle:=List.length_erase_of_mem ha
  have hp:=List.length_pos_of_mem ha
  rw[List.length_cons] at hl
  have ih:=zGJ hn'.2 hs (by omega)
  have hna:a ∉ m.erase a:=fun hm=>by
   have:=zHM (l:=a::l) (m:=m.erase a) hn fun x hx=>by
    rcases List.mem_cons.1 hx with rfl | hx
    ·exact hm
    ·exact hs x hx
   rw[List.length_cons] at this
   omega
  exact(List.perm_cons_erase ha).nodup_iff.2 (List.nodup_cons.2 ⟨hna,ih⟩)
theorem zDS {l:List Op}(h:zA1 [] l=true)(x:El):x∈zB4 l↔x∈elsR (textOf l):=by
 rw[(zAI h).mem]
 unfold zB4
 rw[List.mem_flatMap]
 constructor
 ·rintro⟨o,ho,hx⟩
  split at hx
  ·rename_i hk
   refine⟨o,ho, ?_,hx⟩
   have h1:=zBI h o ho
   have h2:=zE5 h o ho hk
   unfold rofE
   rw[if_pos h1,if_pos ⟨hk,h2⟩]
  ·cases hx
 ·rintro⟨o,ho,hr,hx⟩
  refine⟨o,ho, ?_⟩
  rw[if_pos (zEO hr).2.1]
  exact hx
theorem zMO {l:List Op}(h:zA1 [] l=true):Set1 (zB4 l):=by
 have hT:=zAI h
 have hX:=(zAW hT.ok).1.1
 have hm:=zDS h
 refine⟨?_,fun x hx=>hX.s1.ct x ((hm x).1 hx),fun x hx=>?_⟩
 ·rw[zFO]
  refine zGJ (l:=(elsR (textOf l)).map (·.id)) hX.s1.nd (fun y hy=>?_) (by rw[List.length_map,hT.len];exact Nat.le_refl _)
  obtain⟨x,hx,rfl⟩:=List.mem_map.1 hy
  exact(hT.ids _).2 ⟨x,hx,rfl⟩
 ·rcases hX.s1.rt x ((hm x).1 hx) with e | ⟨y,hy,e⟩
  ·exact .inl e
  ·exact .inr ⟨y,(hm y).2 hy,e⟩
theorem zKX {l:List Op}(h:zA1 [] l=true){T:List El}(hT:Txt T)(hm:∀ x,x∈T↔x∈zB4 l):T=elsR (textOf l) :=
 hT.eq (zAW (zAI h).ok).1.1 fun x=>(hm x).trans (zDS h x)
end Go.Proofs.YtginjhihkleaoaaGreat
namespace Go.Ax
open Go
variable {M : Mem} {st : Nat} {α : Type} {T : List AV → α → Prop} {a : AV} {l : List α}
structure Prt (M:Mem) (st:Nat) (T:List AV→α→Prop) (a a':AV) (l:List α):Prop where
 one:oneA a'=true
 cells:cellsA a'=[a']
 sub:∀ id,rowOf a'=some id→rowOf a=some id
 ln:lenA a'=some l.length
 rws:∀ n,M.size≤n→((rowsOf a').all fun i=>Nat.blt i n)=true
 rd:∃ rows:List (List AV),(∀ N,(∀ id,rowOf a=some id→N.get id=M.get id)→cellsOf N a'=some rows.flatten)∧All2 T rows l ∧ ∀ r∈rows,r.length=st
theorem zC9 {β:Type}{R:β→α→Prop}:∀ (n:Nat) {x:List β} {y:List α},All2 R x y→All2 R (x.drop n) (y.drop n)
 | 0,_,_,h=>h
 | _+1,_,_,.nil => .nil
 | n+1,_,_,.cons _ t=>zC9 n t
theorem zEX {β:Type}{R:β→α→Prop}:∀ (n:Nat) {x:List β} {y:List α},All2 R x y→All2 R (x.take n) (y.take n)
 | 0,_,_,_ => .nil
 | _+1,_,_,.nil => .nil
 | n+1,_,_,.cons a t => .cons a (zEX n t)
theorem SlM.pre (h:SlM M st T a l)(hs:0<st){n:Nat}(hn:n≤l.length):∃ a',Prt M st T a a' (l.take n) ∧ ∀ N,(∀ id,rowOf a=some id→N.get id=M.get id)→slcO N st a none (some (.sc (.int .i64 n))) none=some (a',N):=by
 rcases h with⟨rfl,rfl⟩ | ⟨id,rows,cap,rfl,hc,hg,hA,hr⟩
 ·obtain rfl:n=0:=by simpa using hn
  exact⟨.sc (.slice none 0 0),⟨rfl,rfl,fun _ h=>h,rfl,fun _ _=>rfl,[],fun _ _=>rfl,.nil,by simp⟩,fun N _=>rfl⟩
 ·have hl:=hA.length_eq
  have hfl:=flat_len hr
  have hnr:n≤rows.length:=by omega
  have hnl:(l.take n).length=n:=by rw[List.length_take];omega
  have hms:n*st≤rows.length*st:=Nat.mul_le_mul_right st hnr
  refine⟨.sl id 0 n (cap.map fun _=>rows.length) st,⟨rfl,rfl,fun _ h=>h,by rw[hnl];rfl,fun n hn=>by
   simp only[rowsOf,List.all_cons,List.all_nil,Bool.and_true]
   exact blt_t (Nat.lt_of_lt_of_le (Mem.get_lt hg) hn),rows.take n,fun N hN=>?_,all2_take n hA,fun r hr'=>hr r (List.mem_of_mem_take hr')⟩,fun N hN=>?_⟩
  ·have hrd:=rd_row ((hN id rfl).trans hg)
   simp only[cellsOf,hrd]
   rw[Nat.ble_eq_true_of_le (by omega)]
   have e:slot rows.flatten 0 (n*st)=(rows.take n).flatten:=by
    unfold slot
    rw[List.drop_zero]
    have h1:rows.flatten=(rows.take n).flatten++(rows.drop n).flatten:=by rw[← List.flatten_append,List.take_append_drop]
    have h2:(rows.take n).flatten.length=n*st:=by rw[flat_len fun r hr'=>hr r (List.mem_of_mem_take hr'),List.length_take,Nat.min_eq_left hnr]
    rw[h1,← h2,List.take_left]
   rw[e]
  ·have hrd:=rd_row ((hN id rfl).trans hg)
   rcases hc with rfl | rfl
   ·have hav:n≤rows.flatten.length / st:=by
     rw[Nat.le_div_iff_mul_le hs,hfl];exact hms
    unfold slcO
    simp only[Nat.beq_refl,hrd,Nat.sub_zero,bnd_int _ _ _ _ hav,bnd_none,Nat.zero_mul,Nat.add_zero,Option.map_none]
   ·unfold slcO
    simp only[Nat.beq_refl,bnd_none,bnd_int _ _ _ _ hnr,Nat.sub_zero,Nat.zero_mul,Nat.add_zero,Option.map_some]
    cases Nat.beq rows.length 0 <;> rfl
theorem SlM.suf (h:SlM M st T a l)(hs:0<st){n:Nat}(hn:n≤l.length):∃ a',Prt M st T a a' (l.drop n) ∧ ∀ N,(∀ id,rowOf a=some id→N.get id=M.get id)→slcO N st a (some (.sc (.int .i64 n))) none none=some (a',N):=by
 rcases h with⟨rfl,rfl⟩ | ⟨id,rows,cap,rfl,hc,hg,hA,hr⟩
 ·obtain rfl:n=0:=by simpa using hn
  exact⟨.sc (.slice none 0 0),⟨rfl,rfl,fun _ h=>h,rfl,fun _ _=>rfl,[],fun _ _=>rfl,.nil,by simp⟩,fun N _=>rfl⟩
 ·have hl:=hA.length_eq
  have hfl:=flat_len hr
  have hnr:n≤rows.length:=by omega
  have hnl:(l.drop n).length=rows.length - n:=by rw[List.length_drop];omega
  have hms:n*st+(rows.length - n)*st=rows.length*st:=by rw[← Nat.add_mul];congr 1;omega
  have e1:slot rows.flatten (n*st) ((rows.length - n)*st)=(rows.drop n).flatten:=by
   unfold slot
   have h1:rows.flatten=(rows.take n).flatten++(rows.drop n).flatten:=by rw[← List.flatten_append,List.take_append_drop]
   have h2:(rows.take n).flatten.length=n*st:=by rw[flat_len fun r hr'=>hr r (List.mem_of_mem_take hr'),List.length_take,Nat.min_eq_left hnr]
   have h3:(rows.drop n).flatten.length=(rows.length - n)*st:=by rw[flat_len fun r hr'=>hr r (List.mem_of_mem_drop hr'),List.length_drop]
   rw[h1,← h2,List.drop_left,← h3,List.take_length]
  have cell:∀ (off:Nat) (c:Option Nat),(off=n*st∨(off=0∧n=rows.length)) → ∀ N,(∀ j,rowOf (.sl id 0 rows.length cap st)=some j→N.get j=M.get j)→cellsOf N (.sl id off (rows.length - n) c st)=some (rows.drop n).flatten:=fun off c ho N hN=>by
   have hrd:=rd_row ((hN id rfl).trans hg)
   simp only[cellsOf,hrd]
   rcases ho with rfl | ⟨rfl,rfl⟩
   ·rw[Nat.ble_eq_true_of_le (by omega),e1]
   ·rw[Nat.ble_eq_true_of_le (by rw[Nat.sub_self,Nat.zero_mul];exact Nat.zero_le _),Nat.sub_self,Nat.zero_mul,List.drop_length]
    simp [slot]
  rcases hc with rfl | rfl
  ·refine⟨.sl id (n*st) (rows.length - n) none st,⟨rfl,rfl,fun _ h=>h,by rw[hnl];rfl,fun n hn=>by
   simp only[rowsOf,List.all_cons,List.all_nil,Bool.and_true]
   exact blt_t (Nat.lt_of_lt_of_le (Mem.get_lt hg) hn),rows.drop n,cell _ _ (.inl rfl),zC9 n hA,fun r hr'=>hr r (List.mem_of_mem_drop hr')⟩,fun N hN=>?_⟩
   have hrd:=rd_row ((hN id rfl).trans hg)
   unfold slcO
   simp only[Nat.beq_refl,hrd,Nat.sub_zero,bnd_int _ _ _ _ hnr,bnd_none,Nat.zero_add]
  ·refine⟨.sl id (match Nat.beq rows.length n with | true=>0 | false=>0+n*st) (rows.length - n) (some (rows.length - n)) st,⟨rfl,rfl,fun _ h=>h,by rw[hnl];rfl,fun n hn=>by
   simp only[rowsOf,List.all_cons,List.all_nil,Bool.and_true]
   exact blt_t (Nat.lt_of_lt_of_le (Mem.get_lt hg) hn),rows.drop n,cell _ _ ?_,zC9 n hA,fun r hr'=>hr r (List.mem_of_mem_drop hr')⟩,fun N hN=>?_⟩
   ·cases hb:Nat.beq rows.length n with
    | true=>exact .inr ⟨rfl,(Nat.eq_of_beq_eq_true hb).symm⟩
    | false=>exact .inl (Nat.zero_add _)
   ·unfold slcO
    simp only[Nat.beq_refl,bnd_none,bnd_int _ _ _ _ hnr]
    cases Nat.beq rows.length n <;> rfl
theorem SlM.row_mem (h:SlM M st T a l){i:Nat}(hi:i∈rowsOf a):rowOf a=some i:=by
 rcases h with⟨rfl,rfl⟩ | ⟨id,rows,cap,rfl,hc,hg,hA,hr⟩
 ·simp [rowsOf] at hi
 ·simp only[rowsOf,List.mem_singleton] at hi
  subst hi;rfl
theorem zG3 (r w:List Nat)(n n' a b:Nat):apart2 (.acc [] []) (fpOf r w n n',a,b)=true:=by
 unfold fpOf
 cases hb:(r.isEmpty&&w.isEmpty&&Nat.beq n n') <;> simp [apart2,FP.apart,disj,FP.reads,FP.writes]
theorem zG4 {r r' w':List Nat}{n n' m m' a b:Nat}(h:∀ i∈r,i ∉ w'∧(i<a∨b≤i)):apart2 (fpOf r [] n n') (fpOf r' w' m m',a,b)=true:=by
 have h1:∀ x,x∈r→Nat.ble a x=false∨Nat.blt x b=false:=fun i hi=>by
  rcases (h i hi).2 with k | k
  ·left
   cases hb:Nat.ble a i with
   | false=>rfl
   | true=>have:=Nat.le_of_ble_eq_true hb;omega
  ·right
   cases hb:Nat.blt i b with
   | false=>rfl
   | true=>have:i<b:=Nat.le_of_ble_eq_true hb;omega
 have h2:∀ i,i∈r → ¬i∈w':=fun i hi=>(h i hi).1
 unfold fpOf
 cases hb:(r.isEmpty&&([]:List Nat).isEmpty&&Nat.beq n n') <;> cases hc:(r'.isEmpty&&w'.isEmpty&&Nat.beq m m') <;> simp [apart2,FP.apart,disj,FP.reads,FP.writes] <;> first | exact⟨h2,h1⟩ | exact h1
theorem zCT {r r' w':List Nat}{n n' a b:Nat}(h:∀ i∈r,i ∉ w'∧(i<a∨b≤i)):apart2 (fpOf r [] n n') (.acc r' w',a,b)=true:=by
 have h1:∀ x,x∈r→Nat.ble a x=false∨Nat.blt x b=false:=fun i hi=>by
  rcases (h i hi).2 with k | k
  ·left
   cases hb:Nat.ble a i with
   | false=>rfl
   | true=>have:=Nat.le_of_ble_eq_true hb;omega
  ·right
   cases hb:Nat.blt i b with
   | false=>rfl
   | true=>have:i<b:=Nat.le_of_ble_eq_true hb;omega
 have h2:∀ i,i∈r → ¬i∈w':=fun i hi=>(h i hi).1
 unfold fpOf
 cases hb:(r.isEmpty&&([]:List Nat).isEmpty&&Nat.beq n n') <;> simp [apart2,FP.apart,disj,FP.reads,FP.writes] <;> first | exact⟨h2,h1⟩ | exact h1
end Go.Ax
namespace Go.Proofs.YtginjhihkleaoaaGreat
open Go Go.Ax
variable {fuel : Nat} {M : Mem} {Q : AV → Mem → Prop} {d : Nat}
theorem zEF (a b:Lb)(ha:a.ok)(hb:b.ok)(M:Mem):zCN fuel (d+1) 165 [lbA a,lbA b] M=some (BL (a.ahead b),M):=by
 obtain⟨a1,a2,a3,a4⟩:=ha
 obtain⟨b1,b2,b3,b4⟩:=hb
 have e:decide (a.lv*4294967296+a.cats<b.lv*4294967296+b.cats)=a.ahead b:=by
  unfold Lb.ahead
  rw[Bool.eq_iff_iff]
  simp only[decide_eq_true_eq,Bool.or_eq_true,Bool.and_eq_true]
  omega
 have w1:IntKind.i64.wrap a.lv=a.lv:=wrap_i64 (by omega) (by omega)
 have w2:IntKind.i64.wrap a.cats=a.cats:=wrap_i64 (by omega) (by omega)
 have w3:IntKind.i64.wrap b.lv=b.lv:=wrap_i64 (by omega) (by omega)
 have w4:IntKind.i64.wrap b.cats=b.cats:=wrap_i64 (by omega) (by omega)
 have w5:IntKind.i64.wrap (a.lv*4294967296)=a.lv*4294967296:=wrap_i64 (by omega) (by omega)
 have w6:IntKind.i64.wrap (b.lv*4294967296)=b.lv*4294967296:=wrap_i64 (by omega) (by omega)
 have w7:IntKind.i64.wrap (a.lv*4294967296+a.cats)=a.lv*4294967296+a.cats:=wrap_i64 (by omega) (by omega)
 have w8:IntKind.i64.wrap (b.lv*4294967296+b.cats)=b.lv*4294967296+b.cats:=wrap_i64 (by omega) (by omega)
 have cv1:=fun t r x=>pConv2 (P:=Tryz.prog) (t:=t) Tryz.underlying5 Tryz.underlying3 r x
 have cv2:=fun t r x=>pConv2 (P:=Tryz.prog) (t:=t) Tryz.underlying23 Tryz.underlying3 r x
 apply w3_eq
 refine call_gc tf165 rfl (by simp (disch:=try exact SX) only[RV,seval]) (by simp [a165]) fun b' ht hx=>?_
 obtain⟨h0,h1⟩:=hx2 hx
 clear hx
 simp only[a165,c165] at ht ⊢
 simp (disch:=try exact SX) only[RV,seval,h0,h1,cv1,cv2,pc1_int,w1,w2,w3,w4,w5,w6,w7,w8,e]
theorem zJG (x y:Eid)(hx:x.ok)(hy:y.ok)(M:Mem):zCN fuel (d+2) 144 [idA x,idA y] M=some (BL (x.less y),M):=by
 have h1':=fun M=>zEF (fuel:=fuel) (d:=d) x.hd.lb y.hd.lb hx.1.1 hy.1.1 M
 have h2':=fun M=>zEF (fuel:=fuel) (d:=d) y.hd.lb x.hd.lb hy.1.1 hx.1.1 M
 apply w3_eq
 refine call_gc tf144 rfl (by simp (disch:=try exact SX) only[RV,seval]) (by simp [a144]) fun b' ht hx=>?_
 obtain⟨h0,h1⟩:=hx2 hx
 clear hx
 simp only[a144,c144] at ht ⊢
 have key:=zBJ x y
 cases q1:decide (x.c<y.c) with
 | true =>
  have e:x.less y=true:=key.2 (.inl (of_decide_eq_true q1))
  simp (disch:=try exact SX) only[RV,seval,h0,h1,q1,e]
 | false =>
  have q1':=of_decide_eq_false q1
  cases q2:decide (y.c<x.c) with
  | true =>
   have q2':=of_decide_eq_true q2
   have e:x.less y=false:=by rw[← Bool.not_eq_true,key];omega
   simp (disch:=try exact SX) only[RV,seval,h0,h1,q1,q2,e]
  | false =>
   have q2':=of_decide_eq_false q2
   have u1:x.hd.lb.ahead y.hd.lb=true↔x.hd.lb.lv<y.hd.lb.lv∨(x.hd.lb.lv=y.hd.lb.lv∧x.hd.lb.cats<y.hd.lb.cats):=by unfold Lb.ahead;simp
   have u2:y.hd.lb.ahead x.hd.lb=true↔y.hd.lb.lv<x.hd.lb.lv∨(y.hd.lb.lv=x.hd.lb.lv∧y.hd.lb.cats<x.hd.lb.cats):=by unfold Lb.ahead;simp
   cases q3:x.hd.lb.ahead y.hd.lb with
   | true =>
    rw[q3] at h1' u1
    have u1:=u1.1 rfl
    have e:x.less y=true:=key.2 (by omega)
    simp (disch:=try exact SX) only[RV,seval,h0,h1,q1,q2,h1',e]
   | false =>
    rw[q3] at h1' u1
    have u1:¬_:=fun h=>absurd (u1.2 h) (by decide)
    cases q4:y.hd.lb.ahead x.hd.lb with
    | true =>
     rw[q4] at h2' u2
     have u2:=u2.1 rfl
     have e:x.less y=false:=by rw[← Bool.not_eq_true,key];omega
     simp (disch:=try exact SX) only[RV,seval,h0,h1,q1,q2,h1',h2',e]
    | false =>
     rw[q4] at h2' u2
     have u2:¬_:=fun h=>absurd (u2.2 h) (by decide)
     have e:decide (x.hd.num<y.hd.num)=x.less y:=by
      rw[Bool.eq_iff_iff,key,decide_eq_true_iff]
      omega
     simp (disch:=try exact SX) only[RV,seval,h0,h1,q1,q2,h1',h2',e]
def ahB:List Eid→List Eid→Bool
 | [],[]=>false
 | [],_::_=>true
 | _::_,[]=>false
 | a::p,b::q=>if a=b then ahB p q else b.less a
theorem zHR (a b:Eid)(p q:List Eid):ahB (a::p) (b::q)=if a=b then ahB p q else b.less a:=rfl
theorem zH0:∀ {p q:List Eid},ahB p q=true↔ahd p q
 | [],[]=>by simp [ahB,ahd]
 | [],_::_=>by simp [ahB,ahd]
 | _::_,[]=>by simp [ahB,ahd]
 | a::p,b::q=>by
  unfold ahB ahd
  by_cases e:a=b
  ·subst e
   rw[if_pos rfl,zH0]
   simp [zDP]
  ·rw[if_neg e]
   simp [e]
theorem zDE {a b:AV}{P R:List Eid}(hP:Sl 4 zC3 a P)(hR:Sl 4 zC3 b R)(hl:P.length≤1000000000)(hl2:R.length≤1000000000)(hf:P.length<fuel)(M:Mem):zCN fuel (d+3) 108 [a,b] M=some (BL (ahB P R),M):=by
 have lp:=hP.len
 have lr:=hR.len
 apply w3_eq
 refine call_gc tf108 rfl (by simp only[icyL,fun M=>hP.icy M 12 (by omega),fun M=>hR.icy M 12 (by omega)]) (by simp [a108]) fun b' ht hx=>?_
 obtain⟨h0,h1⟩:=hx2 hx
 clear hx
 simp only[a108,c108] at ht ⊢
 simp (disch:=try exact SX) only[RV]
 refine w_loop (I:=fun n t N => ∃ (i:Nat),n=P.length - i∧i≤P.length∧nth undefA t 0=a∧nth undefA t 1=b∧nth undefA t 5=I64 i∧Wf N∧ahB P R=ahB (P.drop i) (R.drop i)∧i≤R.length) (n:=P.length) (by omega) ?_ ?_
 ·refine⟨0,rfl,Nat.zero_le _, ?_, ?_, ?_,Wf.mem0,rfl,Nat.zero_le _⟩ <;> simp (disch:=try exact SX) only[RV,seval,h0,h1]
  all_goals first | rfl | assumption | done
 ·rintro n t N hlt ⟨i,rfl,hi,g0,g1,g5,w,hj,hi2⟩
  simp only[ht] at hlt ⊢
  by_cases hc:i<P.length
  ·have q1:decide ((i:Int)<P.length)=true:=DT
   obtain⟨r1,hiad,⟨rfl,hok1⟩,_⟩:=hP.iad i hc
   by_cases hc2:i=R.length
   ·have q2:decide ((i:Int)=R.length)=true:=DT
    have e:ahB P R=false:=by
     rw[hj,List.drop_eq_getElem_cons hc,List.drop_eq_nil_of_le (show R.length≤i by omega)]
     rfl
    simp (disch:=try exact SX) only[RV,seval,g0,g1,g5,lp,lr,q1,q2,e]
   ·have q2:decide ((i:Int)=R.length)=false:=DF
    have hc3:i<R.length:=by omega
    obtain⟨r2,hiad2,⟨rfl,hok2⟩,_⟩:=hR.iad i hc3
    rw[List.drop_eq_getElem_cons hc,List.drop_eq_getElem_cons hc3] at hj
    have hle:=fun M=>zJG (fuel:=fuel) (d:=d) R[i] P[i] hok2 hok1 M
    have w1:IntKind.i64.wrap ((i:Int)+1)=((i+1:Nat):Int):=WI
    cases q3:decide (P[i]=R[i]) with
    | true =>
     rw[zHR,if_pos (of_decide_eq_true q3)] at hj
     simp (disch:=try exact SX) only[RV,seval,g0,g1,g5,lp,lr,q1,q2,hiad,hiad2,q3,↓pIdN,zA5,ETA,w1]
     exact⟨hlt,P.length - (i+1),by omega,i+1,rfl,by omega,rfl,w,hj,by omega⟩
    | false =>
     rw[zHR,if_neg (of_decide_eq_false q3)] at hj
     simp (disch:=try exact SX) only[RV,seval,g0,g1,g5,lp,lr,q1,q2,hiad,hiad2,q3,↓pIdN,zA5,ETA,hle,hj]
  ·obtain rfl:i=P.length:=by omega
   have e:decide ((P.length:Int)<R.length)=ahB P R:=by
    rw[hj,List.drop_length]
    by_cases h:P.length=R.length
    ·rw[h,List.drop_length]
     simp [ahB]
    ·rw[List.drop_eq_getElem_cons (show P.length<R.length by omega)]
     unfold ahB
     exact decide_eq_true (by omega)
   simp (disch:=try exact SX) only[RV,seval,g0,g1,g5,lp,lr,e]
theorem zOC {E:List El}{x:Eid}{p:List Eid}(h:Pth E x p):∀ i (hi:i<p.reverse.length),∃ e∈E,e.id=p.reverse[i]∧e.af=p.reverse.getD (i+1) Eid.z:=by
 induction h with
 | @root x m e =>
  intro i hi
  obtain rfl:i=0:=by simpa using hi
  exact⟨x,m,rfl,e⟩
 | @step x p m hp ih =>
  intro i hi
  have er:(p++[x.id]).reverse=x.id::p.reverse:=by simp
  simp only[er] at hi ⊢
  cases i with
  | zero =>
   obtain⟨q,rfl⟩:=hp.last
   exact⟨x,m,rfl,by simp⟩
  | succ i =>
   obtain⟨e,h1,h2,h3⟩:=ih i (by simpa using hi)
   exact⟨e,h1,by simpa using h2,by simpa using h3⟩
theorem wh_at {E:List El}(hn:(E.map (·.id)).Nodup){e:El}(he:e∈E):∃ n,∃ h:n<E.length,whI E e.id=(n:Int)∧E[n]=e:=by
 obtain⟨n,hn',rfl⟩:=List.getElem_of_mem he
 refine⟨n,hn', ?_,rfl⟩
 unfold whI
 refine posF_at (p:=fun y:El=>decide (y.id=E[n].id)) hn' (decide_eq_true rfl) fun j hj=>decide_eq_false fun heq=>?_
 have h1:j<(E.map (·.id)).length:=by rw[List.length_map];omega
 have h2:n<(E.map (·.id)).length:=by rw[List.length_map];omega
 have:=(List.pairwise_iff_getElem.1 hn) j n h1 h2 hj
 simp only[List.getElem_map] at this
 exact this heq
theorem wh_z {E:List El}(h:∀ x∈E,0<x.id.c):whI E Eid.z = -1:=by
 unfold whI
 refine posF_no (p:=fun y:El=>decide (y.id=Eid.z)) fun j hj=>decide_eq_false fun e=>?_
 have:=h E[j] (List.getElem_mem hj)
 rw[e] at this
 exact absurd this (by decide)
theorem zHG {a:AV}{E:List El}(hS:Sl 9 isEl a E)(hs:Set1 E){x:El}{p:List Eid}(hp:Pth E x.id p)(hpl:p.length≤1000000)(hl:E.length≤1000000)(hf:E.length+p.length<fuel):∃ r,Sl 4 zC3 r p ∧ ∀ M,zCN fuel (d+2) 107 [a,.agg (elR9 x)] M=some (r,M):=by
 have hw:=fun y M=>zC5 (fuel:=fuel) (d:=d) hS y (by omega) (by omega) M
 have hz:=wh_z fun x hx=>(hs.ct x hx).2
 have hrv:=zOC hp
 have e0:x.id=p.reverse.getD 0 Eid.z:=by
  obtain⟨q,rfl⟩:=hp.last
  simp
 have hpr:p=p.reverse.reverse:=by simp
 have hrl:p.reverse.length=p.length:=List.length_reverse
 generalize p.reverse=R at *
 refine gc_ex tf107 rfl (fun M=>by simp only[icyL,fun M=>hS.icy M 12 (by omega),fz_icyA (zH7 x) (show 1<12 by omega)]) ?_
 refine call_gc tf107 rfl (by simp only[icyL,fun M=>hS.icy M 12 (by omega),fz_icyA (zH7 x) (show 1<12 by omega)]) (by simp [a107]) fun b' ht hx=>?_
 obtain⟨h0,h1⟩:=hx2 hx
 clear hx
 simp only[a107,c107] at ht ⊢
 simp (disch:=try exact SX) only[RV,seval,h0,h1,hw]
 rw[e0]
 refine w_loop (I:=fun n t N => ∃ (i:Nat) (o:AV),n=R.length - i∧i≤R.length∧nth undefA t 0=a∧nth undefA t 5=o∧nth undefA t 6=I64 (whI E (R.getD i Eid.z))∧Wf N∧SlM N 4 zC3 o (R.take i).reverse) (n:=R.length) (by omega) ?_ ?_
 ·refine⟨0,NIL,rfl,Nat.zero_le _, ?_, ?_, ?_,Wf.mem0.add _,SlM.nil⟩ <;> simp (disch:=try exact SX) only[RV,seval,h0]
  all_goals first | rfl | assumption | done
 ·rintro n t N hlt ⟨i,o,rfl,hi,g0,g5,g6,w,sm⟩
  simp only[ht] at hlt ⊢
  by_cases hc:i<R.length
  ·obtain⟨e,he,h2,h3⟩:=hrv i hc
   obtain⟨n,hn,h4,h5⟩:=wh_at hs.nd he
   have egd:R.getD i Eid.z=e.id:=by rw[List.getD_eq_getElem?_getD,List.getElem?_eq_getElem hc];exact h2.symm
   have hsn:(R.take (i+1)).reverse=[e.id]++(R.take i).reverse:=by rw[take_snoc R i hc,List.reverse_append,h2];rfl
   rw[egd,h4] at g6
   obtain⟨r9,hiad,⟨hr9,hok1,hok2⟩,_⟩:=hS.iad n hn
   rw[h5] at hr9 hok1 hok2
   subst hr9
   have q1:decide ((0:Int)≤(n:Int))=true:=DT
   simp (disch:=try exact SX) only[RV,seval,fillA,g0,g5,g6,q1,hiad]
   have hsm:=sm.keep (N:=N.add (.row false (idR e.id))) fun j hj=>get_add w _ _ (sm.lt j hj)
   obtain⟨rows,hcl,hla,hA,hr⟩:=hsm.cells2
   have hlit:SlM (N.add (.row false (idR e.id))) 4 zC3 (.sl N.size 0 1 (some 1) 4) [e.id]:=slm_lit (rows:=[idR e.id]) (.cons ⟨rfl,hok1⟩ .nil) (by simp) rfl (.inr rfl) (by rw[get_add_new w _ _ (Nat.le_refl _) (Nat.lt_succ_self _)];rfl)
   refine⟨rows_lt sm.rl (by omega), ?_⟩
   refine w3_appc (bytes:=24) (w.add _) hlit zCW.cel hcl (by rw[hla,hA.length_eq]) hA hr (by omega) (by rw[List.length_reverse,List.length_take];simp;omega) (by rw[List.length_reverse,List.length_take];simp;omega) fun o' M' m' w' le' sz' kp' nw' wm' rl' on' oc'=>?_
   simp (disch:=try exact SX) only[RV,seval,g0,g5,g6,hiad,hw,w']
   exact⟨hlt,R.length - (i+1),by omega,i+1,o',rfl,by omega,rfl,by rw[h3],by rw[hsn];exact m'⟩
  ·obtain rfl:i=R.length:=by omega
   have egd:R.getD R.length Eid.z=Eid.z:=by rw[List.getD_eq_getElem?_getD,List.getElem?_eq_none (Nat.le_refl _)];rfl
   rw[egd,hz] at g6
   have q1:decide ((0:Int) ≤ -1)=false:=by decide
   rw[List.take_length,← hpr] at sm
   obtain⟨r,hzz,hsr⟩:=sm.frz zCW.cel (k:=12) (by omega)
   simp (disch:=try exact SX) only[RV,seval,g5,g6,hzz]
   exact⟨r,hsr,rfl⟩
theorem zGK {E:List El}(h:(E.map (·.id)).Nodup):E.Nodup:=(List.pairwise_map.1 h).imp fun h e=>h (congrArg _ e)
structure Srt (E T:List El) (P:List (List Eid)) (S:List El):Prop where
 pw:T.Pairwise (Ah E)
 mem:∀ x,x∈T↔x∈S
 pth:All2 (fun p (y:El)=>Pth E y.id p) P T
 len:T.length=S.length
theorem All2.app' {α β:Type}{R:α→β→Prop}:∀ {a:List α} {b:List β} {c:List α} {e:List β},All2 R a b→All2 R c e→All2 R (a++c) (b++e)
 | _,_,_,_,.nil,h=>h
 | _,_,_,_,.cons x t,h => .cons x (All2.app' t h)
theorem Srt.put {E T S:List El}{P:List (List Eid)}{x:El}{p:List Eid}{n:Nat}(h:Srt E T P S)(hs:Set1 E)(hS:∀ y∈S,y∈E)(hx:x∈E)(hxS:x ∉ S)(hp:Pth E x.id p)(hn:n≤T.length)(h1:∀ j (hj:j<P.length),j<n→ahB p P[j]=false)(h2:∀ hj:n<P.length,ahB p P[n]=true) :
  Srt E (T.take n++[x]++T.drop n) (P.take n++[p]++P.drop n) (S++[x]):=by
 obtain⟨pw,mem,pth,len⟩:=h
 have hl:=pth.length_eq
 have hT:∀ y∈T,y∈E:=fun y hy=>hS y ((mem y).1 hy)
 have hxT:x ∉ T:=fun h=>hxS ((mem x).1 h)
 have at_:∀ j (hj:j<T.length),Pth E T[j].id (P[j]'(by omega)):=fun j hj=>pth.get (by omega) hj
 have pre:∀ y∈T.take n,Ah E y x:=fun y hy=>by
  obtain⟨j,hj,rfl⟩:=List.getElem_of_mem hy
  rw[List.length_take] at hj
  rw[List.getElem_take] at hy ⊢
  have hjT:j<T.length:=by omega
  have hb:=h1 j (by omega) (by omega)
  have hpj:=at_ j hjT
  refine⟨_,p,hpj,hp, ?_⟩
  have hne:P[j]'(by omega)≠p:=fun e=>by
   obtain⟨q1,e1⟩:=hpj.last
   obtain⟨q2,e2⟩:=hp.last
   rw[e,e2] at e1
   have:=(List.append_inj' e1 rfl).2
   have hid:x.id=T[j].id:=by injection this
   exact hxT (by rw[zGH hs.nd hx (hT _ (List.getElem_mem hjT)) hid];exact List.getElem_mem hjT)
  rcases zJQ hne with h | h
  ·exact h
  ·rw[zH0.2 h] at hb;cases hb
 have suf:∀ y∈T.drop n,Ah E x y:=fun y hy=>by
  have hlt:n<T.length:=by
   have:=List.length_pos_of_mem hy
   rw[List.length_drop] at this
   omega
  have hA:Ah E x T[n]:=⟨p,_,hp,at_ n hlt,zH0.1 (h2 (by omega))⟩
  rw[List.drop_eq_getElem_cons hlt] at hy
  rcases List.mem_cons.1 hy with rfl | hy
  ·exact hA
  ·have hpw:=pw.sublist (List.drop_sublist n T)
   rw[List.drop_eq_getElem_cons hlt,List.pairwise_cons] at hpw
   exact hA.trans hs (hpw.1 y hy)
 have hpw2:=pw
 rw[← List.take_append_drop n T,List.pairwise_append] at hpw2
 refine⟨?_,fun y=>?_, ?_, ?_⟩
 ·rw[List.pairwise_append,List.pairwise_append]
  refine⟨⟨hpw2.1,List.pairwise_singleton _ _,fun a ha b hb=>?_⟩,hpw2.2.1,fun a ha b hb=>?_⟩
  ·rw[List.mem_singleton] at hb;subst hb;exact pre a ha
  ·rcases List.mem_append.1 ha with ha | ha
   ·exact hpw2.2.2 a ha b hb
   ·rw[List.mem_singleton] at ha;subst ha;exact suf b hb
 ·rw[List.mem_append,List.mem_append,List.mem_append,← mem y]
  have:y∈T↔y∈T.take n∨y∈T.drop n:=by rw[← List.mem_append,List.take_append_drop]
  rw[this]
  constructor
  ·exact zB12
  ·exact zB12
 ·exact All2.app' (All2.app' (zEX n pth) (.cons hp .nil)) (zC9 n pth)
 ·rw[List.length_append,List.length_append,List.length_take,List.length_drop,List.length_append,← len]
  simp only[List.length_singleton]
  omega
theorem Srt.txt {E T:List El}{P:List (List Eid)}(h:Srt E T P E)(hs:Set1 E):Txt T:=by
 have hT:∀ y,y∈T↔y∈E:=h.mem
 have hnd:(T.map (·.id)).Nodup:=by
  rw[List.Nodup,List.pairwise_map]
  refine List.Pairwise.imp_of_mem (fun {a b} ha hb hab e=>?_) h.pw
  have:=zGH hs.nd ((hT a).1 ha) ((hT b).1 hb) e
  subst this
  exact Ah.irr hs _ hab
 have h1:Set1 T:=⟨hnd,fun x hx=>hs.ct x ((hT x).1 hx),fun x hx=>by
  rcases hs.rt x ((hT x).1 hx) with e | ⟨y,hy,e⟩
  ·exact .inl e
  ·exact .inr ⟨y,(hT y).2 hy,e⟩⟩
 exact⟨h1,h.pw.imp fun k=>k.mono fun x hx=>(hT x).2 hx⟩
def isPa (r:List AV)(p:List Eid):Prop:=∃ a,r=[a]∧Sl 4 zC3 a p
theorem zO0:FzT isPa:=fun r p h y hy=>by
 obtain⟨a,rfl,ha⟩:=h
 rw[List.mem_singleton] at hy
 subst hy
 exact ha.fz
theorem zHE {E:List El}(hs:Set1 E){x:Eid}{p:List Eid}(h:Pth E x p):p.length≤E.length:=by
 have hsub:∀ y∈p,y∈E.map (·.id):=fun y hy=>by
  obtain⟨q,r,rfl⟩:=List.append_of_mem hy
  obtain⟨e,he,h1⟩:=(h.pre rfl).mem
  exact List.mem_map.2 ⟨e,he,h1⟩
 have hnd:p.Nodup:=by
  clear hsub
  induction h with
  | root m e=>exact List.pairwise_singleton _ _
  | @step x p m hp ih =>
   rw[List.nodup_append]
   refine⟨ih,List.pairwise_singleton _ _,fun a ha b hb e=>?_⟩
   rw[List.mem_singleton] at hb
   have:=hp.grow (fun x hx=>(hs.ct x hx).1) a ha
   have:=(hs.ct x m).1
   rw[e,hb] at *
   omega
 have:=zHM hnd hsub
 rwa [List.length_map] at this
theorem zFR {a:AV}{E:List El}(hS:Sl 9 isEl a E)(hs:Set1 E)(hl:E.length≤100000)(hf:2*E.length+100<fuel):∃ r T,(Sl 9 isEl r T∧Txt T∧(∀ x,x∈T↔x∈E)) ∧ ∀ M,zCN fuel (d+4) 65 [a] M=some (r,M):=by
 suffices h:∃ r,(∃ T,Sl 9 isEl r T∧Txt T ∧ ∀ x,x∈T↔x∈E) ∧ ∀ M,zCN fuel (d+4) 65 [a] M=some (r,M) by
  obtain⟨r,⟨T,h1⟩,h2⟩:=h
  exact⟨r,T,h1,h2⟩
 have ll:=hS.len
 have hnd:=zGK hs.nd
 refine gc_ex tf65 rfl (fun M=>by simp only[icyL,fun M=>hS.icy M 12 (by omega)]) ?_
 refine call_gc tf65 rfl (by simp only[icyL,fun M=>hS.icy M 12 (by omega)]) (by simp [a65]) fun b' ht hx=>?_
 have h0:=hx 0 _ rfl
 clear hx
 simp only[a65,c65] at ht ⊢
 simp (disch:=try exact SX) only[RV]
 refine w_loop (I:=fun nq tq Nq => ∃ (iq:Nat) (o:AV) (ph:AV) (T:List El) (P:List (List Eid)),nq=E.length - iq∧iq≤E.length∧nth undefA tq 0=a∧nth undefA tq 3=o∧nth undefA tq 4=ph∧nth undefA tq 5=I64 iq∧Wf Nq∧SlM Nq 9 isEl o T∧SlM Nq 1 isPa ph P∧Srt E T P (E.take iq)∧(∀ j,rowOf o=some j→rowOf ph≠some j)) (n:=E.length) (by omega) ?_ ?_
 ·refine⟨0,NIL,NIL,[],[],rfl,Nat.zero_le _, ?_, ?_, ?_, ?_,Wf.mem0,SlM.nil,SlM.nil,⟨.nil,fun _=>Iff.rfl,.nil,rfl⟩,(fun _ h=>by cases h)⟩ <;> simp (disch:=try exact SX) only[RV,seval,h0]
  all_goals first | rfl | assumption | done
 ·rintro nq tq Nq hltq ⟨iq,o,ph,T,P,rfl,hiq,gq0,gq3,gq4,gq5,wq,so,sp,hT,ne⟩
  simp only[ht] at hltq ⊢
  by_cases hc:iq<E.length
  ·have c1:decide ((iq:Int)<E.length)=true:=DT
   have w1:IntKind.i64.wrap ((iq:Int)+1)=((iq+1:Nat):Int):=WI
   obtain⟨rr,hiad,⟨rfl,hok⟩,_⟩:=hS.iad iq hc
   have hxE:=List.getElem_mem hc
   have hxn:E[iq] ∉ E.take iq:=fun hm=>by
    obtain⟨j,hj,e⟩:=List.getElem_of_mem hm
    rw[List.length_take] at hj
    rw[List.getElem_take] at e
    exact(List.pairwise_iff_getElem.1 hnd) j iq (by omega) hc (by omega) e
   have hsn:=take_snoc E iq hc
   have hlen:=hT.len
   rw[List.length_take] at hlen
   have hlp:=hT.pth.length_eq
   generalize E[iq]=x at *
   obtain⟨p,hp⟩:=hs.path hxE
   have hpl:=zHE hs hp
   obtain⟨rp,hrp,hpa⟩:=zHG (fuel:=fuel) (d:=d+1) hS hs hp (by omega) (by omega) (by omega)
   have lo:=so.len
   simp (disch:=try exact SX) only[RV,seval,gq0,gq5,ll,c1,hiad,hpa]
   refine w_loop (I:=fun nk tk Nk => ∃ (ik:Nat),nk=T.length - ik∧ik≤T.length∧nth undefA tk 0=a∧nth undefA tk 3=o∧nth undefA tk 4=ph∧nth undefA tk 5=I64 iq∧nth undefA tk 6=rp∧nth undefA tk 7=I64 ik∧Nk=Nq∧(∀ j (hj:j<P.length),j<ik→ahB p P[j]=false)) (n:=T.length) (by omega) ?_ ?_
   ·refine⟨0,rfl,Nat.zero_le _, ?_, ?_, ?_, ?_, ?_, ?_,rfl,(fun _ _ h=>absurd h (by omega))⟩ <;> simp (disch:=try exact SX) only[RV,seval,gq0,gq3,gq4,gq5]
    all_goals first | rfl | assumption | done
   ·rintro nk tk Nk hltk ⟨ik,rfl,hik,gk0,gk3,gk4,gk5,gk6,gk7,mk,hk⟩
    simp only[hltq] at hltk ⊢
    subst mk
    have w2:IntKind.i64.wrap ((ik:Int)+1)=((ik+1:Nat):Int):=WI
    have hcase:(∃ h:ik<P.length,ahB p P[ik]=false)∨(ik<P.length ∧ ∃ h:ik<P.length,ahB p P[ik]=true)∨ik=T.length:=by
     by_cases h:ik<P.length
     ·cases hb:ahB p P[ik] with
      | false=>exact .inl ⟨h,hb⟩
      | true=>exact .inr (.inl ⟨h,h,hb⟩)
     ·exact .inr (.inr (by omega))
    rcases hcase with⟨h,hb⟩ | hcase
    ·have c2:decide ((ik:Int)<T.length)=true:=DT
     obtain⟨id,cs,r,hrow,lid,hg,hcs,hiad2,⟨ap,hr1,hap⟩,hrl,_,hcell,_⟩:=sp.atS (i:=ik) h
     have hiad2:∀ N,iadO N 1 ph (some ik)=some (.ptr id ik,N):=fun N=>by simpa using hiad2 N
     have p0:cs[ik]? = some ap:=by have:=hcell 0 (by omega);rw[hr1] at this;simpa using this
     have hah:=fun M=>zDE (fuel:=fuel) (d:=d) hrp hap (by omega) (by
      have:=hT.pth.get h (by omega:ik<T.length)
      have:=zHE hs this
      omega) (by omega) M
     rw[hb] at hah
     simp (disch:=try exact SX) only[RV,seval,gk0,gk3,gk4,gk5,gk6,gk7,lo,c2,hiad2,hg,p0,hah,w2]
     exact⟨hltk,T.length - (ik+1),by omega,ik+1,rfl,by omega,rfl,fun j hj hji=>by
      rcases Nat.lt_succ_iff_lt_or_eq.1 hji with h' | rfl
      ·exact hk j hj h'
      ·exact hb⟩
    ·have hnT:ik≤T.length:=by rcases hcase with⟨h,_⟩ | h <;> omega
     have hput:=hT.put hs (fun y hy=>List.mem_of_mem_take hy) hxE hxn hp hnT hk (fun hj=>by
      rcases hcase with⟨_,h,hb⟩ | h
      ·exact hb
      ·omega)
     rw[← hsn] at hput
     obtain⟨o1,po1,hso1⟩:=so.pre (by omega:0<9) hnT
     obtain⟨o2,po2,hso2⟩:=so.suf (by omega:0<9) hnT
     obtain⟨p1,pp1,hsp1⟩:=sp.pre (by omega:0<1) (by omega:ik≤P.length)
     obtain⟨p2,pp2,hsp2⟩:=sp.suf (by omega:0<1) (by omega:ik≤P.length)
     have k1:=hso1 Nk (fun _ _=>rfl)
     rcases hcase with⟨_,h,hb⟩ | h
     case' inl =>
      have c2:decide ((ik:Int)<T.length)=true:=DT
      obtain⟨id,cs,r,hrow,lid,hg,hcs,hiad2,⟨ap,hr1,hap⟩,hrl,_,hcell,_⟩:=sp.atS (i:=ik) h
      have hiad2:∀ N,iadO N 1 ph (some ik)=some (.ptr id ik,N):=fun N=>by simpa using hiad2 N
      have p0:cs[ik]? = some ap:=by have:=hcell 0 (by omega);rw[hr1] at this;simpa using this
      have hah:=fun M=>zDE (fuel:=fuel) (d:=d) hrp hap (by omega) (by
       have:=hT.pth.get h (by omega:ik<T.length)
       have:=zHE hs this
       omega) (by omega) M
      rw[hb] at hah
      simp (disch:=try exact SX) only[RV,seval,gk3,gk4,gk6,gk7,lo,c2,hiad2,hg,p0,hah,k1]
     case' inr =>
      have c2:decide ((ik:Int)<T.length)=false:=DF
      simp (disch:=try exact SX) only[RV,seval,gk3,gk7,lo,c2,k1]
     all_goals
      refine⟨rows_lt so.rl (Nat.le_refl _),po1.rws _ (Nat.le_refl _), ?_⟩
      obtain⟨rw1,hc1,hA1,hr1⟩:=po1.rd
      refine w3_appc (bytes:=56) (l:=[]) wq SlM.nil zG9.cel (hc1 _ fun _ _=>rfl) po1.ln hA1 hr1 (by omega) (by rw[List.length_take];simp;omega) (by rw[List.length_take];simp;omega) fun a3 M3 m3 w3 le3 sz3 kp3 nw3 wm3 rl3 on3 oc3=>?_
      rw[List.nil_append] at m3
      have nw3:∀ j,rowOf a3=some j→Nk.size≤j:=fun j hj=>by
       rcases nw3 j hj with h | h
       ·cases h
       ·exact h
      have kp3:∀ j,j<Nk.size→M3.get j=Nk.get j:=fun j hj=>kp3 j hj (fun h=>by cases h)
      have k2:∀ N,(∀ j,j<Nk.size→N.get j=Nk.get j)→slcO N 9 o (some (I64 ik)) none none=some (o2,N):=fun N h=>hso2 N fun j hj=>h j (so.lt j hj)
      simp (disch:=try exact SX) only[RV,seval,fillA,gk0,gk5,hiad,apart2_pu,zG3]
      refine⟨rows_lt m3.rl (by omega), ?_⟩
      have htk:(T.take ik).length≤100000:=by rw[List.length_take];omega
      refine app1 (bytes:=56) w3 m3 zG9 (x:=x) ⟨rfl,hok⟩ rfl (by omega) (by omega) (by omega) fun a5 M5 m5 w5 le5 kp5 nw5 wm5 rl5 on5 oc5=>?_
      have k5:∀ j,j<Nk.size→M5.get j=Nk.get j:=fun j hj=>by
       rw[kp5 j (by omega) (fun h=>by have:=nw3 j h;omega)];exact kp3 j hj
      have k5':=k2 M5 k5
      simp (disch:=try exact SX) only[RV,seval,gk3,gk7,k5',apart2_pu]
      have ro:∀ i∈rowsOf o,i<Nk.size:=fun i hi=>so.lt i (so.row_mem hi)
      have r3:∀ i∈rowsOf a3,Nk.size≤i:=fun i hi=>nw3 i (m3.row_mem hi)
      have r5:∀ j,rowOf a5=some j→Nk.size≤j:=fun j hj=>by
       rcases nw5 j hj with h | h
       ·exact nw3 j h
       ·omega
      have ap1:apart2 (fpOf (rowsOf o) [] M5.size M5.size) (fpOf (rowsOf o1) [] Nk.size M3.size,Nk.size,M3.size)=true:=zG4 fun i hi=>⟨by simp,.inl (ro i hi)⟩
      have ap2:apart2 (fpOf (rowsOf o) [] M5.size M5.size) (FP.acc [] [],M3.size,M3.size+1)=true:=zCT fun i hi=>⟨by simp,.inl (by have:=ro i hi;omega)⟩
      have ap3:apart2 (fpOf (rowsOf o) [] M5.size M5.size) (FP.acc [M3.size] (rowsOf a3),M3.size+1,M5.size)=true:=zCT fun i hi=>⟨fun h=>by have:=ro i hi;have:=r3 i h;omega,.inl (by have:=ro i hi;omega)⟩
      refine⟨rows_lt so.rl (by omega),by rw[ap1,ap2,ap3];rfl,by rw[po2.rws _ (by omega),rows_lt m5.rl (Nat.le_refl _)];rfl, ?_⟩
      obtain⟨rw2,hc2,hA2,hr2⟩:=po2.rd
      refine w3_appc (bytes:=56) w5 m5 zG9.cel (hc2 _ fun j hj=>k5 j (so.lt j hj)) po2.ln hA2 hr2 (by omega) (by rw[List.length_append,List.length_drop];simp;omega) (by rw[List.length_append,List.length_drop];simp;omega) fun a6 M6 m6 w6 le6 sz6 kp6 nw6 wm6 rl6 on6 oc6=>?_
      have k6:∀ j,j<Nk.size→M6.get j=Nk.get j:=fun j hj=>by
       rw[kp6 j (by omega) (fun h=>by have:=r5 j h;omega)];exact k5 j hj
      have kp1:=hsp1 M6 (fun j hj=>k6 j (sp.lt j hj))
      simp (disch:=try exact SX) only[RV,seval,gk4,gk7,kp1,apart2_pu]
      refine⟨rows_lt sp.rl (by omega),pp1.rws _ (by omega), ?_⟩
      obtain⟨rw3,hc3,hA3,hr3⟩:=pp1.rd
      have hpk:(P.take ik).length≤100000:=by rw[List.length_take];omega
      refine w3_appc (bytes:=24) (l:=[]) w6 SlM.nil zO0.cel (hc3 _ fun j hj=>k6 j (sp.lt j hj)) pp1.ln hA3 hr3 (by omega) (by simp;omega) (by simp;omega) fun a7 M7 m7 w7 le7 sz7 kp7 nw7 wm7 rl7 on7 oc7=>?_
      rw[List.nil_append] at m7
      have nw7:∀ j,rowOf a7=some j→M6.size≤j:=fun j hj=>by
       rcases nw7 j hj with h | h
       ·cases h
       ·exact h
      have kp7:∀ j,j<M6.size→M7.get j=M6.get j:=fun j hj=>kp7 j hj (fun h=>by cases h)
      have k4:∀ N,(∀ j,j<Nk.size→N.get j=Nk.get j)→slcO N 1 ph (some (I64 ik)) none none=some (p2,N):=fun N h=>hsp2 N fun j hj=>h j (sp.lt j hj)
      simp (disch:=try exact SX) only[RV,seval,fillA,gk6,hrp.fz.cells,apart2_pu,zG3]
      refine⟨rows_lt m7.rl (by omega), ?_⟩
      refine app1 (bytes:=24) w7 m7 zO0 (x:=p) ⟨rp,rfl,hrp⟩ rfl (by omega) (by omega) (by omega) fun a8 M8 m8 w8 le8 kp8 nw8 wm8 rl8 on8 oc8=>?_
      have k8':∀ j,j<M6.size→M8.get j=M6.get j:=fun j hj=>by
       rw[kp8 j (by omega) (fun h=>by have:=nw7 j h;omega)];exact kp7 j hj
      have k8:∀ j,j<Nk.size→M8.get j=Nk.get j:=fun j hj=>(k8' j (by omega)).trans (k6 j hj)
      have k9:=k4 M8 k8
      have rp':∀ i∈rowsOf ph,i<Nk.size:=fun i hi=>sp.lt i (sp.row_mem hi)
      have r7:∀ i∈rowsOf a7,M6.size≤i:=fun i hi=>nw7 i (m7.row_mem hi)
      have r8:∀ j,rowOf a8=some j→M6.size≤j:=fun j hj=>by
       rcases nw8 j hj with h | h
       ·exact nw7 j h
       ·omega
      have ap4:apart2 (fpOf (rowsOf ph) [] M8.size M8.size) (fpOf (rowsOf p1) [] M6.size M7.size,M6.size,M7.size)=true:=zG4 fun i hi=>⟨by simp,.inl (by have:=rp' i hi;omega)⟩
      have ap5:apart2 (fpOf (rowsOf ph) [] M8.size M8.size) (FP.acc [] [],M7.size,M7.size+1)=true:=zCT fun i hi=>⟨by simp,.inl (by have:=rp' i hi;omega)⟩
      have ap6:apart2 (fpOf (rowsOf ph) [] M8.size M8.size) (FP.acc [M7.size] (rowsOf a7),M7.size+1,M8.size)=true:=zCT fun i hi=>⟨fun h=>by have:=rp' i hi;have:=r7 i h;omega,.inl (by have:=rp' i hi;omega)⟩
      simp (disch:=try exact SX) only[RV,seval,gk4,gk7,k9,apart2_pu]
      refine⟨rows_lt sp.rl (by omega),by rw[ap4,ap5,ap6];rfl,by rw[pp2.rws _ (by omega),rows_lt m8.rl (Nat.le_refl _)];rfl, ?_⟩
      obtain⟨rw4,hc4,hA4,hr4⟩:=pp2.rd
      refine w3_appc (bytes:=24) w8 m8 zO0.cel (hc4 _ fun j hj=>k8 j (sp.lt j hj)) pp2.ln hA4 hr4 (by omega) (by rw[List.length_append,List.length_drop];simp;omega) (by rw[List.length_append,List.length_drop];simp;omega) fun a9 M9 m9 w9 le9 sz9 kp9 nw9 wm9 rl9 on9 oc9=>?_
      have m6':SlM M9 9 isEl a6 (T.take ik++[x]++T.drop ik):=m6.keep fun j hj=>by
       have:=m6.lt j hj
       rw[kp9 j (by omega) (fun h=>by have:=r8 j h;omega),k8' j this]
      simp (disch:=try exact SX) only[RV,seval,gk0,gk3,gk4,gk5,w9,w1,apart2_pu]
      refine⟨hltk,E.length - (iq+1),by omega,iq+1,a6,a9,_,_,rfl,by omega,rfl,rfl,rfl,m6',m9,hput,fun j hj hj'=>?_⟩
      have:=m6.lt j hj
      rcases nw9 j hj' with h | h
      ·have:=nw8 j h
       rcases this with h | h
       ·have:=nw7 j h;omega
       ·omega
      ·omega
  ·obtain rfl:iq=E.length:=by omega
   have c1:decide ((E.length:Int)<E.length)=false:=DF
   rw[List.take_length] at hT
   obtain⟨r,hz,hsr⟩:=so.frz zG9.cel (k:=12) (by omega)
   simp (disch:=try exact SX) only[RV,seval,gq0,gq3,gq5,ll,hz]
   exact⟨r,⟨T,hsr,hT.txt hs,hT.mem⟩,rfl⟩
variable {l : List Op} {x : Eid} {v : Lb}
theorem zLS (p:Lb→Bool)(out:List Lb)(y:Lb):(addL out y).any p=(out.any p || p y):=by
 unfold addL
 split
 ·rename_i h
  obtain⟨z,hz,h2⟩:=List.any_eq_true.1 h
  have e:y=z:=of_decide_eq_true h2
  cases hp:p y with
  | false=>rw[Bool.or_false]
  | true =>
   rw[Bool.or_true]
   exact List.any_eq_true.2 ⟨z,hz,by rw[← e];exact hp⟩
 ·rw[List.any_append];simp
theorem zHT (p:Lb→Bool):∀ (R out:List Lb),(R.foldl addL out).any p=(out.any p || R.any p)
 | [],out=>by simp
 | y::R,out=>by rw[List.foldl_cons,zHT p R,zLS,List.any_cons,Bool.or_assoc]
theorem zP2 (hh:zA1 [] l=true)(hx:x.may=true)(hv:v.may=true):isB l x v=zC7 l x v:=by
 have h0:askE l x v=0:=by
  unfold askE
  rw[if_pos (zB0 hh),hx,hv]
  rfl
 unfold zC7 isB made
 have e1:((zAE l x v).any fun to => !to.leq v) = !((zAE l x v).all fun to=>to.leq v):=zHU _ _
 have e2:([x.hd.lb].any fun to => !to.leq v) = !x.hd.lb.leq v:=by simp
 rw[h0,zHT,e1,e2]
 cases (zAE l x v).all fun to=>to.leq v <;> cases x.hd.lb.leq v <;> rfl
theorem zKF {s:Spn}{x:Eid}(h:(s.has x).isSome=true):x∈s.ids:=by
 obtain⟨k,hk⟩:=Option.isSome_iff_exists.1 h
 obtain⟨_,h0,h1,rfl⟩:=zE4.1 hk
 unfold Spn.ids
 exact List.mem_map.2 ⟨k.toNat,List.mem_range.2 (by omega),by rw[Int.toNat_of_nonneg h0]⟩
theorem zKR (l:List Op)(x:Eid)(v:Lb):made (lowL l v) x v=made l x v:=by
 unfold made zAE lowL
 rw[List.filter_filter]
 congr 2
 apply List.filter_congr
 intro o _
 unfold zBE
 cases o.hd.lb.leq v <;> simp
theorem zLE {l:List Op}(h:zA1 [] l=true)(x:Eid)(v:Lb):zC7 (lowL l v) x v=zC7 l x v:=by
 unfold zC7 askE
 rw[zB0 h,zB0 (zC2 v h),zKR]
theorem zJ6 {l:List Op}(h:zA1 [] l=true){o:Op}(ho:o∈l){x:Eid}(hk:o.kd=2)(hx:(o.sp.has x).isSome=true):o.hd.lb=x.hd.lb:=by
 obtain⟨a,b,rfl⟩:=List.append_of_mem ho
 have e:a++o::b=(a++[o])++b:=by simp
 rw[e] at h
 have h:=zI1 h
 rw[zE6] at h
 simp only[Bool.and_eq_true,decide_eq_true_eq] at h
 have hr:=zCV h.2.2
 unfold zBM at hr
 rw[if_neg (by omega),if_pos hk] at hr
 unfold remE at hr
 split at hr
 ·split at hr
  ·rename_i e
   rw[← e,zD8 (zKF hx)]
  ·cases hr
 ·cases hr
theorem zM5 {l:List Op}(h:zA1 [] l=true){x:Eid}{v:Lb}(hx:x.hd.lb.leq v=true):(lowL l v).any (fun o=>decide (o.kd=2)&&(o.sp.has x).isSome)=l.any fun o=>decide (o.kd=2)&&(o.sp.has x).isSome:=by
 rw[Bool.eq_iff_iff,List.any_eq_true,List.any_eq_true]
 constructor
 ·rintro⟨o,ho,hc⟩
  exact⟨o,(List.mem_filter.1 ho).1,hc⟩
 ·rintro⟨o,ho,hc⟩
  refine⟨o,List.mem_filter.2 ⟨ho, ?_⟩,hc⟩
  simp only[Bool.and_eq_true,decide_eq_true_eq] at hc
  rw[zJ6 h ho hc.1 hc.2]
  exact hx
variable {a : AV}
def zAY (l:List Op)(x:Eid):Bool:=l.any fun o=>decide (o.kd=2)&&(o.sp.has x).isSome
theorem zM4 (l m:List Op)(x:Eid):zAY (l++m) x=(zAY l x || zAY m x):=List.any_append
theorem zO1 {o:Op}{ra:AV}{y:Nat}(hR:Sl 1 zA3 ra o.rs)(wf:Wf M)(hy:M.get y=some (.row false (idR x)))(k:∀ N,Kept M N→Q (BL (decide (o.kd=2)&&(o.sp.has x).isSome)) N):W3 (zCN fuel (d+6) 83 [.agg (opR o ra),.ptr y 0] M) Q:=by
 have ly:=Mem.get_lt hy
 have ora:=hR.one
 have hh:=fun M=>@zFH fuel d o.sp x M
 refine call_0 tf83 rfl (by simp [a83]) fun b' ht hx=>?_
 obtain⟨h0,h1⟩:=hx2 hx
 clear hx
 simp only[a83,c83] at ht ⊢
 cases q1:decide (o.kd=2) with
 | false =>
  simp (disch:=try exact SX) only[RV,seval,h0,h1,hy,hh,q1]
  rw[q1,Bool.false_and] at k
  exact zB0s
 | true =>
  simp (disch:=try exact SX) only[RV,seval,h0,h1,hy,hh,q1]
  rw[q1,Bool.true_and] at k
  exact zB0s
theorem zM6 (hS:Sl 17 isOp a l)(hl:l.length≤10000)(hf:l.length+400<fuel)(M:Mem):zCN fuel (d+15) 57 [a,idA x] M=some (.tup [BL (zA1 [] l&&zAY l x),I64 (err (zA1 [] l))],M):=by
 have hck:=fun M=>zBH (fuel:=fuel) (d:=d) hS hl hf M
 apply w3_eq
 refine call_gc tf57 rfl (by simp only[icyL,fun M=>hS.icy M 12 (by omega),fz_icyA (zAU x) (show 1<12 by omega)]) (by simp [a57]) fun b' ht hx=>?_
 obtain⟨h0,h1⟩:=hx2 hx
 clear hx
 simp only[a57,c57] at ht ⊢
 cases q1:zA1 [] l with
 | false =>
  rw[q1] at hck
  simp (disch:=try exact SX) only[RV,seval,h0,h1,hck,zAC,Bool.false_and]
 | true =>
  rw[q1] at hck
  unfold zAY
  simp (disch:=try exact SX) only[RV,seval,h0,h1,hck,zA4]
  refine has_0 (st:=17) (ag:=true) (n:=d+12) (first:=[]) (cap:=[.ptr 0 0]) tf82 tf128 (by simp) zDJ hS (by omega) (by omega) (p:=fun o=>decide (o.kd=2)&&(o.sp.has x).isSome) (by simp (disch:=try exact SX) only[RV]) (fun n hn=>by simp only[add_size,mem0_size] at hn;simp (disch:=try exact SX) only[RV]) (fun r o hr _ N Q' hk hQ=>?_) fun N hk=>?_
  ·obtain⟨ra,rfl,hra,_⟩:=hr
   refine zO1 (d:=d+6) hra hk.wf ?_ (fun N' hk'=>hQ N' (hk.trans hk'))
   rw[hk.get 0 (by simp (disch:=try exact SX) only[RV,seval])]
   exact zB05
  ·exact zB0c
structure CellV where
 id:Eid
 ch:Int
 deriving DecidableEq
def cellV (l:List Op)(v:Lb)(x:El):CellV:=⟨x.id,if zC7 l x.id v=true then x.ch else -1⟩
def zAM (l:List Op)(v:Lb):List CellV:=((elsR (textOf (lowL l v))).filter fun x => !zAY (lowL l v) x.id).map (cellV (lowL l v) v)
theorem zO2 {l:List Op}(h:zA1 [] l=true){x:Eid}{v:Lb}(hx:x.hd.lb.leq v=true):zAY (lowL l v) x=zAY l x:=zM5 h hx
abbrev zCD (x:CellV):List AV:=[U8 x.id.hd.lb.lv,U32 x.id.hd.lb.cats,U8 x.id.hd.num,I64 x.id.c,I32 x.ch]
abbrev zOR (x:CellV):AV:=.agg (zCD x)
def zBB (r:List AV)(x:CellV):Prop:=r=zCD x∧x.id.ok
theorem zM3 (x:CellV):∀ y∈zCD x,Fz y:=fun y hy=>by
 simp only[zCD,List.mem_cons,List.not_mem_nil,or_false] at hy
 rcases hy with rfl | rfl | rfl | rfl | rfl <;> exact fz_sc_int _ _
theorem zCJ:FzT zBB:=fun r x h=>by rw[h.1];exact zM3 x
theorem CellV.eta (x:CellV):CellV.mk x.id x.ch=x:=rfl
theorem zMA {s:Spn}(h:s.may=true)(x:Eid):decide (x∈s.ids)=(s.has x).isSome:=by
 have hb:=Spn.may_le h
 rw[Bool.eq_iff_iff,decide_eq_true_iff]
 constructor
 ·intro hx
  unfold Spn.ids at hx
  obtain⟨i,hi,rfl⟩:=List.mem_map.1 hx
  have hi:=List.mem_range.1 hi
  unfold Spn.has
  rw[if_pos ⟨h,rfl,by show s.f.c≤s.f.c+i;omega,by show s.f.c+i<_;omega⟩]
  rfl
 ·exact zKF
theorem zL5 (hS:Sl 17 isOp a l)(hm:∀ o∈l,o.may=true)(hl:l.length≤40000)(hf:l.length+200<fuel)(M:Mem):zCN fuel (d+2) 67 [a,idA x] M=some (BL (zAY l x),M):=by
 have ll:=hS.len
 apply w3_eq
 refine call_gc tf67 rfl (by simp only[icyL,fun M=>hS.icy M 12 (by omega),fz_icyA (zAU x) (show 1<12 by omega)]) (by simp [a67]) fun b' ht hx=>?_
 obtain⟨h0,h1⟩:=hx2 hx
 clear hx
 simp only[a67,c67] at ht ⊢
 simp (disch:=try exact SX) only[RV,h1]
 refine w_loop (I:=fun nq tq Nq => ∃ (iq:Nat),nq=l.length - iq∧iq≤l.length∧nth undefA tq 0=a∧nth undefA tq 3 = .ptr 0 0∧nth undefA tq 5=I64 iq∧Wf Nq∧Nq.get 0=some (.row false (idR x))∧zAY (l.take iq) x=false) (n:=l.length) (by omega) ?_ ?_
 ·exact zB0j
 ·rintro nq tq Nq hltq ⟨iq,rfl,hiq,gq0,gq3,gq5,wq,gq,hj⟩
  simp only[ht] at hltq ⊢
  by_cases hc:iq<l.length
  ·have c1:decide ((iq:Int)<l.length)=true:=DT
   have w1:IntKind.i64.wrap ((iq:Int)+1)=((iq+1:Nat):Int):=WI
   obtain⟨rr,hiad,hri,_⟩:=hS.iad iq hc
   have hmo:=hm l[iq] (List.getElem_mem hc)
   have hsn:=take_snoc l iq hc
   have hany:(decide (l[iq].kd=2)&&(l[iq].sp.has x).isSome)=true→zAY l x=true:=fun h=>List.any_eq_true.2 ⟨l[iq],List.getElem_mem hc,h⟩
   have hnext:(decide (l[iq].kd=2)&&(l[iq].sp.has x).isSome)=false→zAY (l.take (iq+1)) x=false:=fun h=>by
    rw[hsn,zM4,hj]
    unfold zAY
    simp only[List.any_cons,List.any_nil,h,Bool.or_false]
   generalize l[iq]=e at *
   obtain⟨ra,rfl,hra,hok⟩:=hri
   by_cases q2:e.kd=2
   ·have q2':(!decide (e.kd=2))=false:=by rw[decide_eq_true q2];rfl
    have q2'':=decide_eq_true q2
    rw[q2'',Bool.true_and] at hany hnext
    have hsm:=may_sp hmo
    have hb:=Spn.may_le hsm
    obtain⟨ri,hri,hia⟩:=zEK (fuel:=fuel) (d:=d) hok.2.2.2.1 hsm (by omega)
    have hmi:=zMA hsm x
    have lri:=hri.len
    have hil:e.sp.ids.length≤64:=by unfold Spn.ids;rw[List.length_map,List.length_range];omega
    generalize e.sp.ids=I at *
    simp (disch:=try exact SX) only[RV,seval,gq0,gq5,ll,c1,hiad,q2'',hia]
    refine w_loop (I:=fun nk tk Nk => ∃ (ik:Nat),nk=I.length - ik∧ik≤I.length∧nth undefA tk 0=a∧nth undefA tk 3 = .ptr 0 0∧nth undefA tk 5=I64 iq∧nth undefA tk 6=ri∧nth undefA tk 7=I64 ik∧Wf Nk∧Nk.get 0=some (.row false (idR x))∧(∀ j (hj:j<I.length),j<ik→I[j]≠x)) (n:=I.length) (by omega) ?_ ?_
    ·refine⟨0,rfl,Nat.zero_le _, ?_, ?_, ?_, ?_, ?_,wq,gq,(fun _ _ h=>absurd h (by omega))⟩ <;> simp (disch:=try exact SX) only[RV,seval,gq0,gq3,gq5]
     all_goals first | rfl | assumption | done
    ·rintro nk tk Nk hltk ⟨ik,rfl,hik,gk0,gk3,gk5,gk6,gk7,wk,gk,hk⟩
     simp only[hltq] at hltk ⊢
     have l0k:=Mem.get_lt gk
     by_cases hc2:ik<I.length
     ·have c2:decide ((ik:Int)<I.length)=true:=DT
      have w2:IntKind.i64.wrap ((ik:Int)+1)=((ik+1:Nat):Int):=WI
      obtain⟨r2,hiad2,⟨rfl,_⟩,_⟩:=hri.iad ik hc2
      cases q3:decide (I[ik]=x) with
      | true =>
       have e1:zAY l x=true:=hany (by rw[← hmi];exact decide_eq_true (by rw[← of_decide_eq_true q3];exact List.getElem_mem hc2))
       simp (disch:=try exact SX) only[RV,seval,gk3,gk6,gk7,lri,c2,hiad2,gk,q3,↓pIdE,zA0,ETA,e1]
      | false =>
       have q3':=of_decide_eq_false q3
       simp (disch:=try exact SX) only[RV,seval,gk0,gk3,gk5,gk6,gk7,lri,c2,hiad2,gk,q3,↓pIdE,zA0,ETA,w2]
       exact⟨hltk,I.length - (ik+1),by omega,ik+1,rfl,by omega,rfl,wk,fun j hj hji=>by
        rcases Nat.lt_succ_iff_lt_or_eq.1 hji with h | rfl
        ·exact hk j hj h
        ·exact q3'⟩
     ·obtain rfl:ik=I.length:=by omega
      have c2:decide ((I.length:Int)<I.length)=false:=DF
      have hno:decide (x∈I)=false:=decide_eq_false fun hx=>by
       obtain⟨j,hj,e1⟩:=List.getElem_of_mem hx
       exact hk j hj hj e1
      rw[hno] at hmi
      have hn:=hnext hmi.symm
      simp (disch:=try exact SX) only[RV,seval,gk0,gk3,gk5,gk6,gk7,lri,w1]
      exact⟨hltk,l.length - (iq+1),by omega,iq+1,rfl,by omega,rfl,wk,gk,hn⟩
   ·have q2':(!decide (e.kd=2))=true:=by rw[decide_eq_false q2];rfl
    have q2'':=decide_eq_false q2
    rw[q2'',Bool.false_and] at hnext
    simp (disch:=try exact SX) only[RV,seval,gq0,gq3,gq5,ll,c1,hiad,q2'',w1]
    exact⟨hltq,l.length - (iq+1),by omega,iq+1,rfl,by omega,rfl,wq,gq,hnext rfl⟩
  ·obtain rfl:iq=l.length:=by omega
   have c1:decide ((l.length:Int)<l.length)=false:=DF
   rw[List.take_length] at hj
   simp (disch:=try exact SX) only[RV,seval,gq0,gq5,ll,hj]
def zGU (l:List Op)(v:Lb)(E:List El):List CellV:=(E.filter fun x=>x.id.hd.lb.leq v && !zAY l x.id).map (cellV l v)
theorem zJK (l:List Op)(v:Lb)(E:List El)(x:El):zGU l v (E++[x])=zGU l v E++(if (x.id.hd.lb.leq v && !zAY l x.id)=true then [cellV l v x] else []):=by
 unfold zGU
 rw[List.filter_append,List.map_append]
 congr 1
 rw[List.filter_cons]
 split <;> rfl
theorem zLC (l:List Op)(v:Lb)(E:List El):(zGU l v E).length≤E.length:=by
 unfold zGU
 exact zB13
theorem zLD {l:List Op}(h:zA1 [] l=true)(hok:∀ o∈l,o.ok)(v:Lb):zGU l v (elsR (textOf l))=zAM l v:=by
 unfold zAM zGU
 rw[(zN1 h hok v).1,zIR (zAI h).ok.1,(zBA _).1,List.filter_filter]
 have e1:((elsR (textOf l)).filter fun x=>x.id.hd.lb.leq v && !zAY l x.id)=(elsR (textOf l)).filter fun x => !zAY (lowL l v) x.id&&lowE v x:=by
  apply List.filter_congr
  intro x _
  show (x.id.hd.lb.leq v && !zAY l x.id)=(!zAY (lowL l v) x.id&&x.id.hd.lb.leq v)
  cases hx:x.id.hd.lb.leq v with
  | false=>rw[Bool.and_false,Bool.false_and]
  | true=>rw[zO2 h hx,Bool.and_true,Bool.true_and]
 rw[e1]
 apply List.map_congr_left
 intro x _
 unfold cellV
 rw[zLE h]
theorem zEH (hS:Sl 17 isOp a l)(hh:zA1 [] l=true)(hv:v.ok)(hvm:v.may=true)(hl:l.length≤200)(hf:100000<fuel):∃ r,Sl 5 zBB r (zAM l v) ∧ ∀ M,zCN fuel (d+5) 41 [a,lbA v] M=some (r,M):=by
 have hrn:=zE5 hh
 obtain⟨ro,hro,hon⟩:=zCO (fuel:=fuel) (d:=d) hS hrn (by omega) (by omega)
 have hom:=zDR hrn
 have hoks:∀ o∈l,o.ok:=fun o ho=>by
  obtain⟨i,hi,rfl⟩:=List.getElem_of_mem ho
  obtain⟨_,_,⟨_,_,_,h⟩,_⟩:=hS.iad i hi
  exact h
 obtain⟨rt,T,⟨hrt,hT,hmT⟩,hso⟩:=zFR (fuel:=fuel) (d:=d) hro (zMO hh) (by omega) (by omega)
 have eT:=zKX hh hT hmT
 have hTm:=(zAW (zAI hh).ok).1.m
 rw[← eT] at hTm
 rw[← zLD hh hoks v,← eT]
 have lrt:=hrt.len
 have hTl:T.length≤8192:=by
  rw[eT]
  exact(zAW (zAI hh).ok).1.n
 clear eT hmT
 refine gc_ex tf41 rfl (fun M=>by simp only[icyL,fun M=>hS.icy M 12 (by omega),fz_icyA (zA8 v) (show 1<12 by omega)]) ?_
 refine call_gc tf41 rfl (by simp only[icyL,fun M=>hS.icy M 12 (by omega),fz_icyA (zA8 v) (show 1<12 by omega)]) (by simp [a41]) fun b' ht hx=>?_
 obtain⟨h0,h1⟩:=hx2 hx
 clear hx
 simp only[a41,c41] at ht ⊢
 simp (disch:=try exact SX) only[RV,seval,h0,h1,hon,hso]
 refine w_loop (I:=fun n t N => ∃ (i:Nat) (o:AV),n=T.length - i∧i≤T.length∧nth undefA t 0=a∧nth undefA t 3 = .ptr 0 0∧nth undefA t 5=o∧nth undefA t 6=rt∧nth undefA t 7=I64 i∧Wf N∧N.get 0=some (.row false (lbR v))∧SlM N 5 zBB o (zGU l v (T.take i))∧(∀ j,rowOf o=some j→1≤j)) (n:=T.length) (by omega) ?_ ?_
 ·refine⟨0,NIL,rfl,Nat.zero_le _, ?_, ?_, ?_, ?_, ?_,Wf.mem0.add _,by simp (disch:=try exact SX) only[RV],SlM.nil,(fun _ h=>by cases h)⟩ <;> simp (disch:=try exact SX) only[RV,seval,h0]
  all_goals first | rfl | assumption | done
 ·rintro n t N hlt ⟨i,o,rfl,hi,g0,g3,g5,g6,g7,w,g,sm,ro1⟩
  simp only[ht] at hlt ⊢
  have l0:=Mem.get_lt g
  by_cases hc:i<T.length
  ·have q1:decide ((i:Int)<T.length)=true:=DT
   have w1:IntKind.i64.wrap ((i:Int)+1)=((i+1:Nat):Int):=WI
   obtain⟨r,hiad,hr9,_⟩:=hrt.iad i hc
   have hsn:=zJK l v (T.take i) T[i]
   rw[← take_snoc T i hc] at hsn
   have hsl:=zLC l v (T.take i)
   rw[List.length_take] at hsl
   have hxm:=hTm T[i] (List.getElem_mem hc)
   generalize T[i]=x at *
   obtain⟨rfl,hok1,hok2⟩:=hr9
   have hxi:=(El.may_iff.1 hxm).1
   have hle:=fun M=>zB6 (fuel:=fuel) (d:=d+2) x.id.hd.lb v hok1.1.1 hv (by omega) M
   have hgo:=fun M=>zL5 (fuel:=fuel) (d:=d+2) (x:=x.id) hS (zBI hh) (by omega) (by omega) M
   have hsh:=fun M=>zL3 (fuel:=fuel) (d:=d) (x:=x.id) (v:=v) hS (zBI hh) hok1 hv (by omega) (by omega) M
   rw[zP2 hh hxi hvm] at hsh
   have wX:∀ z r,Wf ((N.add z).upd N.size r):=fun z r=>(w.add z).upd _ _
   have gX:∀ z r j,j<N.size→((N.add z).upd N.size r).get j=N.get j:=fun z r j hj=>by
    exact zB0T
   cases q2:x.id.hd.lb.leq v with
   | false =>
    rw[q2] at hle hsn
    rw[Bool.false_and,if_neg (by decide),List.append_nil] at hsn
    simp (disch:=try exact SX) only[RV,seval,g0,g3,g5,g6,g7,lrt,q1,hiad,w,g,hle,w1]
    exact zB0A
   | true =>
    rw[q2] at hle hsn
    rw[Bool.true_and] at hsn
    cases q3:zAY l x.id with
    | true =>
     rw[q3] at hgo hsn
     rw[if_neg (by decide),List.append_nil] at hsn
     simp (disch:=try exact SX) only[RV,seval,g0,g3,g5,g6,g7,lrt,q1,hiad,w,g,hle,hgo,w1]
     exact zB0A
    | false =>
     rw[q3] at hgo hsn
     rw[if_pos (by decide)] at hsn
     unfold cellV at hsn
     have wZ:∀ z r z' r',Wf ((((N.add z).upd N.size r).add z').upd (N.size+1) r'):=fun z r z' r'=>((wX z r).add z').upd _ _
     have gZ:∀ z r z' r' j,j<N.size→((((N.add z).upd N.size r).add z').upd (N.size+1) r').get j=N.get j:=fun z r z' r' j hj=>by
      exact zB0y
     cases q4:zC7 l x.id v with
     | true =>
      rw[q4] at hsh hsn
      rw[if_pos rfl] at hsn
      simp (disch:=try exact SX) only[RV,seval,fillA,g0,g3,g5,g6,g7,lrt,q1,hiad,g,hle,hgo,hsh]
      refine⟨rows_lt sm.rl (by omega), ?_⟩
      refine app1 (bytes:=32) (x:=⟨x.id,x.ch⟩) (wZ _ _ _ _) (sm.keep fun j hj=>gZ _ _ _ _ j (sm.lt j hj)) zCJ ⟨rfl,hok1⟩ rfl (by omega) (by omega) (by omega) fun o' M' m' w' le' kp' nw' wm' rl' on' oc'=>?_
      simp only[upd_size,add_size] at le' kp' nw'
      simp (disch:=try exact SX) only[RV,seval,g0,g3,g5,g6,g7,w',w1]
      refine⟨hlt,T.length - (i+1),by omega,i+1,o',rfl,by omega,rfl,rfl, ?_,by rw[hsn];exact m',fun j hj=>?_⟩
      ·rw[kp' 0 (by omega) (fun h=>by have:=ro1 0 h;omega),gZ _ _ _ _ 0 l0];exact g
      ·rcases nw' j hj with h | h
       ·exact ro1 j h
       ·omega
     | false =>
      rw[q4] at hsh hsn
      rw[if_neg (by decide)] at hsn
      simp (disch:=try exact SX) only[RV,seval,fillA,g0,g3,g5,g6,g7,lrt,q1,hiad,g,hle,hgo,hsh]
      refine⟨rows_lt sm.rl (by omega), ?_⟩
      have wU:∀ z r z' r' u,Wf (((((N.add z).upd N.size r).add z').upd (N.size+1) r').upd (N.size+1) u):=fun z r z' r' u=>(wZ z r z' r').upd _ _
      have gU:∀ z r z' r' u j,j<N.size→(((((N.add z).upd N.size r).add z').upd (N.size+1) r').upd (N.size+1) u).get j=N.get j:=fun z r z' r' u j hj=>by
       rw[get_upd_ne (wZ z r z' r') _ _ _ (by omega)]
       exact gZ z r z' r' j hj
      refine app1 (bytes:=32) (x:=⟨x.id, -1⟩) (wU _ _ _ _ _) (sm.keep fun j hj=>gU _ _ _ _ _ j (sm.lt j hj)) zCJ ⟨rfl,hok1⟩ rfl (by omega) (by omega) (by omega) fun o' M' m' w' le' kp' nw' wm' rl' on' oc'=>?_
      simp only[upd_size,add_size] at le' kp' nw'
      simp (disch:=try exact SX) only[RV,seval,g0,g3,g5,g6,g7,w',w1]
      refine⟨hlt,T.length - (i+1),by omega,i+1,o',rfl,by omega,rfl,rfl, ?_,by rw[hsn];exact m',fun j hj=>?_⟩
      ·rw[kp' 0 (by omega) (fun h=>by have:=ro1 0 h;omega),gU _ _ _ _ _ 0 l0];exact g
      ·rcases nw' j hj with h | h
       ·exact ro1 j h
       ·omega
  ·obtain rfl:i=T.length:=by omega
   have q1:decide ((T.length:Int)<T.length)=false:=DF
   rw[List.take_length] at sm
   obtain⟨r,hz,hsr⟩:=sm.frz zCJ.cel (k:=12) (by omega)
   simp (disch:=try exact SX) only[RV,seval,g5,g6,g7,lrt,hz]
   exact⟨r,hsr,rfl⟩
def zAF (E:List El):List CellV:=E.map fun x=>⟨x.id,x.ch⟩
theorem zEY (E F:List El):zAF (E++F)=zAF E++zAF F:=by simp [zAF]
theorem zBO (E:List El):(zAF E).length=E.length:=List.length_map _
theorem zDM {l:List Rn}(hm:∀ r∈l,r.may=true):(elsR l).length≤64*l.length:=by
 induction l with
 | nil=>simp [elsR]
 | cons r l ih =>
  have e:elsR (r::l)=r.elR++elsR l:=by simp [elsR]
  have hb:=Spn.may_le (Rn.may_sp (hm r List.mem_cons_self))
  have:=ih fun q hq=>hm q (List.mem_cons_of_mem _ hq)
  rw[e,List.length_append,zAA,List.length_cons]
  omega
theorem zJT {a:AV}{l:List Rn}(hS:Sl 10 isRn a l)(hm:∀ r∈l,r.may=true)(hl:l.length≤100000)(hf:l.length+200<fuel):∃ r,Sl 5 zBB r (zAF (elsR l)) ∧ ∀ M,zCN fuel (d+8) 37 [a] M=some (r,M):=by
 have ll:=hS.len
 refine gc_ex tf37 rfl (fun M=>by simp only[icyL,fun M=>hS.icy M 12 (by omega)]) ?_
 refine call_gc tf37 rfl (by simp only[icyL,fun M=>hS.icy M 12 (by omega)]) (by simp [a37]) fun b' ht hx=>?_
 have h0:=hx 0 _ rfl
 clear hx
 simp only[a37,c37] at ht ⊢
 simp (disch:=try exact SX) only[RV,seval,h0,ll]
 refine w_loop (I:=fun n t N => ∃ (i:Nat) (o:AV),n=l.length - i∧i≤l.length∧nth undefA t 2=o∧nth undefA t 10=a∧nth undefA t 11=I64 l.length∧nth undefA t 12=I64 i∧Wf N∧N.wm=0∧SlM N 5 zBB o (zAF (elsR (l.take i)))) (n:=l.length) (by omega) ?_ ?_
 ·refine⟨0,NIL,rfl,Nat.zero_le _, ?_, ?_, ?_, ?_,Wf.mem0,rfl,SlM.nil⟩ <;> simp (disch:=try exact SX) only[RV,seval]
  all_goals first | rfl | assumption | done
 ·rintro n t N hlt ⟨i,o,rfl,hi,g2,g10,g11,g12,w,wm,sm⟩
  simp only[ht] at hlt ⊢
  by_cases hc:i<l.length
  ·have q1:decide ((i:Int)<l.length)=true:=DT
   have w1:IntKind.i64.wrap ((i:Int)+1)=((i+1:Nat):Int):=WI
   obtain⟨r,hiad,hr,hrl⟩:=hS.iad i hc
   have hts:=zB2 (l.take i) l[i]
   rw[← zAH l i hc] at hts
   have hme:=hm l[i] (List.getElem_mem hc)
   have hb:=Spn.may_le (Rn.may_sp hme)
   have hln:=zDM (l:=l.take i) fun r hr=>hm r (List.mem_of_mem_take hr)
   rw[List.length_take] at hln
   generalize l[i]=e at *
   obtain⟨ra,rfl,hra,hok⟩:=hr
   have ora:=hra.one
   have hat:=fun n M=>zGR (fuel:=fuel) (d:=d) (n:=n) hra (by omega) M
   have wX:=(w.add (.row false (rnR ⟨⟨Eid.z,0⟩,Eid.z,[]⟩ NIL))).upd N.size (.row false (rnR e ra))
   have gX:((N.add (.row false (rnR ⟨⟨Eid.z,0⟩,Eid.z,[]⟩ NIL))).upd N.size (.row false (rnR e ra))).get N.size=some (.row false (rnR e ra)):=by simp (disch:=try exact SX) only[RV]
   have smX:SlM ((N.add (.row false (rnR ⟨⟨Eid.z,0⟩,Eid.z,[]⟩ NIL))).upd N.size (.row false (rnR e ra))) 5 zBB o (zAF (elsR (l.take i))):=sm.keep fun j hj=>by
    have:=sm.lt j hj
    rw[get_upd_ne (w.add _) _ _ _ (by omega),get_add w _ _ this]
   have sX:((N.add (.row false (rnR ⟨⟨Eid.z,0⟩,Eid.z,[]⟩ NIL))).upd N.size (.row false (rnR e ra))).size=N.size+1:=rfl
   simp (disch:=try exact SX) only[RV,seval,g10,g11,g12,q1,hiad]
   have mX:((N.add (.row false (rnR ⟨⟨Eid.z,0⟩,Eid.z,[]⟩ NIL))).upd N.size (.row false (rnR e ra))).wm=0:=wm
   revert wX gX smX sX mX
   generalize ((N.add _).upd N.size _)=X
   intro wX gX smX sX mX
   refine w_loop (I:=fun nk tk Nk => ∃ (ik:Nat) (p:AV),nk=e.sp.n.toNat - ik∧ik≤e.sp.n.toNat∧nth undefA tk 2=p∧nth undefA tk 4 = .ptr N.size 0∧nth undefA tk 10=a∧nth undefA tk 11=I64 l.length∧nth undefA tk 12=I64 i∧nth undefA tk 18=I64 e.sp.n∧nth undefA tk 19=I64 ik∧Wf Nk∧N.size+1≤Nk.size∧Nk.wm=0∧Nk.get N.size=some (.row false (rnR e ra))∧SlM Nk 5 zBB p (zAF (elsR (l.take i))++zAF (e.elR.take ik))∧(∀ j,rowOf p=some j→j≠N.size)) (n:=e.sp.n.toNat) (by omega) ?_ ?_
   ·refine⟨0,o,rfl,Nat.zero_le _, ?_, ?_, ?_, ?_, ?_, ?_, ?_,wX,Nat.le_of_eq sX.symm,mX,gX,(by simpa [zAF] using smX),(fun j hj=>by have:=sm.lt j hj;omega)⟩ <;> simp (disch:=try exact SX) only[RV,seval,g2,g10,g11,g12]
    all_goals first | rfl | assumption | done
   ·rintro nk tk Nk hltk ⟨ik,p,rfl,hik,gk2,gk4,gk10,gk11,gk12,gk18,gk19,wk,lek,wmk,gk,smk,nrk⟩
    simp only[hlt] at hltk ⊢
    have lel:=zAA e
    by_cases hck:ik<e.sp.n.toNat
    ·have q2:decide ((ik:Int)<e.sp.n)=true:=DT
     have w2:IntKind.i64.wrap ((ik:Int)+1)=((ik+1:Nat):Int):=WI
     have ha0:atE e (ik:Int)=0:=by unfold atE;rw[if_pos hme,if_neg (by omega)]
     have hat':=hat (ik:Int)
     rw[ha0] at hat'
     simp only[if_true,Int.toNat_natCast] at hat'
     have hts2:=zAH e.elR ik (by omega)
     rw[zAK] at hts2
     have hid:(e.sp.at (ik:Int)).ok:=⟨hok.1.1.1,by show i64R (e.sp.f.c+(ik:Int));unfold i64R;omega⟩
     have hll:(zAF (elsR (l.take i))++zAF (e.elR.take ik)).length≤64*i+64:=by
      rw[List.length_append,zBO,zBO,List.length_take];omega
     simp (disch:=try exact SX) only[RV,seval,fillA,gk2,gk4,gk18,gk19,q2,gk,hat']
     have wY:=(((wk.add (.row false (idR Eid.z))).add (.row false (idR Eid.z))).upd Nk.size (.row false (idR (e.sp.at (ik:Int))))).upd (Nk.size+1) (.row false (idR (e.afAt (ik:Int))))
     have gY:∀ j,j<Nk.size→((((Nk.add (.row false (idR Eid.z))).add (.row false (idR Eid.z))).upd Nk.size (.row false (idR (e.sp.at (ik:Int))))).upd (Nk.size+1) (.row false (idR (e.afAt (ik:Int))))).get j=Nk.get j:=fun j hj=>by
      rw[get_upd_ne (((wk.add _).add _).upd _ _) _ _ _ (by omega),get_upd_ne ((wk.add _).add _) _ _ _ (by omega),get_add (wk.add _) _ _ (by rw[add_size];omega),get_add wk _ _ hj]
     refine⟨rows_lt smk.rl (by omega), ?_⟩
     refine app1 (bytes:=32) (x:=⟨e.sp.at (ik:Int),e.rs.getD ik 0⟩) wY (smk.keep fun j hj=>gY j (smk.lt j hj)) zCJ ⟨rfl,hid⟩ rfl (by omega) (by omega) (by omega) fun p2 M2 m2 wf2 le2 kp2 nw2 wm2 rl2 on2 oc2=>?_
     simp only[upd_size,add_size] at le2
     simp (disch:=try exact SX) only[RV,seval,gk2,gk4,gk10,gk11,gk12,gk18,gk19,wf2,w2]
     refine⟨hltk,e.sp.n.toNat - (ik+1),by omega,ik+1,p2,rfl,by omega,rfl,rfl,by omega,wm2.trans wmk, ?_, ?_,fun j hj=>?_⟩
     ·rw[kp2 N.size (by simp only[upd_size,add_size];omega) (fun h=>nrk _ h rfl),gY N.size (by omega)];exact gk
     ·rw[hts2,zEY,← List.append_assoc];exact m2
     ·rcases nw2 j hj with h | h
      ·exact nrk j h
      ·simp only[upd_size,add_size] at h;omega
    ·obtain rfl:ik=e.sp.n.toNat:=by omega
     have q2:decide (((e.sp.n.toNat:Nat):Int)<e.sp.n)=false:=DF
     rw[List.take_of_length_le (Nat.le_of_eq lel)] at smk
     simp (disch:=try exact SX) only[RV,seval,gk2,gk10,gk11,gk12,gk18,gk19,q2,w1]
     exact⟨hltk,l.length - (i+1),by omega,i+1,p,rfl,by omega,rfl,rfl,wk,wmk,by rw[hts,zEY];exact smk⟩
  ·obtain rfl:i=l.length:=by omega
   have q1:decide ((l.length:Int)<l.length)=false:=DF
   rw[List.take_length] at sm
   obtain⟨ro,hz,hs⟩:=sm.frz zCJ.cel (k:=12) (by omega)
   simp (disch:=try exact SX) only[RV,seval,g2,g11,g12,hz]
   exact⟨_,hs,rfl⟩
variable {low : List Op} {al : AV}
def zDY (l:List Op)(v:Lb)(c:CellV):CellV:=⟨c.id,if zC7 l c.id v=true then c.ch else -1⟩
def zE9 (l:List Op)(v:Lb)(c:List CellV):List CellV:=(c.filter fun x => !zAY l x.id).map (zDY l v)
theorem zJA (l:List Op)(v:Lb)(c:List CellV)(x:CellV):zE9 l v (c++[x])=zE9 l v c++(if zAY l x.id=true then [] else [zDY l v x]):=by
 unfold zE9
 rw[List.filter_append,List.map_append]
 cases h:zAY l x.id <;> simp [h]
theorem zKJ (l:List Op)(v:Lb)(c:List CellV):(zE9 l v c).length≤c.length:=by
 unfold zE9
 exact zB13
theorem zLT {bl bv:Nat}{c:CellV}(hS:Sl 17 isOp al low)(hh:zA1 [] low=true)(hl:low.length≤10000)(hf:low.length+400<fuel)(hc:c.id.ok)(wf:Wf M)(hw:M.wm≤M.size)(g1:M.get bl=some (.row false [al]))(g2:M.get bv=some (.row false (lbR v)))(k:∀ N,Kept M N→Q (.tup [zOR (zDY low v c),BL (!zAY low c.id)]) N):W3 (zCN fuel (d+16) 56 [zOR c,.ptr bl 0,.ptr bv 0] M) Q:=by
 have l1:=Mem.get_lt g1
 have l2:=Mem.get_lt g2
 have oa:=hS.one
 have hgo:=fun M=>zM6 (fuel:=fuel) (d:=d) (x:=c.id) hS hl hf M
 have hsh:=fun M=>zLF (fuel:=fuel) (d:=d+4) (v:=v) hS (by omega) (by omega) hc M
 simp only[hh,Bool.true_and] at hgo
 have kk:=fun q r=>(((((Kept.refl wf).add (.row false (zCD c))).add (.row false (zCD ⟨Eid.z,0⟩))).upd hw (Nat.le_refl _) q).upd hw (Nat.le_succ M.size) r)
 have kk1:=fun r=>((((Kept.refl wf).add (.row false (zCD c))).add (.row false (zCD ⟨Eid.z,0⟩))).upd hw (Nat.le_succ M.size) r)
 unfold zDY at k
 refine call_0 tf56 rfl (by simp [a56]) fun b' ht hx=>?_
 obtain⟨h0,h1,h2⟩:=hx3 hx
 clear hx
 simp only[a56,c56] at ht ⊢
 cases q:zC7 low c.id v with
 | true =>
  rw[q] at k
  simp only[q] at hsh
  rw[if_pos rfl] at k
  simp (disch:=try exact SX) only[RV,seval,h0,h1,h2,g1,g2,hgo,hsh]
  exact k _ (kk1 _)
 | false =>
  rw[q] at k
  simp only[q] at hsh
  rw[if_neg (by decide)] at k
  simp (disch:=try exact SX) only[RV,seval,h0,h1,h2,g1,g2,hgo,hsh]
  exact k _ (kk _ _)
theorem zOG {a:AV}{cs:List CellV}{bl bv:Nat}(hA:Sl 5 zBB a cs)(hcl:cs.length≤1000000)(hS:Sl 17 isOp al low)(hh:zA1 [] low=true)(hl:low.length≤10000)(hf:low.length+cs.length+400<fuel)(wf:Wf M)(hw:M.wm≤M.size)(m1:M.get bl=some (.row false [al]))(m2:M.get bv=some (.row false (lbR v)))
  (k:∀ o N,Wf N→M.size≤N.size→(∀ j,j<M.size→N.get j=M.get j)→SlM N 5 zBB o (zE9 low v cs)→(∀ j,rowOf o=some j→M.size≤j)→N.wm=M.wm→Q o N) :
  W3 (zCN fuel (d+17) 55 [a,.fn 56 [] [.ptr bl 0,.ptr bv 0]] M) Q:=by
 have la:=hA.len
 have l1:=Mem.get_lt m1
 have l2:=Mem.get_lt m2
 refine call_0 tf55 rfl (by simp [a55]) fun b' ht hx=>?_
 obtain⟨h0,h1⟩:=hx2 hx
 clear hx
 simp only[a55,c55] at ht ⊢
 simp (disch:=try exact SX) only[RV,seval,h0,la]
 refine w_loop (I:=fun n t N => ∃ (i:Nat) (o:AV),n=cs.length - i∧i≤cs.length∧nth undefA t 1 = .fn 56 [] [.ptr bl 0,.ptr bv 0]∧nth undefA t 4=o∧nth undefA t 9=a∧nth undefA t 10=I64 cs.length∧nth undefA t 11=I64 i∧Wf N∧M.size≤N.size∧(∀ j,j<M.size→N.get j=M.get j)∧N.wm=M.wm∧SlM N 5 zBB o (zE9 low v (cs.take i))∧(∀ j,rowOf o=some j→M.size≤j)) (n:=cs.length) (by omega) ?_ ?_
 ·exact zB09
 ·rintro n t N hlt ⟨i,o,rfl,hi,g1,g4,g9,g10,g11,w,le,kp,wm,sm,nr⟩
  simp only[ht] at hlt ⊢
  by_cases hc:i<cs.length
  ·have q1:decide ((i:Int)<cs.length)=true:=DT
   have w1:IntKind.i64.wrap ((i:Int)+1)=((i+1:Nat):Int):=WI
   obtain⟨r,hiad,hr,hrl⟩:=hA.iad i hc
   have hts:=zJA low v (cs.take i) cs[i]
   rw[← take_snoc cs i hc] at hts
   have hkl:=zKJ low v (cs.take i)
   rw[List.length_take] at hkl
   generalize cs[i]=c at *
   obtain⟨rfl,hok⟩:=hr
   have hwN:N.wm≤N.size:=by rw[wm];exact Nat.le_trans hw le
   have kX:=((Kept.refl w).add (.row false (zCD ⟨Eid.z,0⟩))).upd hwN (Nat.le_refl _) (.row false (zCD c))
   simp (disch:=try exact SX) only[RV,seval,g1,g9,g10,g11,q1,hiad]
   refine zLT (d:=d) (c:=c) hS hh hl (by omega) hok kX.wf (by rw[kX.wm];exact Nat.le_trans hwN kX.le) ((kX.get bl (by omega)).trans ((kp bl l1).trans m1)) ((kX.get bv (by omega)).trans ((kp bv l2).trans m2)) fun N2 k2=>?_
   have w2:=k2.wf
   have k3:=kX.trans k2
   have le2:=k2.le
   simp only[upd_size,add_size] at le2
   have smX:SlM N2 5 zBB o (zE9 low v (cs.take i)):=sm.keep fun j hj=>by
    have:=sm.lt j hj
    rw[k2.get j (by simp only[upd_size,add_size];omega),get_upd_ne (w.add _) _ _ _ (by omega),get_add w _ _ this]
   have smY:∀ y z,SlM ((N2.add y).upd N2.size z) 5 zBB o (zE9 low v (cs.take i)):=fun y z=>smX.keep fun j hj=>by
    have:=smX.lt j hj
    rw[get_upd_ne (w2.add _) _ _ _ (by omega),get_add w2 _ _ this]
   cases q2:zAY low c.id with
   | true =>
    rw[q2,if_pos rfl,List.append_nil] at hts
    have k4:=(k3.add (.row false (zCD ⟨Eid.z,0⟩))).upd hwN k3.le (.row false (zCD (zDY low v c)))
    simp (disch:=try exact SX) only[RV,seval,g1,g4,g9,g10,g11,w2,w1]
    exact⟨hlt,cs.length - (i+1),by omega,i+1,o,rfl,by omega,rfl,rfl,by have:=k3.le;omega,fun j hj=>(k4.get j (by omega)).trans (kp j hj),k4.wm.trans wm,by rw[hts];exact smY _ _,nr⟩
   | false =>
    rw[q2,if_neg (by decide)] at hts
    simp (disch:=try exact SX) only[RV,seval,fillA,g4]
    refine⟨rows_lt smX.rl (by omega), ?_⟩
    refine app1 (bytes:=32) (x:=zDY low v c) ((w2.add _).upd _ _) (smY _ _) zCJ ⟨rfl,hok⟩ rfl (by omega) (by omega) (by omega) fun p2 M2 m2' wf2 le3 kp2 nw2 wm2 rl2 on2 oc2=>?_
    simp only[upd_size,add_size] at le3
    have k5:=(k3.add (.row false (zCD ⟨Eid.z,0⟩))).upd hwN k3.le (.row false (zCD (zDY low v c)))
    simp (disch:=try exact SX) only[RV,seval,g1,g4,g9,g10,g11,wf2,w1]
    refine⟨hlt,cs.length - (i+1),by omega,i+1,p2,rfl,by omega,rfl,rfl, ?_,fun j hj=>?_,(wm2.trans k5.wm).trans wm,by rw[hts];exact m2',fun j hj=>?_⟩
    ·have:=k3.le;omega
    ·rw[kp2 j (by have:=k3.le;simp only[upd_size,add_size];omega) (fun h=>by have:=nr _ h;omega)];exact(k5.get j (by omega)).trans (kp j hj)
    ·rcases nw2 j hj with h | h
     ·exact nr j h
     ·simp only[upd_size,add_size] at h;have:=k3.le;omega
  ·obtain rfl:i=cs.length:=by omega
   have q1:decide ((cs.length:Int)<cs.length)=false:=DF
   rw[List.take_length] at sm
   simp (disch:=try exact SX) only[RV,seval,g4,g10,g11]
   exact k _ _ w le kp sm nr wm
def cO1:ACode:=(.seq (.region [⟨some 5,.alloc 31 (.agg #[(.int .u8 0),(.int .u32 0),(.int .u8 0),(.int .i64 0)]),none,[]⟩,⟨none,.store 4 (.tmp 5) (.tmp 12),none,[]⟩] false) (.region [⟨some 6,.alloc 31 (.agg #[(.int .u8 0),(.int .u32 0),(.int .u8 0),(.int .i64 0)]),none,[]⟩,⟨none,.store 4 (.tmp 6) (.tmp 13),none,[]⟩] false))
def cO2:ACode:=(.block 1 (.scope (.seq (.region [⟨some 7,.alloc 31 (.agg #[(.int .u8 0),(.int .u32 0),(.int .u8 0),(.int .i64 0)]),none,[]⟩] false) (.seq .label (.seq (.block 2 (.loop (.seq (.seq (.region [⟨some 14,.load 1 false (.tmp 3),none,[]⟩,⟨some 15,.len (.tmp 14),none,[]⟩,⟨some 16,.pur (mkO (.binOp .gtr 3 (.tmp 15) (.const (.int .i64 0)) 3) 4),none,[]⟩] false) (.cond (.tmp 16) .skip (.exit 2))) (.block 3 (.seq (.region [⟨some 17,.load 1 false (.tmp 3),none,[]⟩,⟨some 18,.load 1 false (.tmp 3),none,[]⟩,⟨some 19,.len (.tmp 18),none,[]⟩,⟨some 20,.pur (mkO (.binOp .sub 3 (.tmp 19) (.const (.int .i64 1)) 3) 3),none,[]⟩,⟨some 21,.iad 4 (.tmp 17) (.tmp 20),none,[]⟩,⟨some 22,.load 4 true (.tmp 21),none,[]⟩,⟨some 8,.alloc 31 (.agg #[(.int .u8 0),(.int .u32 0),(.int .u8 0),(.int .i64 0)]),none,[]⟩,⟨none,.store 4 (.tmp 8) (.tmp 22),none,[]⟩] false) (.seq (.seq (.region [⟨some 23,.load 4 true (.tmp 8),none,[]⟩,⟨some 24,.load 4 true (.tmp 6),none,[]⟩,⟨some 25,.pur (mkO (.binOp .eql 31 (.tmp 23) (.tmp 24) 31) 4),none,[]⟩] false) (.cond (.tmp 25) (.exit 2) .skip)) (.region [⟨some 26,.load 4 true (.tmp 8),none,[1,2,3,4,5]⟩,⟨some 27,.load 1 false (.tmp 3),none,[0,2,3,4,6]⟩,⟨some 28,.load 1 false (.tmp 3),none,[0,1,6]⟩,⟨some 29,.len (.tmp 28),none,[0,1,6]⟩,⟨some 30,.pur (mkO (.binOp .sub 3 (.tmp 29) (.const (.int .i64 1)) 3) 3),none,[0,1,6]⟩,⟨some 31,.slc 4 (.tmp 27) none (some (.tmp 30)) none,none,[0,6]⟩,⟨none,.store 4 (.tmp 7) (.tmp 26),none,[1,2,3,4,5]⟩,⟨none,.store 1 (.tmp 3) (.tmp 31),none,[]⟩] true))))))) (.seq (.seq (.region [⟨some 32,.load 1 false (.tmp 3),none,[]⟩,⟨some 33,.len (.tmp 32),none,[]⟩,⟨some 34,.pur (mkO (.binOp .eql 3 (.tmp 33) (.const (.int .i64 0)) 3) 4),none,[]⟩,⟨some 35,.mov (.tmp 34),none,[]⟩,⟨some 36,.load 4 true (.tmp 6),some (35,true),[]⟩,⟨some 37,.build (.agg #[(.int .u8 0),(.int .u32 0),(.int .u8 0),(.int .i64 0)]) [],some (35,true),[]⟩,⟨some 38,.pur (mkO (.binOp .neq 31 (.tmp 36) (.tmp 37) 31) 4),some (35,true),[]⟩,⟨some 39,.pick (.tmp 35) (.tmp 38) (.const (.bool false)),none,[]⟩,⟨some 40,.mov (.tmp 39),none,[]⟩,⟨some 41,.load 4 true (.tmp 7),some (40,false),[]⟩,⟨some 42,.build (.agg #[(.int .u8 0),(.int .u32 0),(.int .u8 0),(.int .i64 0)]) [],some (40,false),[]⟩,⟨some 43,.pur (mkO (.binOp .neq 31 (.tmp 41) (.tmp 42) 31) 4),some (40,false),[]⟩,⟨some 44,.mov (.tmp 43),some (40,false),[]⟩,⟨some 45,.load 4 true (.tmp 5),some (44,true),[]⟩,⟨some 46,.load 4 true (.tmp 7),some (44,true),[]⟩,⟨some 47,.call (.func 93) [(.tmp 45),(.tmp 46)],some (44,true),[]⟩,⟨some 48,.pur (mkO (.unOp .not 4 (.tmp 47)) 4),some (44,true),[]⟩,⟨some 49,.pick (.tmp 44) (.tmp 48) (.const (.bool false)),some (40,false),[]⟩,⟨some 50,.pick (.tmp 40) (.const (.bool true)) (.tmp 49),none,[]⟩,⟨some 51,.mov (.tmp 50),none,[]⟩,⟨some 52,.load 1 false (.tmp 4),some (51,false),[]⟩,⟨some 53,.load 4 true (.tmp 5),some (51,false),[]⟩,⟨some 54,.lookup 31 (.int .i64 0) (.tmp 52) (.tmp 53) false,some (51,false),[]⟩,⟨some 55,.pur (mkO (.binOp .gtr 3 (.tmp 54) (.const (.int .i64 0)) 3) 4),some (51,false),[]⟩,⟨some 56,.pick (.tmp 51) (.const (.bool true)) (.tmp 55),none,[]⟩] false) (.cond (.tmp 56) (.seq (.region [⟨none,.store 1 (.tmp 2) (.const (.bool false)),none,[]⟩] false) .ret) .skip)) (.seq (.region [⟨some 57,.load 1 false (.tmp 4),none,[]⟩,⟨some 58,.load 4 true (.tmp 5),none,[]⟩,⟨none,.mupd 31 (.tmp 57) (.tmp 58) (.const (.int .i64 1)),none,[]⟩] false) (.region [⟨some 59,.load 1 false (.tmp 3),none,[]⟩,⟨some 60,.load 4 true (.tmp 5),none,[]⟩,⟨some 61,.bsl 31 4 (.agg #[(.int .u8 0),(.int .u32 0),(.int .u8 0),(.int .i64 0)]) 1 [(0,4,(.tmp 60))],none,[]⟩,⟨some 62,.app 31 4 24 (.agg #[(.int .u8 0),(.int .u32 0),(.int .u8 0),(.int .i64 0)]) (.tmp 59) (.tmp 61),none,[]⟩,⟨none,.store 1 (.tmp 3) (.tmp 62),none,[]⟩] false))))))))
structure OI (tm:List AV) (pre:List (Eid × Eid)) (O:Nat→Prop) (N:Mem):Prop where
 wf:Wf N
 sz:7≤N.size
 g0:N.get 0=some (.row false [BL false])
 g1:∃ o,N.get 1=some (.row false [o])∧SlP N 4 zC3 o (stk pre).reverse ∧ ∀ j,rowOf o=some j→O j∧7≤j
 g2:∃ obj,N.get 2=some obj∧IsSet idA (I64 1) obj (pre.map (·.1))
 g3:N.get 3=some (.row false [.mp 2])
 g5:N.get 5=some (.dfr false)
 g6:N.get 6=some (.loop .ready none tm [12,13] cO1 cO2 5)
 o1:O 1
 o2:O 2
 o6:O 6
 ol:∀ j,O j→j<N.size∧(j=1∨j=2∨6≤j)
 od:Ord pre
theorem OI.keep {tm:List AV}{pre:List (Eid × Eid)}{O:Nat→Prop}{N N':Mem}(h:OI tm pre O N)(wf:Wf N')(hs:N.size≤N'.size)(k:∀ j,j<N.size→N'.get j=N.get j):OI tm pre O N':=by
 have:=h.sz
 obtain⟨o,h1,h2,h3⟩:=h.g1
 obtain⟨obj,h4,h5⟩:=h.g2
 exact⟨wf,by omega,(k 0 (by omega)).trans h.g0,⟨o,(k 1 (by omega)).trans h1,h2.keep fun j hj=>k j (h2.lt j hj),h3⟩,⟨obj,(k 2 (by omega)).trans h4,h5⟩,(k 3 (by omega)).trans h.g3,(k 5 (by omega)).trans h.g5,(k 6 (by omega)).trans h.g6,h.o1,h.o2,h.o6,fun j hj=>⟨by have:=(h.ol j hj).1;omega,(h.ol j hj).2⟩,h.od⟩
structure OS (tm:List AV) (N:Mem):Prop where
 wf:Wf N
 sz:7≤N.size
 g0:N.get 0=some (.row false [BL false])
 g5:N.get 5=some (.dfr false)
 g6:N.get 6=some (.loop .done (some .ret) tm [12,13] cO1 cO2 5)
theorem zDO:FzT zC3:=fun r x h y hy=>by
 obtain⟨rfl,_⟩:=h
 exact zAU x y hy
theorem zIJ (af:Eid):∀ (s:List Eid) (el:Eid),(popT af s el).2.length≤s.length
 | [],_=>Nat.le_refl _
 | t::s,el=>by
  rw[popT]
  split
  ·exact Nat.le_refl _
  ·exact Nat.le_trans (zIJ af s t) (Nat.le_succ _)
theorem zOH (l:List (Eid × Eid)):(stk l).length≤l.length:=by
 refine zAR (P:=fun l=>(stk l).length≤l.length) (Nat.le_refl _) (fun l x ih=>?_) l
 rw[zBV,List.length_cons,List.length_append]
 have:=zIJ x.2 (stk l) Eid.z
 simp only[List.length_singleton]
 omega
theorem zPB {B:Nat}{tm:List AV}{pre:List (Eid × Eid)}{O:Nat→Prop}{x:Eid × Eid}(h:OI tm pre O M)(h2:nth undefA tm 2 = .ptr 0 0)(h3':nth undefA tm 3 = .ptr 1 0)(h4':nth undefA tm 4 = .ptr 3 0)(hlen:tm.length=63)(hx:x.1.ok)(hn:pre.length≤100000)(hf:pre.length+10<fuel) :
  W3 (callN Tryz.prog (fsT tbl) fuel (d+7) (.yl 6) [idA x.1,idA x.2] M) (fun v N'=>(v=BL true∧Yl (OI tm) (pre++[x]) O B M N')∨(v=BL false∧OS tm N'∧ordS x (stk pre) (pre.map (·.1))=false)):=by
 obtain⟨o,g1,sp,ro⟩:=h.g1
 obtain⟨obj,gm2,hset⟩:=h.g2
 have wf:=h.wf
 have sz:=h.sz
 have hsl:=zOH pre
 have g6:=h.g6
 refine call_ylE g6 rfl ?_
 have e1:setAll tm [12,13] [idA x.1,idA x.2]=St tm [(13,idA x.2),(12,idA x.1)]:=rfl
 rw[e1]
 unfold cO1 cO2
 simp (disch:=try exact SX) only[RV,seval,wf]
 refine⟨tm,[12,13],_,_,5,g6, ?_⟩
 generalize hX:((((((M.add _).upd M.size _).add _).upd (M.size+1) _).upd 6 _).add _)=X
 have wX:Wf X:=by rw[← hX];exact((((((wf.add _).upd _ _).add _).upd _ _).upd _ _).add _)
 have sX:X.size=M.size+1+1+1:=by rw[← hX];rfl
 have gX:∀ j,j<M.size→j≠6→X.get j=M.get j:=fun j a b=>by
  rw[← hX,get_add (((((wf.add _).upd _ _).add _).upd _ _).upd _ _) _ _ (by simp only[upd_size,add_size];omega),get_upd_ne ((((wf.add _).upd _ _).add _).upd _ _) _ _ _ (fun e=>b e.symm),get_upd_ne (((wf.add _).upd _ _).add _) _ _ _ (by omega),get_add ((wf.add _).upd _ _) _ _ (by simp only[upd_size,add_size];omega),get_upd_ne (wf.add _) _ _ _ (by omega),get_add wf _ _ a]
 have x6:X.get 6=some (.loop .busy none tm [12,13] cO1 cO2 5):=by
  rw[← hX,get_add (((((wf.add _).upd _ _).add _).upd _ _).upd _ _) _ _ (by simp only[upd_size,add_size];omega),get_upd_eq ((((wf.add _).upd _ _).add _).upd _ _) _ _ (by simp only[upd_size,add_size];omega)]
 have xa:X.get M.size=some (.row false (idR x.1)):=by
  rw[← hX,get_add (((((wf.add _).upd _ _).add _).upd _ _).upd _ _) _ _ (by simp only[upd_size,add_size];omega),get_upd_ne ((((wf.add _).upd _ _).add _).upd _ _) _ _ _ (by omega),get_upd_ne (((wf.add _).upd _ _).add _) _ _ _ (by omega),get_add ((wf.add _).upd _ _) _ _ (by simp only[upd_size,add_size];omega),get_upd_eq (wf.add _) _ _ (by simp only[add_size];omega)]
 have xb:X.get (M.size+1)=some (.row false (idR x.2)):=by
  rw[← hX,get_add (((((wf.add _).upd _ _).add _).upd _ _).upd _ _) _ _ (by simp only[upd_size,add_size];omega),get_upd_ne ((((wf.add _).upd _ _).add _).upd _ _) _ _ _ (by omega),get_upd_eq (((wf.add _).upd _ _).add _) _ _ (by simp only[upd_size,add_size];omega)]
 have xc:X.get (M.size+1+1)=some (.row false (idR Eid.z)):=by
  rw[← hX]
  exact get_add_new (((((wf.add _).upd _ _).add _).upd _ _).upd _ _) _ _ (by simp only[upd_size,add_size];omega) (by simp only[upd_size,add_size];omega)
 clear hX
 have spX:SlP X 4 zC3 o (stk pre).reverse:=sp.keep fun j hj=>gX j (sp.lt j hj) (by have:=ro j hj;omega)
 refine w_loop (I:=fun n t N => ∃ (i:Nat) (o':AV),n=(stk pre).length - i∧i≤(stk pre).length∧nth undefA t 2 = .ptr 0 0∧nth undefA t 3 = .ptr 1 0∧nth undefA t 4 = .ptr 3 0∧nth undefA t 5 = .ptr M.size 0∧nth undefA t 6 = .ptr (M.size+1) 0∧nth undefA t 7 = .ptr (M.size+1+1) 0∧Wf N∧X.size≤N.size∧(∀ j,j<M.size→j≠1→N.get j=X.get j)∧N.get 1=some (.row false [o'])∧SlP N 4 zC3 o' ((stk pre).drop i).reverse∧rowOf o'=rowOf o∧N.get M.size=some (.row false (idR x.1))∧N.get (M.size+1)=some (.row false (idR x.2))∧N.get (M.size+1+1)=some (.row false (idR (((stk pre).take i).getLast?.getD Eid.z)))∧(∀ t∈(stk pre).take i,t≠x.2)) (n:=(stk pre).length) (by omega) ?_ ?_
 ·refine⟨0,o,rfl,Nat.zero_le _, ?_, ?_, ?_, ?_, ?_, ?_,wX,Nat.le_refl _,(fun _ _ _=>rfl),((gX 1 (by omega) (by omega)).trans g1),(by rw[List.drop_zero];exact spX),rfl,xa,xb,(by rw[List.take_zero];exact xc),(fun t ht=>absurd ht (by simp))⟩ <;> simp (disch:=try exact SX) only[RV,seval,h2,h3',h4']
  all_goals first | rfl | assumption | done
 ·rintro n t N hlt ⟨i,o',rfl,hi,g2,g3,g4,g5,g6,g7,w,le,kk,c1,spN,ro',ca,cb,cc,hm⟩
  simp only[hlen] at hlt ⊢
  have olen:=spN.len
  have oo':=spN.one
  rw[List.length_reverse,List.length_drop] at olen
  have l1:=Mem.get_lt c1
  have la:=Mem.get_lt ca
  have lb:=Mem.get_lt cb
  have lc:=Mem.get_lt cc
  by_cases hc:i<(stk pre).length
  ·have q1:decide ((0:Int)<((stk pre).length - i:Nat))=true:=DT
   have hil:(stk pre).length - i - 1<((stk pre).drop i).reverse.length:=by rw[List.length_reverse,List.length_drop];omega
   obtain⟨rid,cs,r,hrow,lrid,hgr,hiad,hr,hrl,hpt⟩:=spN.at hil
   have w1:IntKind.i64.wrap (((stk pre).length - i:Nat) - 1)=((stk pre).length - i - 1:Nat):=WI
   obtain⟨oc,hslc,spc,roc⟩:=spN.cut (by omega) (n:=(stk pre).length - i - 1) (by omega)
   have hel:((stk pre).drop i).reverse[(stk pre).length - i - 1]=(stk pre)[i]:=by
    rw[List.getElem_reverse,List.getElem_drop]
    congr 1
    rw[List.length_drop];omega
   rw[hel] at hr
   obtain⟨rfl,hrok⟩:=hr
   simp (disch:=try exact SX) only[RV,seval,g3,g6,olen,q1,w1,c1,hiad,hgr,hpt,cb,↓pIdE,zA0,ETA]
   by_cases hte:(stk pre)[i]=x.2
   ·have q2:decide ((stk pre)[i]=x.2)=true:=decide_eq_true hte
    have hpop:=zEE (el:=Eid.z) (q:=(stk pre).drop i) hm (.inr ⟨(stk pre).drop (i+1),by rw[List.drop_eq_getElem_cons hc,hte]⟩)
    rw[List.take_append_drop] at hpop
    have hne:decide (((((stk pre).length - i:Nat):Int))=0)=false:=DF
    have hqz:decide ((stk pre).drop i=[])=false:=decide_eq_false (fun e=>by have:=congrArg List.length e;rw[List.length_drop] at this;simp at this;omega)
    simp (disch:=try exact SX) only[RV,seval,g3,olen,q2,c1]
    generalize hY:(N.add _).upd N.size _=Y
    have wY:Wf Y:=by rw[← hY];exact(w.add _).upd _ _
    have kY:∀ j,j<N.size→Y.get j=N.get j:=fun j hj=>by
     rw[← hY,get_upd_ne (w.add _) _ _ _ (by omega),get_add w _ _ hj]
    clear hY
    have y0:Y.get 0=some (.row false [BL false]):=(kY 0 (by omega)).trans ((kk 0 (by omega) (by omega)).trans ((gX 0 (by omega) (by omega)).trans h.g0))
    have y1:=(kY 1 (by omega)).trans c1
    have y2:=(kY 2 (by omega)).trans ((kk 2 (by omega) (by omega)).trans ((gX 2 (by omega) (by omega)).trans gm2))
    have y3:=(kY 3 (by omega)).trans ((kk 3 (by omega) (by omega)).trans ((gX 3 (by omega) (by omega)).trans h.g3))
    have y6:=(kY 6 (by omega)).trans ((kk 6 (by omega) (by omega)).trans x6)
    have ya:=(kY _ (by omega)).trans ca
    have yc:=(kY _ (by omega)).trans cc
    have yj:∀ j,j<M.size→j≠1→j≠6→Y.get j=M.get j:=fun j a b c=>(kY j (by omega)).trans ((kk j a b).trans (gX j a c))
    have spY:SlP Y 4 zC3 o' ((stk pre).drop i).reverse:=spN.keep fun j hj=>kY j (spN.lt j hj)
    clear kY kk w c1 ca cb cc spN l1 la lb lc
    have l1:=Mem.get_lt y1
    have la:=Mem.get_lt ya
    have lc:=Mem.get_lt yc
    have l2:=Mem.get_lt y2
    have l3:=Mem.get_lt y3
    have l0:=Mem.get_lt y0
    have hlk:=lk_set zFG (z:=.int .i64 0) y2 hset x.1
    unfold ordS
    rw[hpop]
    simp only[hqz]
    have hql:((stk pre).drop i).length≤pre.length:=by rw[List.length_drop];omega
    generalize (stk pre).drop i=q at *
    generalize ((stk pre).take i).getLast?.getD Eid.z=el at *
    have hls:=fun M=>@zCB fuel (d+4) x.1 el M
    have c2:True:=trivial
    cases c3:decide (el=Eid.z)
    ·cases c4:x.1.less el
     ·rw[c4] at hls
      simp (disch:=try exact SX) only[RV,seval,fillA,g2,g5,g7,hne,y0,ya,yc,wY,↓pIdN,zA5,ETA,c3,hls]
      exact zB02
     ·rw[c4] at hls
      by_cases c5:x.1∈pre.map (·.1)
      ·simp only[c5,if_true] at hlk
       simp (disch:=try exact SX) only[RV,seval,fillA,g2,g4,g5,g7,hne,y0,y3,ya,yc,wY,↓pIdN,zA5,ETA,c3,hls,x_lk,hlk]
       exact zB02
      ·simp only[c5,if_false] at hlk
       simp (disch:=try exact SX) only[RV,seval,fillA,g4,g5,g7,hne,y3,ya,yc,↓pIdN,zA5,ETA,c3,hls,x_lk,hlk,x_mu]
       exact zB01
    ·skip
     by_cases c5:x.1∈pre.map (·.1)
     ·simp only[c5,if_true] at hlk
      simp (disch:=try exact SX) only[RV,seval,fillA,g2,g4,g5,g7,hne,y0,y3,ya,yc,wY,↓pIdN,zA5,ETA,c3,x_lk,hlk]
      exact zB02
     ·simp only[c5,if_false] at hlk
      simp (disch:=try exact SX) only[RV,seval,fillA,g4,g5,g7,hne,y3,ya,yc,↓pIdN,zA5,ETA,c3,x_lk,hlk,x_mu]
      exact zB01
   ·have q2:decide ((stk pre)[i]=x.2)=false:=decide_eq_false hte
    simp (disch:=try exact SX) only[RV,seval,g3,olen,q2,w1,c1]
    refine⟨spN.rows (by omega), ?_⟩
    rw[hslc _ (fun id hid=>by
     have:=spN.lt id hid
     rw[get_upd_ne (w.add _) _ _ _ (by omega),get_add w _ _ this])]
    have oco:=spc.one
    have occ:=spc.cells
    simp (disch:=try exact SX) only[RV,seval,g2,g3,g4,g5,g6,g7,occ,c1,ca,cb,cc,w]
    have ror:=spN.row1 hrow
    have rid7:7≤rid∧rid<M.size:=by
     have e:rowOf o=some rid:=ro' ▸ hrow
     exact⟨(ro rid e).2,sp.lt rid e⟩
    refine⟨?_,hlt,(stk pre).length - (i+1),by omega,i+1,oc,rfl,by omega,by omega,fun j a b=>?_,rfl, ?_,roc.trans ro', ?_, ?_⟩
    ·have e2:¬(M.size+1+1=rid):=by omega
     rw[ror]
     simp [FP.apart,disj,FP.reads,FP.writes,fpOf,e2]
    ·rw[get_upd_ne (((w.add _).upd _ _).upd _ _) _ _ _ (by omega),get_upd_ne ((w.add _).upd _ _) _ _ _ (by omega),get_upd_ne (w.add _) _ _ _ (by omega),get_add w _ _ (by omega)]
     exact kk j a b
    ·have e:((stk pre).drop i).reverse.take ((stk pre).length - i - 1)=((stk pre).drop (i+1)).reverse:=by
      rw[List.take_reverse,List.drop_drop,List.length_drop]
      congr 2
      omega
     rw[← e]
     refine spc.keep fun j hj=>?_
     rw[roc,hrow] at hj
     injection hj with hj
     subst hj
     rw[get_upd_ne (((w.add _).upd _ _).upd _ _) _ _ _ (by omega),get_upd_ne ((w.add _).upd _ _) _ _ _ (by omega),get_upd_ne (w.add _) _ _ _ (by omega),get_add w _ _ (by omega)]
    ·have e:((stk pre).take (i+1)).getLast?.getD Eid.z=(stk pre)[i]:=by
      rw[zAH _ _ hc,List.getLast?_concat];rfl
     rw[e]
    ·intro t ht
     rw[zAH _ _ hc] at ht
     rcases List.mem_append.1 ht with ht | ht
     ·exact hm t ht
     ·rw[List.mem_singleton] at ht;subst ht;exact hte
  ·obtain rfl:i=(stk pre).length:=by omega
   have q1:decide ((0:Int)<((stk pre).length - (stk pre).length:Nat))=false:=DF
   have hne:decide (((((stk pre).length - (stk pre).length:Nat):Int))=0)=true:=DT
   have hqz:decide ((stk pre).drop (stk pre).length=[])=true:=decide_eq_true (List.drop_length)
   have hpop:=zEE (el:=Eid.z) (q:=(stk pre).drop (stk pre).length) hm (.inl List.drop_length)
   rw[List.take_append_drop] at hpop
   simp (disch:=try exact SX) only[RV,seval,g3,olen,q1,c1]
   obtain⟨Y,hY⟩:∃ Y,Y=N:=⟨N,rfl⟩
   rw[← hY]
   have wY:Wf Y:=by rw[hY];exact w
   have kY:∀ j,j<N.size→Y.get j=N.get j:=fun j hj=>by rw[hY]
   clear hY
   have y0:Y.get 0=some (.row false [BL false]):=(kY 0 (by omega)).trans ((kk 0 (by omega) (by omega)).trans ((gX 0 (by omega) (by omega)).trans h.g0))
   have y1:=(kY 1 (by omega)).trans c1
   have y2:=(kY 2 (by omega)).trans ((kk 2 (by omega) (by omega)).trans ((gX 2 (by omega) (by omega)).trans gm2))
   have y3:=(kY 3 (by omega)).trans ((kk 3 (by omega) (by omega)).trans ((gX 3 (by omega) (by omega)).trans h.g3))
   have y6:=(kY 6 (by omega)).trans ((kk 6 (by omega) (by omega)).trans x6)
   have ya:=(kY _ (by omega)).trans ca
   have yb:=(kY _ (by omega)).trans cb
   have yc:=(kY _ (by omega)).trans cc
   have yj:∀ j,j<M.size→j≠1→j≠6→Y.get j=M.get j:=fun j a b c=>(kY j (by omega)).trans ((kk j a b).trans (gX j a c))
   have spY:SlP Y 4 zC3 o' ((stk pre).drop (stk pre).length).reverse:=spN.keep fun j hj=>kY j (spN.lt j hj)
   clear kY kk w c1 ca cb cc spN l1 la lb lc
   have l1:=Mem.get_lt y1
   have la:=Mem.get_lt ya
   have lb:=Mem.get_lt yb
   have lc:=Mem.get_lt yc
   have l2:=Mem.get_lt y2
   have l3:=Mem.get_lt y3
   have l0:=Mem.get_lt y0
   have hlk:=lk_set zFG (z:=.int .i64 0) y2 hset x.1
   unfold ordS
   rw[hpop]
   simp only[hqz]
   have hql:((stk pre).drop (stk pre).length).length≤pre.length:=by rw[List.length_drop];omega
   generalize (stk pre).drop (stk pre).length=q at *
   generalize ((stk pre).take (stk pre).length).getLast?.getD Eid.z=el at *
   have hls:=fun M=>@zCB fuel (d+4) x.1 el M
   cases c2:decide (x.2=Eid.z)
   ·simp (disch:=try exact SX) only[RV,seval,fillA,g2,g6,hne,y0,yb,wY,↓pIdN,zA5,ETA,c2]
    exact zB02
   ·skip
    cases c3:decide (el=Eid.z)
    ·cases c4:x.1.less el
     ·rw[c4] at hls
      simp (disch:=try exact SX) only[RV,seval,fillA,g2,g5,g6,g7,hne,y0,ya,yb,yc,wY,↓pIdN,zA5,ETA,c2,c3,hls]
      exact zB02
     ·rw[c4] at hls
      by_cases c5:x.1∈pre.map (·.1)
      ·simp only[c5,if_true] at hlk
       simp (disch:=try exact SX) only[RV,seval,fillA,g2,g4,g5,g6,g7,hne,y0,y3,ya,yb,yc,wY,↓pIdN,zA5,ETA,c2,c3,hls,x_lk,hlk]
       exact zB02
      ·simp only[c5,if_false] at hlk
       simp (disch:=try exact SX) only[RV,seval,fillA,g4,g5,g6,g7,hne,y3,ya,yb,yc,↓pIdN,zA5,ETA,c2,c3,hls,x_lk,hlk,x_mu]
       exact zB01
    ·skip
     by_cases c5:x.1∈pre.map (·.1)
     ·simp only[c5,if_true] at hlk
      simp (disch:=try exact SX) only[RV,seval,fillA,g2,g4,g5,g6,g7,hne,y0,y3,ya,yb,yc,wY,↓pIdN,zA5,ETA,c2,c3,x_lk,hlk]
      exact zB02
     ·simp only[c5,if_false] at hlk
      simp (disch:=try exact SX) only[RV,seval,fillA,g4,g5,g6,g7,hne,y3,ya,yb,yc,↓pIdN,zA5,ETA,c2,c3,x_lk,hlk,x_mu]
      exact zB01
theorem zJ0 {a:AV}{l:List Rn}(hS:Sl 10 isRn a l)(wf:Wf M)(k:Q (.fn 169 [] [.ptr M.size 0]) (M.add (.row false [a]))) :
  W3 (zCN fuel (d+1) 157 [a] M) Q:=by
 refine call_0 tf157 rfl (by simp [a157]) fun b' ht hx=>?_
 have h0:=hx 0 _ rfl
 clear hx
 simp only[a157,c157] at ht ⊢
 simp (disch:=try exact SX) only[RV,seval,h0,hS.fz.cells]
 exact k
theorem zPH {a:AV}{l:List Rn}(hS:Sl 10 isRn a l):∀ r∈l,r.ok:=by
 intro r hr
 obtain⟨i,hi,rfl⟩:=List.getElem_of_mem hr
 obtain⟨_,_,⟨_,_,_,hok⟩,_⟩:=hS.iad i hi
 exact hok
theorem zOV {l:List Rn}(h:∀ r∈l,r.ok)(hm:∀ r∈l,r.may=true):∀ x∈elsL l,x.1.ok:=by
 intro x hx
 obtain⟨r,hr,hx⟩:=List.mem_flatMap.1 hx
 obtain⟨i,hi,rfl⟩:=List.mem_map.1 hx
 rw[List.mem_range] at hi
 have hb:=Spn.may_le (Rn.may_sp (hm r hr))
 have hk:=h r hr
 refine⟨hk.1.1.1, ?_⟩
 simp only[Spn.at,i64R]
 omega
theorem zJ2 {l:List Rn}(hm:∀ r∈l,r.may=true):(elsL l).length≤64*l.length:=by
 have:=zC1 hm
 have e:=zBP hm
 rw[← zFQ]
 unfold prs
 rw[List.length_map]
 omega
theorem zNX {X:Mem}{tm:List AV}{a:AV}{l:List Rn}(hS:Sl 10 isRn a l)(hl:l.length≤1000)(hm:∀ r∈l,r.may=true)(hf:64*l.length+1000<fuel)(w:Wf X)(h2:nth undefA tm 2 = .ptr 0 0)(h3:nth undefA tm 3 = .ptr 1 0)(h4:nth undefA tm 4 = .ptr 3 0)(hlen:tm.length=63)(hX:X.size=5)(g0:X.get 0=some (.row false [BL false]))(g1:X.get 1=some (.row false [NIL]))(g2:X.get 2=some (.map [] 0))(g3:X.get 3=some (.row false [.mp 2]))(g4:X.get 4=some (.row false [a]))
  (kt:Ord (elsL l) → ∀ u O N,OI tm (elsL l) O N→Q u N) (ks:¬Ord (elsL l) → ∀ u N,OS tm N→Q u N) :
  W3 (zCN fuel (d+8) 169 ([]++[.yl (X.size+1)]++[.ptr 4 0]) ((X.add (.dfr false)).add (.loop .ready none tm [12,13] cO1 cO2 X.size))) Q:=by
 have w1:=w.add (.dfr false)
 have hel:=zJ2 hm
 have heo:=zOV (zPH hS) hm
 have e:X.size+1=6:=by omega
 have u:∀ j,j<5→((X.add (.dfr false)).add (.loop .ready none tm [12,13] cO1 cO2 X.size)).get j=X.get j:=fun j hj=>by
  rw[get_add w1 _ _ (by rw[add_size];omega),get_add w _ _ (by omega)]
 have hJ0:OI tm [] (fun j=>j=1∨j=2∨j=6) ((X.add (.dfr false)).add (.loop .ready none tm [12,13] cO1 cO2 X.size)):=by
  refine⟨w1.add _,by simp only[add_size];omega,(u 0 (by omega)).trans g0,⟨NIL,(u 1 (by omega)).trans g1,SlP.nil,fun j hj=>by cases hj⟩,⟨_,(u 2 (by omega)).trans g2,IsSet.nil _ _⟩,(u 3 (by omega)).trans g3, ?_, ?_,.inl rfl,.inr (.inl rfl),.inr (.inr rfl), ?_,Ord.nil⟩
  ·rw[get_add w1 _ _ (by rw[add_size];omega),← hX]
   exact get_add_new w _ _ (Nat.le_refl _) (Nat.lt_succ_self _)
  ·have:=get_add_new w1 (.loop .ready none tm [12,13] cO1 cO2 X.size) 6 (by rw[add_size];omega) (by rw[add_size];omega)
   rw[hX] at this ⊢
   exact this
  ·intro j hj
   simp only[add_size]
   rcases hj with rfl | rfl | rfl <;> omega
 have key:=zLZ (d:=d) (fuel:=fuel) (Q:=Q) (J:=OI tm) (S:=fun N=>OS tm N ∧ ¬Ord (elsL l)) (id:=6) (p:=4) hS (by omega) hm (by omega) (w1.add _) ((u 4 (by omega)).trans g4) hJ0 (fun pre O N N' h wf le k=>h.keep wf le k) (fun pre O N h j hj=>(h.ol j hj).1) (fun pre x post O N he h wf le=>?_) (fun u N O h _ _=>kt h.od u O N h) (fun u N h=>ks h.2 u N h.1)
 ·rw[← e] at key
  exact key
 ·have hxm:x∈elsL l:=by rw[he];simp
  have hpl:pre.length≤(elsL l).length:=by rw[he];simp
  obtain⟨v,N',hc,hv⟩:=zPB (fuel:=fuel) (d:=d) (B:=((X.add (.dfr false)).add (.loop .ready none tm [12,13] cO1 cO2 X.size)).size) h h2 h3 h4 hlen (heo x hxm) (by omega) (by omega)
  refine⟨v,N',hc, ?_⟩
  rcases hv with⟨rfl,hv⟩ | ⟨rfl,hv,ho⟩
  ·exact .inl ⟨rfl,hv⟩
  ·refine .inr ⟨rfl,hv,fun k=>?_⟩
   rw[k pre x post he] at ho
   cases ho
open Classical in
theorem zHC {a:AV}{l:List Rn}(hS:Sl 10 isRn a l)(hl:l.length≤1000)(hm:∀ r∈l,r.may=true)(hf:64*l.length+1000<fuel)(M:Mem):zCN fuel (d+9) 132 [a] M=some (BL (decide (Ord (elsL l))),M):=by
 apply w3_eq
 refine call_gc tf132 rfl (by simp only[icyL,fun M=>hS.icy M 12 (by omega)]) (by simp [a132]) fun b' ht hx=>?_
 have h0:=hx 0 _ rfl
 clear hx
 simp only[a132,c132] at ht ⊢
 have cm:cellsA (.mp 2)=[.mp 2]:=rfl
 have om:oneA (.mp 2)=true:=rfl
 have sm:scs (.map none)=[.sc (.map none)]:=rfl
 simp (disch:=try exact SX) only[RV,seval,h0,x_mkmap,cm,sm]
 refine zJ0 hS (by simp (disch:=try exact SX) only[RV]) ?_
 simp (disch:=try exact SX) only[RV,seval]
 refine w_rangeE (g:=169) (first:=[]) (cap:=[.ptr 4 0]) (by simp (disch:=try exact SX) only[RV]) (by simp (disch:=try exact SX) only[RV,seval]) ?_
 refine zNX (d:=d) hS hl hm hf ?_ ?_ ?_ ?_ ?_ ?_ ?_ ?_ ?_ ?_ ?_ (fun ho u O N h=>?_) (fun ho u N h=>?_)
 ·exact zB05
 ·exact zB0c
 ·exact zB0c
 ·exact zB0c
 ·rw[St_len];exact ht
 ·exact zB0c
 ·exact zB05
 ·exact zB05
 ·exact zB05
 ·exact zB05
 ·exact zB05
 ·have wf:=h.wf
  have sz:=h.sz
  refine⟨wf,by simp only[add_size,upd_size,mem0_size];omega,_,_,_,_,_,_,_,.inl rfl,h.g6, ?_⟩
  generalize hX:N.upd _ _=X
  have wX:Wf X:=by rw[← hX];exact wf.upd _ _
  have sX:X.size=N.size:=by rw[← hX];rfl
  have gX:∀ j,j≠6→X.get j=N.get j:=fun j hj=>by rw[← hX];exact get_upd_ne wf _ _ _ (fun e=>hj e.symm)
  have x0:=(gX 0 (by omega)).trans h.g0
  have x5:=(gX 5 (by omega)).trans h.g5
  have hd:decide (Ord (elsL l))=true:=decide_eq_true ho
  rw[hd]
  simp (disch:=try exact SX) only[RV,seval,x0,Option.getD_none]
  refine fin_mark (by simp (disch:=try exact SX) only[RV,wX]) (by simp (disch:=try exact SX) only[RV,x5]) ?_
  exact zB0c
 ·have wf:=h.wf
  have sz:=h.sz
  refine⟨wf,by simp only[add_size,upd_size,mem0_size];omega,_,_,_,_,_,_,_,.inr rfl,h.g6, ?_⟩
  generalize hX:N.upd _ _=X
  have wX:Wf X:=by rw[← hX];exact wf.upd _ _
  have gX:∀ j,j≠6→X.get j=N.get j:=fun j hj=>by rw[← hX];exact get_upd_ne wf _ _ _ (fun e=>hj e.symm)
  have x0:=(gX 0 (by omega)).trans h.g0
  have x5:=(gX 5 (by omega)).trans h.g5
  have hd:decide (Ord (elsL l))=false:=decide_eq_false ho
  rw[hd]
  simp (disch:=try exact SX) only[RV,seval,Option.getD_some]
  refine fin_mark (by simp (disch:=try exact SX) only[wX]) (by simp (disch:=try exact SX) only[x5]) ?_
  simp (disch:=try exact SX) only[RV,seval,x0]
theorem zIV {o:Rn}{ra:AV}(hR:Sl 1 zA3 ra o.rs)(hf:100<fuel)(M:Mem):zCN fuel (d+7) 131 [.agg (rnR o ra)] M=some (BL (!o.may),M):=by
 have hck:=fun M=>@zAP fuel d o ra hR hf M
 apply w3_eq
 refine call_gc tf131 rfl (by simp only[icyL,zAT hR.fz]) (by simp [a131]) fun b' ht hx=>?_
 have h0:=hx 0 _ rfl
 clear hx
 simp only[a131,c131] at ht ⊢
 cases hm:o.may <;> rw[hm] at hck <;> simp (disch:=try exact SX) only[RV,seval,h0,hck,zA4,zAC]
open Classical in
noncomputable def zCF (l:List Rn):Bool:=decide (zBG l)
open Classical in
theorem zOI {l:List Rn}(h:zBG l):zCF l=true:=by unfold zCF;exact decide_eq_true h
open Classical in
theorem zFZ {l:List Rn}(h:¬zBG l):zCF l=false:=by unfold zCF;exact decide_eq_false h
open Classical in
theorem zGW {l:List Rn}:zCF l=true↔zBG l:=by unfold zCF;exact⟨of_decide_eq_true,fun h=>decide_eq_true h⟩
theorem zCG {l:List Rn}(h:∀ r∈l,r.may=true):∀ r∈l,r.rs.length≤64:=fun r hr=>((Rn.may_iff.1 (h r hr)).2.2.2.1)
theorem zJZ {a:AV}{l:List Rn}(hS:Sl 10 isRn a l)(hl:l.length≤1000)(hf:64*l.length+3001000<fuel)(M:Mem):zCN fuel (d+10) 89 [a] M=some (I64 (err (zCF l)),M):=by
 have hh:=fun M=>has_g10 (P:=Tryz.prog) (fs:=fsT tbl) (fuel:=fuel) (l:=l) (ag:=true) (n:=d+7) tf130 tf156 (fun h=>by cases h) zB7 hS (by omega) (by omega) (fz_fn0 131) (p:=fun x => !x.may) (fun r x hr _ M=>by
  obtain⟨ra,rfl,hra,_⟩:=hr
  exact @zIV fuel d x ra hra (by omega) M) M
 rw[zJU] at hh
 apply w3_eq
 refine call_gc tf89 rfl (by simp only[icyL,fun M=>hS.icy M 12 (by omega)]) (by simp [a89]) fun b' ht hx=>?_
 have h0:=hx 0 _ rfl
 clear hx
 simp only[a89,c89] at ht ⊢
 cases hb:l.all Rn.may with
 | false =>
  rw[hb] at hh
  have hno:zCF l=false:=zFZ fun k=>by
   rw[List.all_eq_true.2 k.1] at hb;cases hb
  rw[hno]
  simp (disch:=try exact SX) only[RV,seval,h0,hh,zAC]
 | true =>
  rw[hb] at hh
  have hm:∀ r∈l,r.may=true:=List.all_eq_true.1 hb
  have hrs:=zCG hm
  have hct:=fun M=>@zE1 fuel (d+8) a l hS hm (by omega) (by omega) M
  have hord:=fun M=>@zHC fuel d a l hS hl hm (by omega) M
  obtain⟨r,hr,hlong⟩:=zCZ (fuel:=fuel) (d:=d) hS (by omega) (fun r hr=>by have:=hrs r hr;omega) (by omega)
  have hmL:=(zAV hm).2
  have hrsL:=zCG hmL
  have hlenL:(zAJ l).length≤64000:=by
   have e1:=zBP hmL
   have e2:=zC1 hm
   have e3:=zBP hm
   rw[(zAV hm).1,(zBA _).1] at e1
   have:(zAJ l).length≤(zA7 (zAJ l)):=by
    rw[(zAV hm).1]
    have hh:=(zBA (elsR l)).2
    generalize zB9 (elsR l)=C at *
    clear e1
    induction C with
    | nil=>simp [zA7]
    | cons q C ih =>
     have:=ih (fun q hq=>hh q (List.mem_cons_of_mem _ hq))
     have:=(hh q List.mem_cons_self).1
     simp only[zA7,List.length_cons]
     omega
   rw[(zAV hm).1] at this ⊢
   omega
  have hsame:=fun M=>@zLI fuel (d+5) r a (zAJ l) l hr hS (by omega) (fun e he=>⟨by have:=hrsL e he;omega,by have:=hrsL e he;omega⟩) (by omega) M
  have or:=hr.one
  by_cases h1:zA7 l≤8192
  ·have q1:decide (8192<zA7 l)=false:=DF
   by_cases h2:Ord (elsL l)
   ·have ho:=@decide_eq_true _ (Classical.propDecidable (Ord (elsL l))) h2
    rw[ho] at hord
    by_cases h3:zAJ l=l
    ·have hyes:zCF l=true:=zOI ⟨hm,h1,h2,h3⟩
     have hs:zFX (zAJ l) l=true:=zGT.2 h3
     rw[hs] at hsame
     rw[hyes]
     simp (disch:=try exact SX) only[RV,seval,h0,hh,hct,q1,hord,hlong,hsame,zA4]
    ·have hno:zCF l=false:=zFZ fun k=>h3 k.2.2.2
     have hs:zFX (zAJ l) l=false:=by
      cases hq:zFX (zAJ l) l with
      | false=>rfl
      | true=>exact absurd (zGT.1 hq) h3
     rw[hs] at hsame
     rw[hno]
     simp (disch:=try exact SX) only[RV,seval,h0,hh,hct,q1,hord,hlong,hsame,zAC]
   ·have ho:=@decide_eq_false _ (Classical.propDecidable (Ord (elsL l))) h2
    rw[ho] at hord
    have hno:zCF l=false:=zFZ fun k=>h2 k.2.2.1
    rw[hno]
    simp (disch:=try exact SX) only[RV,seval,h0,hh,hct,q1,hord,zAC]
  ·have q1:decide (8192<zA7 l)=true:=DT
   have hno:zCF l=false:=zFZ fun k=>h1 k.2.1
   rw[hno]
   simp (disch:=try exact SX) only[RV,seval,h0,hh,hct,q1,zAC]
abbrev zRn:Value:=.agg #[.int .u8 0,.int .u32 0,.int .u8 0,.int .i64 0,.int .i64 0,.int .u8 0,.int .u32 0,.int .u8 0,.int .i64 0,.slice none 0 0]
theorem zOY {n:Nat}(wf:Wf M)(hn:0<n)(hb:n≤1000000)(k:Q (.sl M.size 0 0 none 10) (M.add (.row false (repCells zRn n)))) :
  W3 (zCN fuel (d+1) 162 [NIL,I64 n] M) Q:=by
 have hz:=appz_nil (X:=M) (st:=10) (bytes:=80) (z:=zRn) wf rfl rfl hn (by omega) (by omega) (by omega)
 have e0:decide ((n:Int)<0)=false:=DF
 have e1:decide ((0:Int)<n)=true:=DT
 have w0:IntKind.i64.wrap 0=0:=by decide
 have w1:IntKind.i64.wrap ((n:Int) - 0)=n:=WI
 refine call_0 tf162 rfl (by simp [a162]) fun b' ht hx=>?_
 obtain⟨h0,h1⟩:=hx2 hx
 clear hx
 simp only[a162,c162] at ht ⊢
 have hs:=slc_to0 (M:=M.add (.row false (repCells zRn n))) (st:=10) (n:=n) (get_add_new wf (.row false (repCells zRn n)) M.size (Nat.le_refl _) (Nat.lt_succ_self _))
 simp (disch:=try exact SX) only[RV,seval,h0,h1,e0,e1,w0,w1,x_appz,x_cap,cap_nil,slc_nil0,hz,hs]
 exact k
theorem zK1 {id:Nat}{a0 a1 a2:AV}{l0 l1 l2:List Rn}(wf:Wf M)(hg:M.get id=some (.row false [a0,a1,a2]))(h0':Sl 10 isRn a0 l0)(h1':SlM M 10 isRn a1 l1)(h2':Sl 10 isRn a2 l2)(hn:0<l1.length)(hb0:l0.length≤10000)(hb1:l1.length≤10000)(hb2:l2.length≤10000)(hf:100<fuel)(hw:M.wm≤M.size)
  (k:∀ o N,SlM N 10 isRn o (l0++l1++l2)→Kept M N→(∀ j,rowOf o=some j→M.size≤j)→oneA o=true→cellsA o=[o]→((rowsOf o).all fun i=>Nat.blt i N.size)=true→Q o N) :
  W3 (zCN fuel (d+2) 135 [.sl id 0 3 (some 3) 1] M) Q:=by
 have x0:=h0'.len
 have x1:=h1'.len
 have x2:=h2'.len
 have li:=Mem.get_lt hg
 have c3:((3:Nat):Int)=3:=rfl
 have t0:natOf (I64 0)=some 0:=rfl
 have t1:natOf (I64 1)=some 1:=rfl
 have t2:natOf (I64 2)=some 2:=rfl
 have v1:IntKind.i64.wrap 1=1:=by decide
 have v2:IntKind.i64.wrap 2=2:=by decide
 have v3:IntKind.i64.wrap 3=3:=by decide
 have w0:IntKind.i64.wrap (0+(l0.length:Int))=(l0.length:Nat):=WI
 have w1:IntKind.i64.wrap ((l0.length:Int)+(l1.length:Int))=((l0.length+l1.length:Nat):Int):=WI
 have w2:IntKind.i64.wrap (((l0.length+l1.length:Nat):Int)+(l2.length:Int))=((l0.length+l1.length+l2.length:Nat):Int):=WI
 have n0:decide (((l0.length:Nat):Int)<0)=false:=DF
 have n1:decide (((l0.length+l1.length:Nat):Int)<0)=false:=DF
 have n2:decide (((l0.length+l1.length+l2.length:Nat):Int)<0)=false:=DF
 refine call_0 tf135 rfl (by simp [a135]) fun b' ht hx=>?_
 have h0:=hx 0 _ rfl
 clear hx
 simp only[a135,c135] at ht ⊢
 simp (disch:=try exact SX) only[RV,seval,h0]
 refine w_un (by omega) ?_
 simp (disch:=try exact SX) only[RV,seval,hg,c3,t0,x0,w0,n0,v1,lq_normal]
 refine w_un (by omega) ?_
 simp (disch:=try exact SX) only[RV,seval,hg,t1,x1,w1,n1,v2,lq_normal]
 refine w_un (by omega) ?_
 simp (disch:=try exact SX) only[RV,seval,hg,t2,x2,w2,n2,v3,lq_normal]
 refine w_un (by omega) ?_
 simp (disch:=try exact SX) only[RV,seval,lq_exit]
 refine zOY (d:=d) (n:=l0.length+l1.length+l2.length) wf (by omega) (by omega) ?_
 have sq0:=SlQ.fresh (X:=M) (st:=10) (T:=isRn) (n:=l0.length+l1.length+l2.length) (z:=zRn) wf rfl
 have wX:=wf.add (.row false (repCells zRn (l0.length+l1.length+l2.length)))
 have kX:∀ j,j<M.size→(M.add (.row false (repCells zRn (l0.length+l1.length+l2.length)))).get j=M.get j:=fun j hj=>get_add wf _ _ hj
 have sX:(M.add (.row false (repCells zRn (l0.length+l1.length+l2.length)))).size=M.size+1:=rfl
 have dX:(M.add (.row false (repCells zRn (l0.length+l1.length+l2.length)))).dirty=M.dirty:=rfl
 have vX:(M.add (.row false (repCells zRn (l0.length+l1.length+l2.length)))).wm=M.wm:=rfl
 generalize (M.add (.row false (repCells zRn (l0.length+l1.length+l2.length))))=X at *
 have gX:=(kX id li).trans hg
 simp (disch:=try exact SX) only[RV,seval,h0,c3]
 refine w_un (by omega) ?_
 simp (disch:=try exact SX) only[RV,seval,gX,t0,h0'.fz.rows]
 obtain⟨r0,y0,z0,A0,R0⟩:=h0'.cells2 X
 refine SlQ.app (bytes:=80) wX sq0 y0 z0 A0 R0 zB7.cel (by omega) (by simp;omega) (by simp;omega) fun o' Y sq1 wY sY kY rY wmY diY=>?_
 have rl1:=sq1.rl (Nat.le_refl _)
 have ro1:∀ j,rowOf o'=some j→j=M.size:=fun j hj=>by rw[rY] at hj;cases hj;rfl
 have gY:Y.get id=some (.row false [a0,a1,a2]):=(kY id (fun e=>by cases e;omega)).trans gX
 have mY:∀ j,j<M.size→Y.get j=M.get j:=fun j hj=>(kY j (fun e=>by cases e;omega)).trans (kX j hj)
 simp (disch:=try exact SX) only[RV,seval,v1,lq_normal]
 refine w_un (by omega) ?_
 have sm1:SlM Y 10 isRn a1 l1:=h1'.keep fun j hj=>mY j (h1'.lt j hj)
 have rla:=rows_lt sm1.rl (Nat.le_refl _)
 simp (disch:=try exact SX) only[RV,seval,gY,t1,rl1,rla]
 obtain⟨r1,y1,z1,A1,R1⟩:=sm1.cells2
 refine SlQ.app (bytes:=80) wY sq1 y1 z1 A1 R1 zB7.cel (by omega) (by simp;omega) (by simp;omega) fun o2' Z sq2 wZ sZ kZ rZ wmZ diZ=>?_
 have rl2:=sq2.rl (Nat.le_refl _)
 have ro2:∀ j,rowOf o2'=some j→j=M.size:=fun j hj=>ro1 j (rZ ▸ hj)
 have gZ:Z.get id=some (.row false [a0,a1,a2]):=(kZ id (fun e=>by have:=ro1 _ e;omega)).trans gY
 have mZ:∀ j,j<M.size→Z.get j=M.get j:=fun j hj=>(kZ j (fun e=>by have:=ro1 _ e;omega)).trans (mY j hj)
 simp (disch:=try exact SX) only[RV,seval,v2,lq_normal]
 refine w_un (by omega) ?_
 simp (disch:=try exact SX) only[RV,seval,gZ,t2,rl2,h2'.fz.rows]
 obtain⟨r2,y2,z2,A2,R2⟩:=h2'.cells2 Z
 refine SlQ.app (bytes:=80) wZ sq2 y2 z2 A2 R2 zB7.cel (by omega) (by simp;omega) (by simp;omega) fun o3' U sq3 wU sU kU rU wmU diU=>?_
 have on3:=sq3.one
 have oc3:=sq3.cells
 have rl3:=sq3.rl (Nat.le_refl _)
 have ro3:∀ j,rowOf o3'=some j→j=M.size:=fun j hj=>ro2 j (rU ▸ hj)
 have mU:∀ j,j<M.size→U.get j=M.get j:=fun j hj=>(kU j (fun e=>by have:=ro2 _ e;omega)).trans (mZ j hj)
 simp (disch:=try exact SX) only[RV,seval,v3,lq_normal]
 refine w_un (by omega) ?_
 simp (disch:=try exact SX) only[RV,seval,lq_exit]
 have e0:l0.length+l1.length+l2.length - l0.length - l1.length - l2.length=0:=by omega
 rw[e0] at sq3
 have d1:=diY (fun j hj=>by cases hj;omega)
 have d2:=diZ (fun j hj=>by have:=ro1 j hj;omega)
 have d3:=diU (fun j hj=>by have:=ro2 j hj;omega)
 exact k o3' U (by have:=sq3.slm;simpa using this) ⟨wU,by omega,mU,by omega,d3.trans (d2.trans (d1.trans dX))⟩ (fun j hj=>by have:=ro3 j hj;omega) on3 oc3 rl3
theorem zGM {a:AV}{l:List Rn}{x:Eid}(hS:Sl 10 isRn a l)(hm:∀ r∈l,r.may=true)(hx:x=Eid.z∨zAB l x≠none)(hl:l.length≤9000)(hf:l.length+100<fuel) :
  ∃ r,Sl 10 isRn r (zA9 l x).1 ∧ ∀ M,zCN fuel (d+8) 92 [a,idA x] M=some (.tup [r,I64 (zA9 l x).2],M):=by
 have hw:=fun M=>@zGZ fuel (d+1) a l x hS (by omega) (by omega) M
 refine gc_ex tf92 rfl (fun M=>by simp only[icyL,fun M=>hS.icy M 12 (by omega),fz_icyA (zAU x) (show 1<12 by omega)]) ?_
 refine call_gc tf92 rfl (by simp only[icyL,fun M=>hS.icy M 12 (by omega),fz_icyA (zAU x) (show 1<12 by omega)]) (by simp [a92]) fun b' ht hx=>?_
 obtain⟨h0,h1⟩:=hx2 hx
 clear hx
 simp only[a92,c92] at ht ⊢
 by_cases hz:x=Eid.z
 ·have q:decide (x=Eid.z)=true:=decide_eq_true hz
  have hpl:zA9 l x=(l,0):=by unfold zA9;rw[if_pos hz]
  rw[hpl]
  simp (disch:=try exact SX) only[RV,seval,fillA,h0,h1,hS.fz.frz,↓pIdE,zA0,ETA,q]
  exact⟨_,hS,rfl⟩
 ·have q:decide (x=Eid.z)=false:=decide_eq_false hz
  rcases hx with hx | hx
  ·exact absurd hx hz
  cases hwl:zAB l x with
  | none=>exact absurd hwl hx
  | some p =>
   obtain⟨n,k⟩:=p
   obtain⟨L1,o,L2,hle,hln,h1',h2',h3',h4'⟩:=zDC hwl
   rw[hwl] at hw
   simp only[wN,wK] at hw
   have hnl:n<l.length:=by rw[hle,List.length_append,List.length_cons];omega
   obtain⟨r,hiad,hr,hrl⟩:=hS.iad n hnl
   have hgo:l.getD n Rn.z=l[n]:=by rw[List.getD_eq_getElem?_getD,List.getElem?_eq_getElem hnl];rfl
   have hpl:zA9 l x=if (l.getD n Rn.z).cutE (k+1)=0 then (l.take n++[(l.getD n Rn.z).fst (k+1),(l.getD n Rn.z).snd (k+1)]++l.drop (n+1),n+1) else (l,n+1):=by unfold zA9;rw[if_neg hz];simp only[hwl]
   rw[hpl,hgo]
   clear hpl
   have hom:=hm l[n] (List.getElem_mem hnl)
   have hro:=zPH hS l[n] (List.getElem_mem hnl)
   have hon:o=l[n]:=by simp [hle,← hln]
   have hln':=hon ▸ h3'
   generalize l[n]=e at *
   obtain⟨ra,rfl,hra,_⟩:=hr
   have hb:=Spn.may_le (Rn.may_sp hom)
   have w1:IntKind.i64.wrap (k+1)=k+1:=WI
   have w2:IntKind.i64.wrap ((n:Int)+1)=((n+1:Nat):Int):=WI
   obtain⟨v,⟨ca,cb,rfl,hca,hcb⟩,hcut⟩:=zDB (fuel:=fuel) (d:=d) (n:=k+1) hra (by omega)
   have oca:=hca.one
   have ocb:=hcb.one
   by_cases hc:e.cutE (k+1)=0
   ·have q2:decide (e.cutE (k+1)=0)=true:=decide_eq_true hc
    rw[if_pos hc]
    obtain⟨r1,s1,b1⟩:=sl_to hS (j:=n) (by omega)
    obtain⟨r2,s2,b2⟩:=sl_from hS (i:=n+1) (by omega)
    have ob1:=b1.one
    have ob2:=b2.one
    have eA:e.cutA (k+1)=e.fst (k+1):=by unfold Rn.cutA;rw[if_pos hc]
    have eB:e.cutB (k+1)=e.snd (k+1):=by unfold Rn.cutB;rw[if_pos hc]
    have okA:=zN7 hro hc
    have okB:=zNR hro hc
    rw[eA] at hca hcut
    rw[eB] at hcb hcut
    generalize e.fst (k+1)=eF at *
    generalize e.snd (k+1)=eS at *
    simp (disch:=try exact SX) only[RV,seval,fillA,h0,h1,hS.fz.rows,↓pIdE,zA0,ETA,q,hw,hiad,w1,w2,hcut,q2,s1,s2,b1.fz.cells,b2.fz.cells,apart2_pu]
    refine zK1 (d:=d+5) (id:=4) (a0:=r1) (a1:=.sl 3 0 2 (some 2) 10) (a2:=r2) (l1:=[eF,eS]) (by simp (disch:=try exact SX) only[RV]) ?_ b1 (slm_lit (zI3 hca hcb okA okB) (by simp) rfl (.inr rfl) ?_) b2 (by simp) (by rw[List.length_take];omega) (by simp) (by rw[List.length_drop];omega) (by omega) (Nat.le_refl _) fun o' N sm kN nr on oc rl=>?_
    ·exact zB05
    ·simp (disch:=try exact SX) only[RV]
     rfl
    ·have dN:N.dirty=false:=kN.di
     simp (disch:=try exact SX) only[RV,seval,dN]
     obtain⟨ro,hro2,hfr⟩:=slm_frz2 sm zB7.cel 12 (by omega)
     rw[hfr _ (fun id h=>by simp (disch:=try exact SX) only[RV])]
     exact⟨ro,hro2,by rw[w2] <;> rfl⟩
   ·have q2:decide (e.cutE (k+1)=0)=false:=decide_eq_false hc
    rw[if_neg hc]
    simp (disch:=try exact SX) only[RV,seval,fillA,h0,h1,hS.fz.frz,↓pIdE,zA0,ETA,q,hw,hiad,w1,w2,hcut,q2]
    exact⟨_,hS,rfl⟩
theorem zI2 {X:Mem}{o:AV}{r:List AV}{x:Rn}(wf:Wf X)(h:SlN X 10 isRn o [])(hx:isRn r x)(hr:r.length=10)
  (k:∀ o' M',SlM M' 10 isRn o' [x]→Wf M'→X.size≤M'.size→(∀ j,j<X.size→rowOf o≠some j→M'.get j=X.get j)→(∀ id,rowOf o'=some id→rowOf o=some id∨X.size≤id)→M'.wm=X.wm→Q o' M') :
  W3 (zCN fuel (d+1) 95 [o,I64 0,.sl X.size 0 1 (some 1) 10] (X.add (.row false r))) Q:=by
 have sm:=h.slm
 have oo:=sm.one
 have ol:=sm.len
 have ge:∀ N,lenO N (.sl X.size 0 1 (some 1) 10)=some (I64 1,N):=fun _=>rfl
 have hs:∀ N,(∀ j,rowOf o=some j→N.get j=X.get j) → ∃ v,slcO N 10 o (some (I64 0)) none none=some (v,N)∧oneA v=true:=fun N hN=>by
  rcases h with⟨_,rfl | ⟨id,rfl,hg⟩⟩ | ⟨hn,_⟩
  ·exact⟨_,rfl,rfl⟩
  ·exact⟨_,rfl,rfl⟩
  ·exact absurd rfl hn
 obtain⟨v,hsv,ov⟩:=hs (X.add (.row false r)) (fun j hj=>get_add wf _ _ (sm.lt j hj))
 refine call_0 tf95 rfl (by simp [a95]) fun b' ht hx=>?_
 obtain⟨h0,h1,h2⟩:=hx3 hx
 clear hx
 simp only[a95,c95] at ht ⊢
 have ol0:∀ N,lenO N o=some (I64 0,N):=ol
 have rlo:=rows_lt sm.rl (show X.size≤X.size+1 by omega)
 simp (disch:=try exact SX) only[RV,seval,h0,h1,h2,ol0,hsv,ge,rlo]
 refine app1 wf sm zB7 (x:=x) hx hr (by omega) (by simp) (by simp) fun o' M' sm' w' le' kp nw wm' rl on oc=>?_
 simp (disch:=try exact SX) only[RV,seval]
 exact k o' M' sm' w' le' kp nw wm'
theorem zIB {l:List Rn}{r:Rn}{n:Nat}(D:List Rn)(h:D=(l.drop n).takeWhile fun q=>r.sp.f.less q.sp.f){i:Nat}(hi:i<D.length)(hn:n+i<l.length):r.sp.f.less l[n+i].sp.f=true∧D[i]=l[n+i]:=by
 have h1:D[i]∈(l.drop n).takeWhile fun q=>r.sp.f.less q.sp.f:=by rw[← h];exact List.getElem_mem hi
 have h2:=List.all_eq_true.1 (List.all_takeWhile (l:=l.drop n) (p:=fun q=>r.sp.f.less q.sp.f)) _ h1
 have h3:D[i]=l[n+i]:=by
  have hp:D <+: l.drop n:=by rw[h];exact List.takeWhile_prefix _
  rw[hp.getElem hi,List.getElem_drop]
 rw[← h3]
 exact⟨h2,rfl⟩
theorem zGV {l:List Rn}{x:Eid}{n:Nat}(h:zCE l x n<l.length):x.less l[zCE l x n].sp.f=false:=by
 have hd:((l.drop n).dropWhile fun q=>x.less q.sp.f)=l.drop (zCE l x n):=by
  have e:=List.takeWhile_append_dropWhile (p:=fun q:Rn=>x.less q.sp.f) (l:=l.drop n)
  have e2:=congrArg (List.drop ((l.drop n).takeWhile fun q=>x.less q.sp.f).length) e
  rw[List.drop_left,List.drop_drop] at e2
  exact e2
 have:=List.head?_dropWhile_not (fun q:Rn=>x.less q.sp.f) (l.drop n)
 rw[hd,List.drop_eq_getElem_cons h] at this
 exact this
theorem zLG {l:List Rn}{x:Eid}{n:Nat}(hn:n≤l.length):zCE l x n≤l.length:=by
 unfold zCE
 have:=(List.takeWhile_sublist (l:=l.drop n) (fun q:Rn=>x.less q.sp.f)).length_le
 rw[List.length_drop] at this
 omega
theorem zFP (l:List Rn)(x:Eid):(zA9 l x).1.length≤l.length+2:=by
 unfold zA9
 split
 ·simp
 ·split
  ·simp
  ·split
   ·simp;omega
   ·simp
theorem zKQ (l:List Rn):(zAJ l).length≤l.length:=by
 refine zAR (P:=fun l=>(zAJ l).length≤l.length) (Nat.le_refl _) (fun l r ih=>?_) l
 rw[zGF]
 have:=zHQ (zAJ l) r
 exact zB0P
theorem zMC (l:List Rn)(r:Rn):(insL l r).length≤l.length+3:=by
 unfold insL
 refine Nat.le_trans (zKQ _) ?_
 have:=zFP l r.af
 simp only[List.length_append,List.length_take,List.length_drop,List.length_singleton]
 omega
noncomputable def insR (l:List Rn)(r:Rn):List Rn:=if putE l r=0 then insL l r else []
open Classical in
theorem zJ9 {a ra:AV}{l:List Rn}{x:Rn}(hS:Sl 10 isRn a l)(hR:Sl 1 zA3 ra x.rs)(hx:x.ok)(hl:l.length≤900)(hf:64*l.length+3011000<fuel):∃ r,Sl 10 isRn r (insR l x) ∧ ∀ M,zCN fuel (d+11) 60 [a,.agg (rnR x ra)] M=some (.tup [r,I64 (putE l x)],M):=by
 have hck:=fun M=>@zJZ fuel d a l hS (by omega) (by omega) M
 have hcx:=fun M=>@zAP fuel (d+4) x ra hR (by omega) M
 refine gc_ex tf60 rfl (fun M=>by simp only[icyL,fun M=>hS.icy M 12 (by omega),zAT hR.fz]) ?_
 refine call_gc tf60 rfl (by simp only[icyL,fun M=>hS.icy M 12 (by omega),zAT hR.fz]) (by simp [a60]) fun b' ht hx=>?_
 obtain⟨h0,h1⟩:=hx2 hx
 clear hx
 simp only[a60,c60] at ht ⊢
 have hiE:putE l x=if zCF l=true∧x.may=true then (if x.af≠Eid.z∧zAB l x.af=none then 6 else if ∃ i:Nat,(i:Int)<x.sp.n∧zAB l (x.sp.at i)≠none then 2 else if 8192<zA7 l+x.sp.n then 4 else 0) else 8:=by
  unfold putE
  simp only[zGW]
 by_cases h8:zCF l=true∧x.may=true
 ·rw[if_pos h8] at hiE
  obtain⟨htb,hxm⟩:=h8
  have hok:=zGW.1 htb
  rw[htb] at hck
  rw[hxm] at hcx
  have hwh:=fun y M=>@zGZ fuel (d+4) a l y hS (by omega) (by omega) M
  have hwa:=fun M=>hwh x.af M
  have hb:=Spn.may_le (Rn.may_sp hxm)
  obtain⟨m,hmn⟩:∃ m:Nat,x.sp.n=m:=⟨x.sp.n.toNat,by omega⟩
  have ia:∀ i:Nat,i<m → ∀ M,zCN fuel (d+10) 72 [spA x.sp,I64 i] M=some (.tup [idA (x.sp.at i),I64 0],M):=fun i hi M=>by
   have:=@zE7 fuel (d+5) x.sp i M
   rw[if_pos (Rn.may_sp hxm),if_neg (by omega)] at this
   exact this
  have qn1:decide ((-1:Int)<0)=true:=rfl
  have qg1:decide ((0:Int) ≤ -1)=false:=rfl
  by_cases h6:x.af≠Eid.z∧zAB l x.af=none
  ·have e6:putE l x=6:=by rw[hiE,if_pos h6]
   have er:insR l x=[]:=by unfold insR;rw[e6];rfl
   rw[e6,er]
   have q:decide (x.af=Eid.z)=false:=decide_eq_false h6.1
   rw[h6.2] at hwa
   simp (disch:=try exact SX) only[RV,seval,fillA,h0,h1,hck,hcx,IMX,zA4,pB_max2,BMM,hwa,wN,wK,↓pIdN,zA5,ETA,q]
   exact⟨NIL,.inl ⟨rfl,rfl⟩,rfl⟩
  ·rw[if_neg h6] at hiE
   have hx6:x.af=Eid.z∨zAB l x.af≠none:=by
    by_cases h:x.af=Eid.z
    ·exact .inl h
    ·exact .inr fun k=>h6 ⟨h,k⟩
   have step:∃ b:Bool,(decide ((wN (zAB l x.af))<0)=b)∧(b=true→decide (x.af=Eid.z)=true):=by
    refine⟨_,rfl,fun hb=>?_⟩
    rcases hx6 with h | h
    ·exact decide_eq_true h
    ·cases hw:zAB l x.af with
     | none=>exact absurd hw h
     | some p =>
      have hb:=of_decide_eq_true hb
      rw[hw] at hb
      simp only[wN] at hb
      omega
   obtain⟨b6,hb6,hb6'⟩:=step
   have main:∀ (b6:Bool),decide ((wN (zAB l x.af))<0)=b6→(b6=true→decide (x.af=Eid.z)=true)→True:=fun _ _ _=>trivial
   clear main
   cases b6 with
   | true =>
    have q:=hb6' rfl
    simp (disch:=try exact SX) only[RV,seval,fillA,h0,h1,hck,hcx,IMX,zA4,pB_max2,BMM,hwa,hb6,↓pIdN,zA5,ETA,q]
    exact zB00
   | false =>
    simp (disch:=try exact SX) only[RV,seval,h0,h1,hck,hcx,IMX,zA4,pB_max2,BMM,hwa,hb6]
    exact zB00
 ·have e8:putE l x=8:=by rw[hiE,if_neg h8]
  have er:insR l x=[]:=by unfold insR;rw[e8];rfl
  have hz:imax (err (zCF l)) (err x.may)=8:=by
   cases ma:zCF l <;> cases mb:x.may <;> first | rfl | exact absurd ⟨ma,mb⟩ h8
  rw[e8,er]
  simp (disch:=try exact SX) only[RV,seval,h0,h1,hck,hcx,hz,pB_max2,BMM]
  exact⟨NIL,.inl ⟨rfl,rfl⟩,rfl⟩
theorem zDU (l:List Op):(textOf l).length≤3*l.length:=by
 refine zAR (P:=fun l=>(textOf l).length≤3*l.length) (Nat.le_refl _) (fun l o ih=>?_) l
 rw[zCS]
 unfold stepT
 split
 ·have:=zMC (textOf l) o.rn
  exact zB0P
 ·exact zB0P
def zPL (l:List Op)(r:AV):Prop:=∃ r1,r = .tup [r1,I64 (err (zA1 [] l))]∧Sl 10 isRn r1 (if zA1 [] l=true then textOf l else [])
theorem zPI {o:Op}(h:o.ok):o.rn.ok:=⟨h.2.2.2.1,h.2.2.2.2.1,h.2.2.2.2.2.2⟩
theorem zIQ (hS:Sl 17 isOp a l)(hl:l.length≤200)(hf:3080000<fuel):∃ r,zPL l r ∧ ∀ M,zCN fuel (d+15) 36 [a] M=some (r,M):=by
 have ll:=hS.len
 have hck:=fun M=>zBH (fuel:=fuel) (d:=d) hS (by omega) (by omega) M
 refine gc_ex tf36 rfl (fun M=>by simp only[icyL,fun M=>hS.icy M 12 (by omega)]) ?_
 refine call_gc tf36 rfl (by simp only[icyL,fun M=>hS.icy M 12 (by omega)]) (by simp [a36]) fun b' ht hx=>?_
 have h0:=hx 0 _ rfl
 clear hx
 simp only[a36,c36] at ht ⊢
 unfold zPL
 cases q1:zA1 [] l with
 | false =>
  rw[q1] at hck
  simp (disch:=try exact SX) only[RV,seval,h0,hck,zAC]
  exact zB04
 | true =>
  rw[q1] at hck
  simp only[if_true]
  simp (disch:=try exact SX) only[RV,seval,h0,hck,zA4,ll]
  refine w_loop (I:=fun n t N => ∃ (i:Nat) (r:AV),n=l.length - i∧i≤l.length∧nth undefA t 2=r∧nth undefA t 14=a∧nth undefA t 15=I64 l.length∧nth undefA t 16=I64 i∧Wf N∧Sl 10 isRn r (textOf (l.take i))) (n:=l.length) (by omega) ?_ ?_
  ·refine⟨0,NIL,rfl,Nat.zero_le _, ?_, ?_, ?_, ?_,Wf.mem0,.inl ⟨rfl,rfl⟩⟩ <;> simp (disch:=try exact SX) only[RV,seval]
   all_goals first | rfl | assumption | done
  ·rintro n t N hlt ⟨i,r,rfl,hi,g2,g14,g15,g16,w,hA⟩
   simp only[ht] at hlt ⊢
   by_cases hc:i<l.length
   ·have q3:decide ((i:Int)<l.length)=true:=DT
    have w1:IntKind.i64.wrap ((i:Int)+1)=((i+1:Nat):Int):=WI
    obtain⟨r0,hiad,hr,hrl⟩:=hS.iad i hc
    have hts:=zCS (l.take i) l[i]
    rw[← take_snoc l i hc] at hts
    have htl:=zDU (l.take i)
    rw[List.length_take] at htl
    have hsp:l.take i++l[i]::l.drop (i+1)=l:=by rw[← List.drop_eq_getElem_cons hc,List.take_append_drop]
    have hput:rofE l[i]=0→putE (textOf (l.take i)) l[i].rn=0:=zM9 (m:=l.drop (i+1)) (by rw[hsp];exact q1)
    clear hsp
    generalize l[i]=e at *
    obtain⟨ra,rfl,hra,hok⟩:=hr
    have ora:=hra.one
    obtain⟨rr,hk,hof⟩:=zGS (fuel:=fuel) (d:=d+6) hra hok (by omega)
    by_cases q4:rofE e=0
    ·have q4':decide (rofE e=0)=true:=decide_eq_true q4
     unfold rofK at hk
     rw[if_pos q4] at hk
     obtain⟨rb,rfl,hrb⟩:=hk
     have orb:=hrb.one
     obtain⟨r2,hr2,hins⟩:=zJ9 (fuel:=fuel) (d:=d+3) (x:=e.rn) hA hrb (zPI hok) (by omega) (by omega)
     have or2:=hr2.one
     rw[hput q4] at hins
     unfold insR at hr2
     rw[if_pos (hput q4)] at hr2
     unfold stepT at hts
     rw[if_pos q4] at hts
     simp (disch:=try exact SX) only[RV,seval,g2,g14,g15,g16,q3,hiad,hof,hins,w,w1]
     exact⟨hlt,l.length - (i+1),by omega,i+1,r2,rfl,by omega,rfl,rfl,by rw[hts];exact hr2⟩
    ·have q4':decide (rofE e=0)=false:=decide_eq_false q4
     unfold rofK at hk
     rw[if_neg q4] at hk
     subst hk
     unfold stepT at hts
     rw[if_neg q4] at hts
     unfold rnZ at hof
     simp (disch:=try exact SX) only[RV,seval,g2,g14,g15,g16,q3,hiad,hof,q4',w,w1]
     exact⟨hlt,l.length - (i+1),by omega,i+1,r,rfl,by omega,rfl,rfl,by rw[hts];exact hA⟩
   ·obtain rfl:i=l.length:=by omega
    have q3:decide ((l.length:Int)<l.length)=false:=DF
    rw[List.take_length] at hA
    simp (disch:=try exact SX) only[RV,seval,g2,g15,g16,hA.fz.frz]
    exact⟨_,⟨r,rfl,hA⟩,rfl⟩
theorem zKK (l:List Op)(v:Lb):zE9 (lowL l v) v (zAF (elsR (textOf (lowL l v))))=zAM l v:=by
 unfold zE9 zAF zAM
 rw[List.filter_map,List.map_map]
 rfl
theorem zDV {l:List Op}(h:zA1 [] l=true)(v:Lb):(zAM l v).length≤192*l.length:=by
 have hT:=zAI (zC2 v h)
 have h1:=zDM hT.ok.1
 have h2:=zDU (lowL l v)
 have h3:=zFL l v
 unfold zAM
 rw[List.length_map]
 exact Nat.le_trans (List.length_filter_le _ _) (by omega)
def zN6 (l:List Op)(v:Lb)(r:AV):Prop:=∃ r1,r = .tup [r1,I64 (zBY l v)]∧Sl 5 zBB r1 (if zBY l v=0 then zAM l v else [])
theorem zIH (h:zBY l v=0):zA1 [] l=true∧v.may=true:=by
 unfold zBY err at h
 cases h1:zA1 [] l <;> cases h2:v.may <;> rw[h1,h2] at h <;> first | exact⟨rfl,rfl⟩ | cases h
theorem zG5 (hS:Sl 17 isOp a l)(hl:l.length≤200)(hf:3200000<fuel)(hd:∀ o∈l,o.rs.length≤1000000000):∃ r,zN6 l v r ∧ ∀ M,zCN fuel (d+18) 35 [a,lbA v] M=some (r,M):=by
 obtain⟨ro,⟨r2,rfl,hr2⟩,hon⟩:=zMP (fuel:=fuel) (d:=d+2) (v:=v) hS (by omega) (by omega) hd
 have or2:=hr2.one
 refine gc_ex tf35 rfl (fun M=>by simp only[icyL,fun M=>hS.icy M 12 (by omega),fz_icyA (zA8 v) (show 1<12 by omega)]) ?_
 refine call_gc tf35 rfl (by simp only[icyL,fun M=>hS.icy M 12 (by omega),fz_icyA (zA8 v) (show 1<12 by omega)]) (by simp [a35]) fun b' ht hx=>?_
 obtain⟨h0,h1⟩:=hx2 hx
 clear hx
 simp only[a35,c35] at ht ⊢
 unfold zN6
 by_cases q1:zBY l v=0
 ·rw[if_pos q1] at hr2
  obtain⟨q2,q3⟩:=zIH q1
  have q4:=zC2 v q2
  have hlow:=zFL l v
  obtain⟨rt,⟨r3,rfl,hr3⟩,htx⟩:=zIQ (fuel:=fuel) (d:=d+2) hr2 (by omega) (by omega)
  rw[q4] at htx hr3
  simp only[if_true] at hr3
  have hT:=zAI q4
  have htl:=zDU (lowL l v)
  obtain⟨r4,hr4,hal⟩:=zJT (fuel:=fuel) (d:=d+9) hr3 hT.ok.1 (by omega) (by omega)
  have hel:=zDM hT.ok.1
  rw[q1]
  rw[q1] at hon
  simp (disch:=try exact SX) only[RV,seval,h0,h1,hon,htx,hal,zA4,hr2.fz.cells]
  refine zOG (d:=d) (low:=lowL l v) (v:=v) hr4 (by rw[zBO];omega) hr2 q4 (by omega) (by rw[zBO];omega) ?_ ?_ ?_ ?_ fun o N wN leN kpN smN nwN wmN=>?_
  ·exact zB05
  ·exact Nat.zero_le _
  ·exact zB05
  ·exact zB05
  ·rw[zKK] at smN
   obtain⟨ro,hz,hs⟩:=smN.frz zCJ.cel (k:=12) (by omega)
   simp (disch:=try exact SX) only[RV,seval,hz]
   exact⟨_,⟨ro,rfl,by simpa using hs⟩,rfl⟩
 ·have q1':=decide_eq_false q1
  simp (disch:=try exact SX) only[RV,seval,h0,h1,hon,q1',hr2.fz.cells]
  exact⟨_,⟨NIL,rfl,by rw[if_neg q1];exact .inl ⟨rfl,rfl⟩⟩,rfl⟩
def zEV (l:List Op)(v:Lb)(k:Int):Int:=if zBY l v=0 then (if k<0∨((zAM l v).length:Int)<k then 2 else 0) else zBY l v
def zKN (l:List Op)(v:Lb)(k:Int):Eid:=if zEV l v k=0∧0<k then (((zAM l v)[(k - 1).toNat]?).map (·.id)).getD Eid.z else Eid.z
theorem zMI {k:Int}(hS:Sl 17 isOp a l)(hl:l.length≤200)(hf:3200000<fuel)(hd:∀ o∈l,o.rs.length≤1000000000)(M:Mem):zCN fuel (d+19) 17 [a,lbA v,I64 k] M=some (.tup [idA (zKN l v k),I64 (zEV l v k)],M):=by
 obtain⟨rc,⟨r2,rfl,hr2⟩,hce⟩:=zG5 (fuel:=fuel) (d:=d) (v:=v) hS hl hf hd
 apply w3_eq
 refine call_gc tf17 rfl (by simp only[icyL,fun M=>hS.icy M 12 (by omega),fz_icyA (zA8 v) (show 1<12 by omega),icy12]) (by simp [a17]) fun b' ht hx=>?_
 obtain⟨h0,h1,h2⟩:=hx3 hx
 clear hx
 simp only[a17,c17] at ht ⊢
 unfold zKN zEV
 by_cases q1:zBY l v=0
 ·rw[q1] at hr2 hce
  simp only[if_true] at hr2
  have hvl:=zDV (zIH q1).1 v
  have lr2:=hr2.len
  by_cases q2:k<0
  ·have q2':=decide_eq_true q2
   simp only[q1,if_true,q2,true_or]
   simp (disch:=try exact SX) only[RV,seval,fillA,h0,h1,h2,hce,q2']
   rfl
  ·have q2':=decide_eq_false q2
   by_cases q3:((zAM l v).length:Int)<k
   ·have q3':=decide_eq_true q3
    simp only[q1,if_true,q3,or_true]
    simp (disch:=try exact SX) only[RV,seval,fillA,h0,h1,h2,hce,q2',q3',lr2]
    rfl
   ·have q3':=decide_eq_false q3
    have q4:¬(k<0∨((zAM l v).length:Int)<k):=by omega
    simp only[q1,if_true,q4,if_false,true_and]
    by_cases q5:k=0
    ·subst q5
     simp (disch:=try exact SX) only[RV,seval,fillA,h0,h1,h2,hce,q3',lr2]
    ·have q5':=decide_eq_false q5
     have q6:0<k:=by omega
     obtain⟨m,rfl⟩:∃ m:Nat,k=(m:Int)+1:=⟨(k - 1).toNat,by omega⟩
     have hm:m<(zAM l v).length:=by omega
     have w1:IntKind.i64.wrap ((m:Int)+1 - 1)=(m:Int):=WI
     obtain⟨r,hiad,⟨rfl,hok⟩,hrl⟩:=hr2.iad m hm
     have e:(((zAM l v)[((m:Int)+1 - 1).toNat]?).map (·.id)).getD Eid.z=(zAM l v)[m].id:=by
      rw[show ((m:Int)+1 - 1).toNat=m by omega,List.getElem?_eq_getElem hm]
      rfl
     simp only[q6,if_true,e]
     simp (disch:=try exact SX) only[RV,seval,h0,h1,h2,hce,q2',q3',q5',lr2,w1,hiad]
 ·have q1':=decide_eq_false q1
  simp only[q1,if_false,false_and]
  simp (disch:=try exact SX) only[RV,seval,fillA,h0,h1,hce,q1']
def zP0 (h:Hd)(s n:Int)(af:Eid)(row:List Int):Op:=⟨1,h,s,⟨⟨h,n⟩,row.length⟩,af,Lb.z,row⟩
theorem zK3 {l:List Op}(h:zA1 [] l=true){v:Lb}:∀ x∈elsR (textOf (lowL l v)),x.id.hd.lb.leq v=true∧1≤x.id.c∧x.id.may=true:=by
 intro x hx
 have hT:=zAI (zC2 v h)
 obtain⟨o,ho,hr,hxo⟩:=(hT.mem x).1 hx
 have hm:=zFE hT.ok.1 x hx
 have hmi:=(El.may_iff.1 hm).1
 refine⟨?_,(Eid.may_iff.1 hmi).2.1,hmi⟩
 have hid:x.id∈o.sp.ids:=by rw[← zE2];exact List.mem_map.2 ⟨x,hxo,rfl⟩
 rw[zD8 hid]
 obtain⟨hom,hk,_⟩:=zEO hr
 rw[(zCL hom hk).1]
 exact(List.mem_filter.1 ho).2
theorem zLK {l:List Op}{v:Lb}{c:CellV}(hc:c∈zAM l v):∃ x∈elsR (textOf (lowL l v)),x.id=c.id∧zAY (lowL l v) c.id=false:=by
 unfold zAM at hc
 obtain⟨x,hx,rfl⟩:=List.mem_map.1 hc
 obtain⟨h1,h2⟩:=List.mem_filter.1 hx
 exact⟨x,h1,rfl,by have h2:(!zAY (lowL l v) x.id)=true:=h2;simpa [cellV] using h2⟩
variable {ra : AV} {o : Op}
def addS (out:List Spn)(x:Eid):List Spn :=
 match out.getLast? with
 | none=>out++[⟨x,1⟩]
 | some s=>if (⟨s.f,s.n+1⟩:Spn).has x=some s.n then out.set (out.length - 1) ⟨s.f,s.n+1⟩ else out++[⟨x,1⟩]
def spansOf (c:List Eid):List Spn:=c.foldl addS []
theorem zCC (c:List Eid)(x:Eid):spansOf (c++[x])=addS (spansOf c) x:=by simp [spansOf]
theorem zF8 (x:Eid):addS [] x=[⟨x,1⟩]:=rfl
theorem zDW (o:List Spn)(s:Spn)(x:Eid):addS (o++[s]) x=if (⟨s.f,s.n+1⟩:Spn).has x=some s.n then o++[⟨s.f,s.n+1⟩] else o++[s]++[⟨x,1⟩]:=by
 unfold addS
 rw[List.getLast?_concat]
 simp only[List.length_append,List.length_singleton,Nat.add_sub_cancel]
 simp
theorem zLO (o:List Spn)(x:Eid):(addS o x).length≤o.length+1:=by
 unfold addS
 split
 ·simp
 ·split <;> simp
theorem zER (c:List Eid):(spansOf c).length≤c.length:=by
 refine zAR (P:=fun c=>(spansOf c).length≤c.length) (Nat.le_refl _) (fun c x ih=>?_) c
 rw[zCC,List.length_append,List.length_singleton]
 have:=zLO (spansOf c) x
 omega
theorem zKH (x:Eid):(⟨x,1⟩:Spn).ids=[x]:=by
 show (List.range 1).map (fun (i:Nat)=>(⟨x,1⟩:Spn).at i)=[x]
 simp [Spn.at]
theorem zMB {s:Spn}(h:0≤s.n):(⟨s.f,s.n+1⟩:Spn).ids=s.ids++[s.at s.n]:=by
 unfold Spn.ids
 have e:(s.n+1).toNat=s.n.toNat+1:=by omega
 simp only[e,List.range_succ,List.map_append,List.map_cons,List.map_nil]
 congr 2
 show s.at (s.n.toNat:Int)=s.at s.n
 rw[Int.toNat_of_nonneg h]
theorem zKV {x:Eid}(h:x.may=true):(⟨x,1⟩:Spn).may=true:=by
 have:=(Eid.may_iff.1 h).2
 unfold Spn.may
 rw[h]
 simp only[Bool.true_and,Bool.and_eq_true,decide_eq_true_eq]
 omega
theorem zDT {c:List Eid}(hm:∀ x∈c,x.may=true):(spansOf c).flatMap Spn.ids=c ∧ ∀ s∈spansOf c,s.may=true:=by
 revert hm
 refine zAR (P:=fun c=>(∀ x∈c,x.may=true)→(spansOf c).flatMap Spn.ids=c ∧ ∀ s∈spansOf c,s.may=true) (fun _=>⟨rfl,fun s hs=>absurd hs (by simp [spansOf])⟩) (fun c x ih hm=>?_) c
 obtain⟨h1,h2⟩:=ih fun y hy=>hm y (List.mem_append_left _ hy)
 have hx:=hm x (by simp)
 rw[zCC]
 rcases List.eq_nil_or_concat (spansOf c) with e | ⟨o,s,e⟩
 ·rw[e] at h1 ⊢
  have hc:c=[]:=by simpa using h1.symm
  subst hc
  rw[zF8]
  refine⟨by simp [zKH],fun s hs=>?_⟩
  rw[List.mem_singleton] at hs
  subst hs
  exact zKV hx
 ·rw[e] at h1 h2 ⊢
  rw[List.concat_eq_append] at h1 h2 ⊢
  rw[zDW]
  have hs:=h2 s (by simp)
  have hb:=Spn.may_le hs
  split
  ·rename_i hh
   obtain⟨hsm,_,_,hxe⟩:=zE4.1 hh
   refine⟨?_,fun q hq=>?_⟩
   ·rw[List.flatMap_append] at h1 ⊢
    simp only[List.flatMap_cons,List.flatMap_nil,List.append_nil] at h1 ⊢
    have hxe:x=s.at s.n:=hxe.symm
    rw[zMB (by omega),← List.append_assoc,h1,← hxe]
   ·rcases List.mem_append.1 hq with hq | hq
    ·exact h2 q (List.mem_append_left _ hq)
    ·rw[List.mem_singleton] at hq
     subst hq
     exact hsm
  ·refine⟨?_,fun q hq=>?_⟩
   ·rw[List.flatMap_append,h1]
    simp [zKH]
   ·rcases List.mem_append.1 hq with hq | hq
    ·exact h2 q hq
    ·rw[List.mem_singleton] at hq
     subst hq
     exact zKV hx
def zAQ (kd:Int)(h:Hd)(s:Int)(to:Lb)(sp:List Spn):List Op:=sp.mapIdx fun i x=>⟨kd,h,s+i,x,Eid.z,to,[]⟩
theorem zB5 (kd:Int)(h:Hd)(s:Int)(to:Lb)(sp:List Spn):(zAQ kd h s to sp).length=sp.length:=List.length_mapIdx
theorem zBC (kd:Int)(h:Hd)(s:Int)(to:Lb)(sp:List Spn)(i:Nat)(hi:i<(zAQ kd h s to sp).length):(zAQ kd h s to sp)[i]=⟨kd,h,s+i,sp[i]'(by rw[zB5] at hi;exact hi),Eid.z,to,[]⟩:=by
 simp [zAQ]
theorem zKZ {kd:Int}{h:Hd}{s:Int}{to:Lb}{sp:List Spn}{o:Op}(ho:o∈zAQ kd h s to sp):∃ i:Nat,∃ x∈sp,i<sp.length∧o=⟨kd,h,s+i,x,Eid.z,to,[]⟩:=by
 obtain⟨i,hi,rfl⟩:=List.getElem_of_mem ho
 rw[zBC]
 rw[zB5] at hi
 exact⟨i,sp[i],List.getElem_mem hi,hi,rfl⟩
theorem zP8 {kd:Int}{h:Hd}{s:Int}{to:Lb}{x:Spn}(hk:(kd=2∧to=Lb.z)∨(kd=3∧to.may=true))(hh:h.may=true)(hs:1≤s∧s<16777216)(hx:x.may=true):(⟨kd,h,s,x,Eid.z,to,[]⟩:Op).may=true:=by
 have e1:decide (s<1)=false:=DF
 have e2:decide (16777216≤s)=false:=DF
 unfold Op.may Op.part Op.bare
 simp only[hh,hx,e1,e2]
 rcases hk with⟨rfl,rfl⟩ | ⟨rfl,ht⟩
 ·simp
 ·simp [ht]
end Go.Proofs.YtginjhihkleaoaaGreat
namespace Go.Ax
open Go
variable {P : Program} {call : Tg → List AV → Mem → Option (AV × Mem)} {t : List AV} {M : Mem}
def bldD (P:Program)(call:Tg→List AV→Mem→Option (AV × Mem))(t:List AV)(M:Mem)(x0 x1 x2 x3:Operand)(a b c d:List AV):OR:=match a,b,c,d with
 | [a],[b1,b2,b3],[c],[d1,d2,d3,d4,d5]=>some (.agg [a,b1,b2,b3,c,d1,d2,d3,d4,d5,.sc (.int .u8 0),.sc (.int .u32 0),.sc (.int .u8 0),.sc (.int .i64 0),.sc (.int .u8 0),.sc (.int .u32 0),.sc (.slice none 0 0)],M)
 | _,_,_,_=>execOpA P call t M (.build (.agg #[(.int .u8 0),(.int .u8 0),(.int .u32 0),(.int .u8 0),(.int .i64 0),(.int .u8 0),(.int .u32 0),(.int .u8 0),(.int .i64 0),(.int .i64 0),(.int .u8 0),(.int .u32 0),(.int .u8 0),(.int .i64 0),(.int .u8 0),(.int .u32 0),(.slice none 0 0)]) [(0,1,x0),(1,3,x1),(4,1,x2),(5,5,x3)])
theorem zJW (x0 x1 x2 x3:Operand):execOpA P call t M (.build (.agg #[(.int .u8 0),(.int .u8 0),(.int .u32 0),(.int .u8 0),(.int .i64 0),(.int .u8 0),(.int .u32 0),(.int .u8 0),(.int .i64 0),(.int .i64 0),(.int .u8 0),(.int .u32 0),(.int .u8 0),(.int .i64 0),(.int .u8 0),(.int .u32 0),(.slice none 0 0)]) [(0,1,x0),(1,3,x1),(4,1,x2),(5,5,x3)])=bldD P call t M x0 x1 x2 x3 (cellsA (evalA t x0)) (cellsA (evalA t x1)) (cellsA (evalA t x2)) (cellsA (evalA t x3)):=by
 unfold bldD
 split
 ·rename_i h0 h1 h2 h3
  rw[x_build]
  simp only[fillA,h0,h1,h2,h3]
  rfl
 ·rfl
theorem zHV (x0 x1 x2 x3:Operand)(a b1 b2 b3 c d1 d2 d3 d4 d5:AV):bldD P call t M x0 x1 x2 x3 [a] [b1,b2,b3] [c] [d1,d2,d3,d4,d5]=some (.agg [a,b1,b2,b3,c,d1,d2,d3,d4,d5,.sc (.int .u8 0),.sc (.int .u32 0),.sc (.int .u8 0),.sc (.int .i64 0),.sc (.int .u8 0),.sc (.int .u32 0),.sc (.slice none 0 0)],M):=rfl
def bldR (P:Program)(call:Tg→List AV→Mem→Option (AV × Mem))(t:List AV)(M:Mem)(x0 x1 x2 x3 x4:Operand)(a b c d e:List AV):OR:=match a,b,c,d,e with
 | [a],[b1,b2,b3],[c],[d1,d2,d3,d4,d5],[e1,e2]=>some (.agg [a,b1,b2,b3,c,d1,d2,d3,d4,d5,.sc (.int .u8 0),.sc (.int .u32 0),.sc (.int .u8 0),.sc (.int .i64 0),e1,e2,.sc (.slice none 0 0)],M)
 | _,_,_,_,_=>execOpA P call t M (.build (.agg #[(.int .u8 0),(.int .u8 0),(.int .u32 0),(.int .u8 0),(.int .i64 0),(.int .u8 0),(.int .u32 0),(.int .u8 0),(.int .i64 0),(.int .i64 0),(.int .u8 0),(.int .u32 0),(.int .u8 0),(.int .i64 0),(.int .u8 0),(.int .u32 0),(.slice none 0 0)]) [(0,1,x0),(1,3,x1),(4,1,x2),(5,5,x3),(14,2,x4)])
theorem zH3 (x0 x1 x2 x3 x4:Operand):execOpA P call t M (.build (.agg #[(.int .u8 0),(.int .u8 0),(.int .u32 0),(.int .u8 0),(.int .i64 0),(.int .u8 0),(.int .u32 0),(.int .u8 0),(.int .i64 0),(.int .i64 0),(.int .u8 0),(.int .u32 0),(.int .u8 0),(.int .i64 0),(.int .u8 0),(.int .u32 0),(.slice none 0 0)]) [(0,1,x0),(1,3,x1),(4,1,x2),(5,5,x3),(14,2,x4)])=bldR P call t M x0 x1 x2 x3 x4 (cellsA (evalA t x0)) (cellsA (evalA t x1)) (cellsA (evalA t x2)) (cellsA (evalA t x3)) (cellsA (evalA t x4)):=by
 unfold bldR
 split
 ·rename_i h0 h1 h2 h3 h4
  rw[x_build]
  simp only[fillA,h0,h1,h2,h3,h4]
  rfl
 ·rfl
theorem zFB (x0 x1 x2 x3 x4:Operand)(a b1 b2 b3 c d1 d2 d3 d4 d5 e1 e2:AV):bldR P call t M x0 x1 x2 x3 x4 [a] [b1,b2,b3] [c] [d1,d2,d3,d4,d5] [e1,e2]=some (.agg [a,b1,b2,b3,c,d1,d2,d3,d4,d5,.sc (.int .u8 0),.sc (.int .u32 0),.sc (.int .u8 0),.sc (.int .i64 0),e1,e2,.sc (.slice none 0 0)],M):=rfl
theorem take_at {cs r:List AV}{n k:Nat}(h:∀ o,o<k→cs[n+o]? = r[o]?):List.take k (List.drop n cs)=r.take k:=by
 apply List.ext_getElem?
 intro j
 rw[List.getElem?_take,List.getElem?_take]
 split
 ·rw[List.getElem?_drop]
  exact h j (by assumption)
 ·rfl
end Go.Ax
