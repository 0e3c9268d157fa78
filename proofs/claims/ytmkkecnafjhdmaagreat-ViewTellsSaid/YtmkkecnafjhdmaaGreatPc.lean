/-
  Texts joined: VpA TwB VpD VpB VqC RiE VqA VqB TrG TrH TrI TrJ TrK TrM TwA VqE VqI VpE VpF SbF VpG EdK EdB RiF VqF VqJ RiG.
-/
import Derived.Test.YtmkkecnafjhdmaaGreatEg
import Derived.Test.YtmkkecnafjhdmaaGreatPb
set_option linter.unusedSimpArgs false
set_option linter.unusedVariables false
set_option maxHeartbeats 64000000
set_option maxRecDepth 100000
namespace Go.Proofs.YtmkkecnafjhdmaaGreat
open Go Go.Ax
theorem zJB {s:Spn}{x:Eid}(h:(s.has x).isSome=true):x∈s.ids:=by
 obtain⟨k,hk⟩:=Option.isSome_iff_exists.1 h
 obtain⟨_,h0,h1,rfl⟩:=zDO.1 hk
 unfold Spn.ids
 exact List.mem_map.2 ⟨k.toNat,List.mem_range.2 (by omega),by rw[Int.toNat_of_nonneg h0]⟩
theorem zJM (l:List Op)(x:Eid)(v:Lb):made (lowL l v) x v=made l x v:=by
 unfold made zAE lowL
 rw[List.filter_filter]
 congr 2
 apply List.filter_congr
 intro o _
 unfold zB7
 cases o.hd.lb.leq v <;> simp
theorem zK7 {l:List Op}(h:zA1 [] l=true)(x:Eid)(v:Lb):zC0 (lowL l v) x v=zC0 l x v:=by
 unfold zC0 askE
 rw[zB3 h,zB3 (zBV v h),zJM]
theorem zI4 {l:List Op}(h:zA1 [] l=true){o:Op}(ho:o∈l){x:Eid}(hk:o.kd=2)(hx:(o.sp.has x).isSome=true):o.hd.lb=x.hd.lb:=by
 obtain⟨a,b,rfl⟩:=List.append_of_mem ho
 have e:a++o::b=(a++[o])++b:=by simp
 rw[e] at h
 have h:=zH7 h
 rw[zDQ] at h
 simp only[Bool.and_eq_true,decide_eq_true_eq] at h
 have hr:=zCM h.2.2
 unfold zBG at hr
 rw[if_neg (by omega),if_pos hk] at hr
 unfold remE at hr
 split at hr
 ·split at hr
  ·rename_i e
   rw[← e,zDV (zJB hx)]
  ·cases hr
 ·cases hr
theorem zKY {l:List Op}(h:zA1 [] l=true){x:Eid}{v:Lb}(hx:x.hd.lb.leq v=true):(lowL l v).any (fun o=>decide (o.kd=2)&&(o.sp.has x).isSome)=l.any fun o=>decide (o.kd=2)&&(o.sp.has x).isSome:=by
 rw[Bool.eq_iff_iff,List.any_eq_true,List.any_eq_true]
 constructor
 ·rintro⟨o,ho,hc⟩
  exact⟨o,(List.mem_filter.1 ho).1,hc⟩
 ·rintro⟨o,ho,hc⟩
  refine⟨o,List.mem_filter.2 ⟨ho, ?_⟩,hc⟩
  simp only[Bool.and_eq_true,decide_eq_true_eq] at hc
  rw[zI4 h ho hc.1 hc.2]
  exact hx
variable {fuel : Nat} {M : Mem} {Q : AV → Mem → Prop} {d : Nat} {l : List Op} {a : AV} {x : Eid}
def zAT (l:List Op)(x:Eid):Bool:=l.any fun o=>decide (o.kd=2)&&(o.sp.has x).isSome
theorem zKX (l m:List Op)(x:Eid):zAT (l++m) x=(zAT l x || zAT m x):=List.any_append
theorem zMV {o:Op}{ra:AV}{y:Nat}(hR:Sl 1 zA3 ra o.rs)(wf:Wf M)(hy:M.get y=some (.row false (idR x)))(k:∀ N,Kept M N→Q (BL (decide (o.kd=2)&&(o.sp.has x).isSome)) N):W3 (zCN fuel (d+6) 46 [.agg (opR o ra),.ptr y 0] M) Q:=by
 have ly:=Mem.get_lt hy
 have ora:=hR.one
 have hh:=fun M=>@zEU fuel d o.sp x M
 refine call_0 tf46 rfl (by simp [a46]) fun b' ht hx=>?_
 obtain⟨h0,h1⟩:=hx2 hx
 clear hx
 simp only[a46,c46] at ht ⊢
 cases q1:decide (o.kd=2) with
 | false =>
  simp (disch:=try exact SX) only[RV,seval,h0,h1,hy,hh,q1]
  rw[q1,Bool.false_and] at k
  exact zB0s
 | true =>
  simp (disch:=try exact SX) only[RV,seval,h0,h1,hy,hh,q1]
  rw[q1,Bool.true_and] at k
  exact zB0s
theorem zKZ (hS:Sl 17 isOp a l)(hl:l.length≤10000)(hf:l.length+400<fuel)(M:Mem):zCN fuel (d+15) 25 [a,idA x] M=some (.tup [BL (zA1 [] l&&zAT l x),I64 (err (zA1 [] l))],M):=by
 have hck:=fun M=>zBU (fuel:=fuel) (d:=d) hS hl hf M
 apply w3_eq
 refine call_gc tf25 rfl (by simp only[icyL,fun M=>hS.icy M 12 (by omega),fz_icyA (zAQ x) (show 1<12 by omega)]) (by simp [a25]) fun b' ht hx=>?_
 obtain⟨h0,h1⟩:=hx2 hx
 clear hx
 simp only[a25,c25] at ht ⊢
 cases q1:zA1 [] l with
 | false =>
  rw[q1] at hck
  simp (disch:=try exact SX) only[RV,seval,h0,h1,hck,zAD,Bool.false_and]
 | true =>
  rw[q1] at hck
  unfold zAT
  simp (disch:=try exact SX) only[RV,seval,h0,h1,hck,zA6]
  refine has_0 (st:=17) (ag:=true) (n:=d+12) (first:=[]) (cap:=[.ptr 0 0]) tf45 tf76 (by simp) zKV hS (by omega) (by omega) (p:=fun o=>decide (o.kd=2)&&(o.sp.has x).isSome) (by simp (disch:=try exact SX) only[RV]) (fun n hn=>by simp only[add_size,mem0_size] at hn;simp (disch:=try exact SX) only[RV]) (fun r o hr _ N Q' hk hQ=>?_) fun N hk=>?_
  ·obtain⟨ra,rfl,hra,_⟩:=hr
   refine zMV (d:=d+6) hra hk.wf ?_ (fun N' hk'=>hQ N' (hk.trans hk'))
   rw[hk.get 0 (by simp (disch:=try exact SX) only[RV,seval])]
   exact zB04
  ·exact zB0f
structure CellV where
 id:Eid
 ch:Int
 deriving DecidableEq
def cellV (l:List Op)(v:Lb)(x:El):CellV:=⟨x.id,if zC0 l x.id v=true then x.ch else -1⟩
def zAI (l:List Op)(v:Lb):List CellV:=((elsR (textOf (lowL l v))).filter fun x => !zAT (lowL l v) x.id).map (cellV (lowL l v) v)
def zBE (c:List CellV):Nat:=(c.filter fun x=>decide (x.ch ≠ -1)).length
theorem zMW {l:List Op}(h:zA1 [] l=true){x:Eid}{v:Lb}(hx:x.hd.lb.leq v=true):zAT (lowL l v) x=zAT l x:=zKY h hx
abbrev zB8 (x:CellV):List AV:=[U8 x.id.hd.lb.lv,U32 x.id.hd.lb.cats,U8 x.id.hd.num,I64 x.id.c,I32 x.ch]
abbrev zMM (x:CellV):AV:=.agg (zB8 x)
def zAY (r:List AV)(x:CellV):Prop:=r=zB8 x∧x.id.ok
theorem zKW (x:CellV):∀ y∈zB8 x,Fz y:=fun y hy=>by
 simp only[zB8,List.mem_cons,List.not_mem_nil,or_false] at hy
 rcases hy with rfl | rfl | rfl | rfl | rfl <;> exact fz_sc_int _ _
theorem zCD:FzT zAY:=fun r x h=>by rw[h.1];exact zKW x
theorem CellV.eta (x:CellV):CellV.mk x.id x.ch=x:=rfl
theorem zM6 (a0:Int)(a1:Int)(a2:Int)(a3:Int)(a4:Int):PT.iss [.st [.st [.st [.int .u8,.int .u32],.int .u8],.int .i64],.int .i32] [.int .u8 a0,.int .u32 a1,.int .u8 a2,.int .i64 a3,.int .i32 a4]:=by
 simp only[PT.iss,PT.is]
 exact⟨[.int .u8 a0,.int .u32 a1,.int .u8 a2,.int .i64 a3],[.int .i32 a4],rfl,⟨[.int .u8 a0,.int .u32 a1,.int .u8 a2],[.int .i64 a3],rfl,⟨[.int .u8 a0,.int .u32 a1],[.int .u8 a2],rfl,⟨[.int .u8 a0],[.int .u32 a1],rfl,⟨_,rfl⟩,⟨[.int .u32 a1],[],rfl,⟨_,rfl⟩,rfl⟩⟩,⟨[.int .u8 a2],[],rfl,⟨_,rfl⟩,rfl⟩⟩,⟨[.int .i64 a3],[],rfl,⟨_,rfl⟩,rfl⟩⟩,⟨[.int .i32 a4],[],rfl,⟨_,rfl⟩,rfl⟩⟩
def zLI (d:Option AV)(u v:AV):Option AV:=match u,v with
 | .agg [.sc (.int .u8 a0),.sc (.int .u32 a1),.sc (.int .u8 a2),.sc (.int .i64 a3),.sc (.int .i32 a4)],.agg [.sc (.int .u8 b0),.sc (.int .u32 b1),.sc (.int .u8 b2),.sc (.int .i64 b3),.sc (.int .i32 b4)]=>some (BL (!(decide (a0=b0)&&decide (a1=b1)&&decide (a2=b2)&&decide (a3=b3)&&decide (a4=b4))))
 | _,_=>d
theorem pCeN {t:List AV}(i j:Nat):pureOp Tryz.prog t (mkO (.binOp .neq 72 (.tmp i) (.tmp j) 72) 4)=zLI (pureD Tryz.prog t (mkO (.binOp .neq 72 (.tmp i) (.tmp j) 72) 4)) (evalA t (.tmp i)) (evalA t (.tmp j)):=by
 unfold zLI
 split
 ·rename_i a0 a1 a2 a3 a4 b0 b1 b2 b3 b4 h1 h2
  obtain⟨r,hr,he⟩:=pEqS (P:=Tryz.prog) [.st [.st [.st [.int .u8,.int .u32],.int .u8],.int .i64],.int .i32] true 72 72 4 i j (by kernel_rfl) (by decide) (by kernel_rfl) h1 h2 rfl rfl (zM6 _ _ _ _ _) (zM6 _ _ _ _ _)
  exact zB0e
 ·rfl
theorem zFT (d:Option AV)(a0 a1 a2 a3 a4:Int)(b0 b1 b2 b3 b4:Int):zLI d (.agg [.sc (.int .u8 a0),.sc (.int .u32 a1),.sc (.int .u8 a2),.sc (.int .i64 a3),.sc (.int .i32 a4)]) (.agg [.sc (.int .u8 b0),.sc (.int .u32 b1),.sc (.int .u8 b2),.sc (.int .i64 b3),.sc (.int .i32 b4)])=some (BL (!decide ((⟨⟨⟨⟨a0,a1⟩,a2⟩,a3⟩,a4⟩:CellV)=⟨⟨⟨⟨b0,b1⟩,b2⟩,b3⟩,b4⟩))):=by
 simp only[zLI]
 exact zB0l
variable {v : Lb}
theorem zL2 {s:Spn}(h:s.may=true)(x:Eid):decide (x∈s.ids)=(s.has x).isSome:=by
 have hb:=Spn.may_le h
 rw[Bool.eq_iff_iff,decide_eq_true_iff]
 constructor
 ·intro hx
  unfold Spn.ids at hx
  obtain⟨i,hi,rfl⟩:=List.mem_map.1 hx
  have hi:=List.mem_range.1 hi
  unfold Spn.has
  rw[if_pos ⟨h,rfl,by show s.f.c≤s.f.c+i;omega,by show s.f.c+i<_;omega⟩]
  rfl
 ·exact zJB
theorem zJY (hS:Sl 17 isOp a l)(hm:∀ o∈l,o.may=true)(hl:l.length≤40000)(hf:l.length+200<fuel)(M:Mem):zCN fuel (d+2) 55 [a,idA x] M=some (BL (zAT l x),M):=by
 have ll:=hS.len
 apply w3_eq
 refine call_gc tf55 rfl (by simp only[icyL,fun M=>hS.icy M 12 (by omega),fz_icyA (zAQ x) (show 1<12 by omega)]) (by simp [a55]) fun b' ht hx=>?_
 obtain⟨h0,h1⟩:=hx2 hx
 clear hx
 simp only[a55,c55] at ht ⊢
 simp (disch:=try exact SX) only[RV,h1]
 refine w_loop (I:=fun nq tq Nq => ∃ (iq:Nat),nq=l.length - iq∧iq≤l.length∧nth undefA tq 0=a∧nth undefA tq 3 = .ptr 0 0∧nth undefA tq 5=I64 iq∧Wf Nq∧Nq.get 0=some (.row false (idR x))∧zAT (l.take iq) x=false) (n:=l.length) (by omega) ?_ ?_
 ·exact zB0k
 ·rintro nq tq Nq hltq ⟨iq,rfl,hiq,gq0,gq3,gq5,wq,gq,hj⟩
  simp only[ht] at hltq ⊢
  by_cases hc:iq<l.length
  ·have c1:decide ((iq:Int)<l.length)=true:=DT
   have w1:IntKind.i64.wrap ((iq:Int)+1)=((iq+1:Nat):Int):=WI
   obtain⟨rr,hiad,hri,_⟩:=hS.iad iq hc
   have hmo:=hm l[iq] (List.getElem_mem hc)
   have hsn:=take_snoc l iq hc
   have hany:(decide (l[iq].kd=2)&&(l[iq].sp.has x).isSome)=true→zAT l x=true:=fun h=>List.any_eq_true.2 ⟨l[iq],List.getElem_mem hc,h⟩
   have hnext:(decide (l[iq].kd=2)&&(l[iq].sp.has x).isSome)=false→zAT (l.take (iq+1)) x=false:=fun h=>by
    rw[hsn,zKX,hj]
    unfold zAT
    simp only[List.any_cons,List.any_nil,h,Bool.or_false]
   generalize l[iq]=e at *
   obtain⟨ra,rfl,hra,hok⟩:=hri
   by_cases q2:e.kd=2
   ·have q2':(!decide (e.kd=2))=false:=by rw[decide_eq_true q2];rfl
    have q2'':=decide_eq_true q2
    rw[q2'',Bool.true_and] at hany hnext
    have hsm:=may_sp hmo
    have hb:=Spn.may_le hsm
    obtain⟨ri,hri,hia⟩:=zE1 (fuel:=fuel) (d:=d) hok.2.2.2.1 hsm (by omega)
    have hmi:=zL2 hsm x
    have lri:=hri.len
    have hil:e.sp.ids.length≤64:=by unfold Spn.ids;rw[List.length_map,List.length_range];omega
    generalize e.sp.ids=I at *
    simp (disch:=try exact SX) only[RV,seval,gq0,gq5,ll,c1,hiad,q2'',hia]
    refine w_loop (I:=fun nk tk Nk => ∃ (ik:Nat),nk=I.length - ik∧ik≤I.length∧nth undefA tk 0=a∧nth undefA tk 3 = .ptr 0 0∧nth undefA tk 5=I64 iq∧nth undefA tk 6=ri∧nth undefA tk 7=I64 ik∧Wf Nk∧Nk.get 0=some (.row false (idR x))∧(∀ j (hj:j<I.length),j<ik→I[j]≠x)) (n:=I.length) (by omega) ?_ ?_
    ·refine⟨0,rfl,Nat.zero_le _, ?_, ?_, ?_, ?_, ?_,wq,gq,(fun _ _ h=>absurd h (by omega))⟩ <;> simp (disch:=try exact SX) only[RV,seval,gq0,gq3,gq5]
     all_goals first | rfl | assumption | done
    ·rintro nk tk Nk hltk ⟨ik,rfl,hik,gk0,gk3,gk5,gk6,gk7,wk,gk,hk⟩
     simp only[hltq] at hltk ⊢
     have l0k:=Mem.get_lt gk
     by_cases hc2:ik<I.length
     ·have c2:decide ((ik:Int)<I.length)=true:=DT
      have w2:IntKind.i64.wrap ((ik:Int)+1)=((ik+1:Nat):Int):=WI
      obtain⟨r2,hiad2,⟨rfl,_⟩,_⟩:=hri.iad ik hc2
      cases q3:decide (I[ik]=x) with
      | true =>
       have e1:zAT l x=true:=hany (by rw[← hmi];exact decide_eq_true (by rw[← of_decide_eq_true q3];exact List.getElem_mem hc2))
       simp (disch:=try exact SX) only[RV,seval,gk3,gk6,gk7,lri,c2,hiad2,gk,q3,↓pIdE,zA0,ETA,e1]
      | false =>
       have q3':=of_decide_eq_false q3
       simp (disch:=try exact SX) only[RV,seval,gk0,gk3,gk5,gk6,gk7,lri,c2,hiad2,gk,q3,↓pIdE,zA0,ETA,w2]
       exact⟨hltk,I.length - (ik+1),by omega,ik+1,rfl,by omega,rfl,wk,fun j hj hji=>by
        rcases Nat.lt_succ_iff_lt_or_eq.1 hji with h | rfl
        ·exact hk j hj h
        ·exact q3'⟩
     ·obtain rfl:ik=I.length:=by omega
      have c2:decide ((I.length:Int)<I.length)=false:=DF
      have hno:decide (x∈I)=false:=decide_eq_false fun hx=>by
       obtain⟨j,hj,e1⟩:=List.getElem_of_mem hx
       exact hk j hj hj e1
      rw[hno] at hmi
      have hn:=hnext hmi.symm
      simp (disch:=try exact SX) only[RV,seval,gk0,gk3,gk5,gk6,gk7,lri,w1]
      exact⟨hltk,l.length - (iq+1),by omega,iq+1,rfl,by omega,rfl,wk,gk,hn⟩
   ·have q2':(!decide (e.kd=2))=true:=by rw[decide_eq_false q2];rfl
    have q2'':=decide_eq_false q2
    rw[q2'',Bool.false_and] at hnext
    simp (disch:=try exact SX) only[RV,seval,gq0,gq3,gq5,ll,c1,hiad,q2'',w1]
    exact⟨hltq,l.length - (iq+1),by omega,iq+1,rfl,by omega,rfl,wq,gq,hnext rfl⟩
  ·obtain rfl:iq=l.length:=by omega
   have c1:decide ((l.length:Int)<l.length)=false:=DF
   rw[List.take_length] at hj
   simp (disch:=try exact SX) only[RV,seval,gq0,gq5,ll,hj]
def zG2 (l:List Op)(v:Lb)(E:List El):List CellV:=(E.filter fun x=>x.id.hd.lb.leq v && !zAT l x.id).map (cellV l v)
theorem zIJ (l:List Op)(v:Lb)(E:List El)(x:El):zG2 l v (E++[x])=zG2 l v E++(if (x.id.hd.lb.leq v && !zAT l x.id)=true then [cellV l v x] else []):=by
 unfold zG2
 rw[List.filter_append,List.map_append]
 congr 1
 rw[List.filter_cons]
 split <;> rfl
theorem zK5 (l:List Op)(v:Lb)(E:List El):(zG2 l v E).length≤E.length:=by
 unfold zG2
 exact zB0T
theorem zK6 {l:List Op}(h:zA1 [] l=true)(hok:∀ o∈l,o.ok)(v:Lb):zG2 l v (elsR (textOf l))=zAI l v:=by
 unfold zAI zG2
 rw[(zLW h hok v).1,zHR (zAH h).ok.1,(zB4 _).1,List.filter_filter]
 have e1:((elsR (textOf l)).filter fun x=>x.id.hd.lb.leq v && !zAT l x.id)=(elsR (textOf l)).filter fun x => !zAT (lowL l v) x.id&&lowE v x:=by
  apply List.filter_congr
  intro x _
  show (x.id.hd.lb.leq v && !zAT l x.id)=(!zAT (lowL l v) x.id&&x.id.hd.lb.leq v)
  cases hx:x.id.hd.lb.leq v with
  | false=>rw[Bool.and_false,Bool.false_and]
  | true=>rw[zMW h hx,Bool.and_true,Bool.true_and]
 rw[e1]
 apply List.map_congr_left
 intro x _
 unfold cellV
 rw[zK7 h]
theorem zBN (hS:Sl 17 isOp a l)(hh:zA1 [] l=true)(hv:v.ok)(hvm:v.may=true)(hl:l.length≤200)(hf:100000<fuel):∃ r,Sl 5 zAY r (zAI l v) ∧ ∀ M,zCN fuel (d+5) 28 [a,lbA v] M=some (r,M):=by
 have hrn:=zDP hh
 obtain⟨ro,hro,hon⟩:=zCF (fuel:=fuel) (d:=d) hS hrn (by omega) (by omega)
 have hom:=zDD hrn
 have hoks:∀ o∈l,o.ok:=fun o ho=>by
  obtain⟨i,hi,rfl⟩:=List.getElem_of_mem ho
  obtain⟨_,_,⟨_,_,_,h⟩,_⟩:=hS.iad i hi
  exact h
 obtain⟨rt,T,⟨hrt,hT,hmT⟩,hso⟩:=zF3 (fuel:=fuel) (d:=d) hro (zLE hh) (by omega) (by omega)
 have eT:=zJP hh hT hmT
 have hTm:=(zAO (zAH hh).ok).1.m
 rw[← eT] at hTm
 rw[← zK6 hh hoks v,← eT]
 have lrt:=hrt.len
 have hTl:T.length≤8192:=by
  rw[eT]
  exact(zAO (zAH hh).ok).1.n
 clear eT hmT
 refine gc_ex tf28 rfl (fun M=>by simp only[icyL,fun M=>hS.icy M 12 (by omega),fz_icyA (zAB v) (show 1<12 by omega)]) ?_
 refine call_gc tf28 rfl (by simp only[icyL,fun M=>hS.icy M 12 (by omega),fz_icyA (zAB v) (show 1<12 by omega)]) (by simp [a28]) fun b' ht hx=>?_
 obtain⟨h0,h1⟩:=hx2 hx
 clear hx
 simp only[a28,c28] at ht ⊢
 simp (disch:=try exact SX) only[RV,seval,h0,h1,hon,hso]
 refine w_loop (I:=fun n t N => ∃ (i:Nat) (o:AV),n=T.length - i∧i≤T.length∧nth undefA t 0=a∧nth undefA t 3 = .ptr 0 0∧nth undefA t 5=o∧nth undefA t 6=rt∧nth undefA t 7=I64 i∧Wf N∧N.get 0=some (.row false (lbR v))∧SlM N 5 zAY o (zG2 l v (T.take i))∧(∀ j,rowOf o=some j→1≤j)) (n:=T.length) (by omega) ?_ ?_
 ·refine⟨0,NIL,rfl,Nat.zero_le _, ?_, ?_, ?_, ?_, ?_,Wf.mem0.add _,by simp (disch:=try exact SX) only[RV],SlM.nil,(fun _ h=>by cases h)⟩ <;> simp (disch:=try exact SX) only[RV,seval,h0]
  all_goals first | rfl | assumption | done
 ·rintro n t N hlt ⟨i,o,rfl,hi,g0,g3,g5,g6,g7,w,g,sm,ro1⟩
  simp only[ht] at hlt ⊢
  have l0:=Mem.get_lt g
  by_cases hc:i<T.length
  ·have q1:decide ((i:Int)<T.length)=true:=DT
   have w1:IntKind.i64.wrap ((i:Int)+1)=((i+1:Nat):Int):=WI
   obtain⟨r,hiad,hr9,_⟩:=hrt.iad i hc
   have hsn:=zIJ l v (T.take i) T[i]
   rw[← take_snoc T i hc] at hsn
   have hsl:=zK5 l v (T.take i)
   rw[List.length_take] at hsl
   have hxm:=hTm T[i] (List.getElem_mem hc)
   generalize T[i]=x at *
   obtain⟨rfl,hok1,hok2⟩:=hr9
   have hxi:=(El.may_iff.1 hxm).1
   have hle:=fun M=>zB6 (fuel:=fuel) (d:=d+2) x.id.hd.lb v hok1.1.1 hv (by omega) M
   have hgo:=fun M=>zJY (fuel:=fuel) (d:=d+2) (x:=x.id) hS (zBL hh) (by omega) (by omega) M
   have hsh:=fun M=>zJW (fuel:=fuel) (d:=d) (x:=x.id) (v:=v) hS (zBL hh) hok1 hv (by omega) (by omega) M
   rw[zNM hh hxi hvm] at hsh
   have wX:∀ z r,Wf ((N.add z).upd N.size r):=fun z r=>(w.add z).upd _ _
   have gX:∀ z r j,j<N.size→((N.add z).upd N.size r).get j=N.get j:=fun z r j hj=>by
    exact zB0N
   cases q2:x.id.hd.lb.leq v with
   | false =>
    rw[q2] at hle hsn
    rw[Bool.false_and,if_neg (by decide),List.append_nil] at hsn
    simp (disch:=try exact SX) only[RV,seval,g0,g3,g5,g6,g7,lrt,q1,hiad,w,g,hle,w1]
    exact zB0x
   | true =>
    rw[q2] at hle hsn
    rw[Bool.true_and] at hsn
    cases q3:zAT l x.id with
    | true =>
     rw[q3] at hgo hsn
     rw[if_neg (by decide),List.append_nil] at hsn
     simp (disch:=try exact SX) only[RV,seval,g0,g3,g5,g6,g7,lrt,q1,hiad,w,g,hle,hgo,w1]
     exact zB0x
    | false =>
     rw[q3] at hgo hsn
     rw[if_pos (by decide)] at hsn
     unfold cellV at hsn
     have wZ:∀ z r z' r',Wf ((((N.add z).upd N.size r).add z').upd (N.size+1) r'):=fun z r z' r'=>((wX z r).add z').upd _ _
     have gZ:∀ z r z' r' j,j<N.size→((((N.add z).upd N.size r).add z').upd (N.size+1) r').get j=N.get j:=fun z r z' r' j hj=>by
      exact zB0w
     cases q4:zC0 l x.id v with
     | true =>
      rw[q4] at hsh hsn
      rw[if_pos rfl] at hsn
      simp (disch:=try exact SX) only[RV,seval,fillA,g0,g3,g5,g6,g7,lrt,q1,hiad,g,hle,hgo,hsh]
      refine⟨rows_lt sm.rl (by omega), ?_⟩
      refine app1 (bytes:=32) (x:=⟨x.id,x.ch⟩) (wZ _ _ _ _) (sm.keep fun j hj=>gZ _ _ _ _ j (sm.lt j hj)) zCD ⟨rfl,hok1⟩ rfl (by omega) (by omega) (by omega) fun o' M' m' w' le' kp' nw' wm' rl' on' oc'=>?_
      simp only[upd_size,add_size] at le' kp' nw'
      simp (disch:=try exact SX) only[RV,seval,g0,g3,g5,g6,g7,w',w1]
      refine⟨hlt,T.length - (i+1),by omega,i+1,o',rfl,by omega,rfl,rfl, ?_,by rw[hsn];exact m',fun j hj=>?_⟩
      ·rw[kp' 0 (by omega) (fun h=>by have:=ro1 0 h;omega),gZ _ _ _ _ 0 l0];exact g
      ·rcases nw' j hj with h | h
       ·exact ro1 j h
       ·omega
     | false =>
      rw[q4] at hsh hsn
      rw[if_neg (by decide)] at hsn
      simp (disch:=try exact SX) only[RV,seval,fillA,g0,g3,g5,g6,g7,lrt,q1,hiad,g,hle,hgo,hsh]
      refine⟨rows_lt sm.rl (by omega), ?_⟩
      have wU:∀ z r z' r' u,Wf (((((N.add z).upd N.size r).add z').upd (N.size+1) r').upd (N.size+1) u):=fun z r z' r' u=>(wZ z r z' r').upd _ _
      have gU:∀ z r z' r' u j,j<N.size→(((((N.add z).upd N.size r).add z').upd (N.size+1) r').upd (N.size+1) u).get j=N.get j:=fun z r z' r' u j hj=>by
       rw[get_upd_ne (wZ z r z' r') _ _ _ (by omega)]
       exact gZ z r z' r' j hj
      refine app1 (bytes:=32) (x:=⟨x.id, -1⟩) (wU _ _ _ _ _) (sm.keep fun j hj=>gU _ _ _ _ _ j (sm.lt j hj)) zCD ⟨rfl,hok1⟩ rfl (by omega) (by omega) (by omega) fun o' M' m' w' le' kp' nw' wm' rl' on' oc'=>?_
      simp only[upd_size,add_size] at le' kp' nw'
      simp (disch:=try exact SX) only[RV,seval,g0,g3,g5,g6,g7,w',w1]
      refine⟨hlt,T.length - (i+1),by omega,i+1,o',rfl,by omega,rfl,rfl, ?_,by rw[hsn];exact m',fun j hj=>?_⟩
      ·rw[kp' 0 (by omega) (fun h=>by have:=ro1 0 h;omega),gU _ _ _ _ _ 0 l0];exact g
      ·rcases nw' j hj with h | h
       ·exact ro1 j h
       ·omega
  ·obtain rfl:i=T.length:=by omega
   have q1:decide ((T.length:Int)<T.length)=false:=DF
   rw[List.take_length] at sm
   obtain⟨r,hz,hsr⟩:=sm.frz zCD.cel (k:=12) (by omega)
   simp (disch:=try exact SX) only[RV,seval,g5,g6,g7,lrt,hz]
   exact⟨r,hsr,rfl⟩
def zAG (E:List El):List CellV:=E.map fun x=>⟨x.id,x.ch⟩
theorem zEE (E F:List El):zAG (E++F)=zAG E++zAG F:=by simp [zAG]
theorem zBI (E:List El):(zAG E).length=E.length:=List.length_map _
theorem zD9 {l:List Rn}(hm:∀ r∈l,r.may=true):(elsR l).length≤64*l.length:=by
 induction l with
 | nil=>simp [elsR]
 | cons r l ih =>
  have e:elsR (r::l)=r.elR++elsR l:=by simp [elsR]
  have hb:=Spn.may_le (Rn.may_sp (hm r List.mem_cons_self))
  have:=ih fun q hq=>hm q (List.mem_cons_of_mem _ hq)
  rw[e,List.length_append,zA9,List.length_cons]
  omega
theorem zIS {a:AV}{l:List Rn}(hS:Sl 10 isRn a l)(hm:∀ r∈l,r.may=true)(hl:l.length≤100000)(hf:l.length+200<fuel):∃ r,Sl 5 zAY r (zAG (elsR l)) ∧ ∀ M,zCN fuel (d+8) 23 [a] M=some (r,M):=by
 have ll:=hS.len
 refine gc_ex tf23 rfl (fun M=>by simp only[icyL,fun M=>hS.icy M 12 (by omega)]) ?_
 refine call_gc tf23 rfl (by simp only[icyL,fun M=>hS.icy M 12 (by omega)]) (by simp [a23]) fun b' ht hx=>?_
 have h0:=hx 0 _ rfl
 clear hx
 simp only[a23,c23] at ht ⊢
 simp (disch:=try exact SX) only[RV,seval,h0,ll]
 refine w_loop (I:=fun n t N => ∃ (i:Nat) (o:AV),n=l.length - i∧i≤l.length∧nth undefA t 2=o∧nth undefA t 10=a∧nth undefA t 11=I64 l.length∧nth undefA t 12=I64 i∧Wf N∧N.wm=0∧SlM N 5 zAY o (zAG (elsR (l.take i)))) (n:=l.length) (by omega) ?_ ?_
 ·refine⟨0,NIL,rfl,Nat.zero_le _, ?_, ?_, ?_, ?_,Wf.mem0,rfl,SlM.nil⟩ <;> simp (disch:=try exact SX) only[RV,seval]
  all_goals first | rfl | assumption | done
 ·rintro n t N hlt ⟨i,o,rfl,hi,g2,g10,g11,g12,w,wm,sm⟩
  simp only[ht] at hlt ⊢
  by_cases hc:i<l.length
  ·have q1:decide ((i:Int)<l.length)=true:=DT
   have w1:IntKind.i64.wrap ((i:Int)+1)=((i+1:Nat):Int):=WI
   obtain⟨r,hiad,hr,hrl⟩:=hS.iad i hc
   have hts:=zAX (l.take i) l[i]
   rw[← zAF l i hc] at hts
   have hme:=hm l[i] (List.getElem_mem hc)
   have hb:=Spn.may_le (Rn.may_sp hme)
   have hln:=zD9 (l:=l.take i) fun r hr=>hm r (List.mem_of_mem_take hr)
   rw[List.length_take] at hln
   generalize l[i]=e at *
   obtain⟨ra,rfl,hra,hok⟩:=hr
   have ora:=hra.one
   have hat:=fun n M=>zFZ (fuel:=fuel) (d:=d) (n:=n) hra (by omega) M
   have wX:=(w.add (.row false (rnR ⟨⟨Eid.z,0⟩,Eid.z,[]⟩ NIL))).upd N.size (.row false (rnR e ra))
   have gX:((N.add (.row false (rnR ⟨⟨Eid.z,0⟩,Eid.z,[]⟩ NIL))).upd N.size (.row false (rnR e ra))).get N.size=some (.row false (rnR e ra)):=by simp (disch:=try exact SX) only[RV]
   have smX:SlM ((N.add (.row false (rnR ⟨⟨Eid.z,0⟩,Eid.z,[]⟩ NIL))).upd N.size (.row false (rnR e ra))) 5 zAY o (zAG (elsR (l.take i))):=sm.keep fun j hj=>by
    have:=sm.lt j hj
    rw[get_upd_ne (w.add _) _ _ _ (by omega),get_add w _ _ this]
   have sX:((N.add (.row false (rnR ⟨⟨Eid.z,0⟩,Eid.z,[]⟩ NIL))).upd N.size (.row false (rnR e ra))).size=N.size+1:=rfl
   simp (disch:=try exact SX) only[RV,seval,g10,g11,g12,q1,hiad]
   have mX:((N.add (.row false (rnR ⟨⟨Eid.z,0⟩,Eid.z,[]⟩ NIL))).upd N.size (.row false (rnR e ra))).wm=0:=wm
   revert wX gX smX sX mX
   generalize ((N.add _).upd N.size _)=X
   intro wX gX smX sX mX
   refine w_loop (I:=fun nk tk Nk => ∃ (ik:Nat) (p:AV),nk=e.sp.n.toNat - ik∧ik≤e.sp.n.toNat∧nth undefA tk 2=p∧nth undefA tk 4 = .ptr N.size 0∧nth undefA tk 10=a∧nth undefA tk 11=I64 l.length∧nth undefA tk 12=I64 i∧nth undefA tk 18=I64 e.sp.n∧nth undefA tk 19=I64 ik∧Wf Nk∧N.size+1≤Nk.size∧Nk.wm=0∧Nk.get N.size=some (.row false (rnR e ra))∧SlM Nk 5 zAY p (zAG (elsR (l.take i))++zAG (e.elR.take ik))∧(∀ j,rowOf p=some j→j≠N.size)) (n:=e.sp.n.toNat) (by omega) ?_ ?_
   ·refine⟨0,o,rfl,Nat.zero_le _, ?_, ?_, ?_, ?_, ?_, ?_, ?_,wX,Nat.le_of_eq sX.symm,mX,gX,(by simpa [zAG] using smX),(fun j hj=>by have:=sm.lt j hj;omega)⟩ <;> simp (disch:=try exact SX) only[RV,seval,g2,g10,g11,g12]
    all_goals first | rfl | assumption | done
   ·rintro nk tk Nk hltk ⟨ik,p,rfl,hik,gk2,gk4,gk10,gk11,gk12,gk18,gk19,wk,lek,wmk,gk,smk,nrk⟩
    simp only[hlt] at hltk ⊢
    have lel:=zA9 e
    by_cases hck:ik<e.sp.n.toNat
    ·have q2:decide ((ik:Int)<e.sp.n)=true:=DT
     have w2:IntKind.i64.wrap ((ik:Int)+1)=((ik+1:Nat):Int):=WI
     have ha0:atE e (ik:Int)=0:=by unfold atE;rw[if_pos hme,if_neg (by omega)]
     have hat':=hat (ik:Int)
     rw[ha0] at hat'
     simp only[if_true,Int.toNat_natCast] at hat'
     have hts2:=zAF e.elR ik (by omega)
     rw[zAK] at hts2
     have hid:(e.sp.at (ik:Int)).ok:=⟨hok.1.1.1,by show i64R (e.sp.f.c+(ik:Int));unfold i64R;omega⟩
     have hll:(zAG (elsR (l.take i))++zAG (e.elR.take ik)).length≤64*i+64:=by
      rw[List.length_append,zBI,zBI,List.length_take];omega
     simp (disch:=try exact SX) only[RV,seval,fillA,gk2,gk4,gk18,gk19,q2,gk,hat']
     have wY:=(((wk.add (.row false (idR Eid.z))).add (.row false (idR Eid.z))).upd Nk.size (.row false (idR (e.sp.at (ik:Int))))).upd (Nk.size+1) (.row false (idR (e.afAt (ik:Int))))
     have gY:∀ j,j<Nk.size→((((Nk.add (.row false (idR Eid.z))).add (.row false (idR Eid.z))).upd Nk.size (.row false (idR (e.sp.at (ik:Int))))).upd (Nk.size+1) (.row false (idR (e.afAt (ik:Int))))).get j=Nk.get j:=fun j hj=>by
      rw[get_upd_ne (((wk.add _).add _).upd _ _) _ _ _ (by omega),get_upd_ne ((wk.add _).add _) _ _ _ (by omega),get_add (wk.add _) _ _ (by rw[add_size];omega),get_add wk _ _ hj]
     refine⟨rows_lt smk.rl (by omega), ?_⟩
     refine app1 (bytes:=32) (x:=⟨e.sp.at (ik:Int),e.rs.getD ik 0⟩) wY (smk.keep fun j hj=>gY j (smk.lt j hj)) zCD ⟨rfl,hid⟩ rfl (by omega) (by omega) (by omega) fun p2 M2 m2 wf2 le2 kp2 nw2 wm2 rl2 on2 oc2=>?_
     simp only[upd_size,add_size] at le2
     simp (disch:=try exact SX) only[RV,seval,gk2,gk4,gk10,gk11,gk12,gk18,gk19,wf2,w2]
     refine⟨hltk,e.sp.n.toNat - (ik+1),by omega,ik+1,p2,rfl,by omega,rfl,rfl,by omega,wm2.trans wmk, ?_, ?_,fun j hj=>?_⟩
     ·rw[kp2 N.size (by simp only[upd_size,add_size];omega) (fun h=>nrk _ h rfl),gY N.size (by omega)];exact gk
     ·rw[hts2,zEE,← List.append_assoc];exact m2
     ·rcases nw2 j hj with h | h
      ·exact nrk j h
      ·simp only[upd_size,add_size] at h;omega
    ·obtain rfl:ik=e.sp.n.toNat:=by omega
     have q2:decide (((e.sp.n.toNat:Nat):Int)<e.sp.n)=false:=DF
     rw[List.take_of_length_le (Nat.le_of_eq lel)] at smk
     simp (disch:=try exact SX) only[RV,seval,gk2,gk10,gk11,gk12,gk18,gk19,q2,w1]
     exact⟨hltk,l.length - (i+1),by omega,i+1,p,rfl,by omega,rfl,rfl,wk,wmk,by rw[hts,zEE];exact smk⟩
  ·obtain rfl:i=l.length:=by omega
   have q1:decide ((l.length:Int)<l.length)=false:=DF
   rw[List.take_length] at sm
   obtain⟨ro,hz,hs⟩:=sm.frz zCD.cel (k:=12) (by omega)
   simp (disch:=try exact SX) only[RV,seval,g2,g11,g12,hz]
   exact⟨_,hs,rfl⟩
variable {low : List Op} {al : AV}
def zDI (l:List Op)(v:Lb)(c:CellV):CellV:=⟨c.id,if zC0 l c.id v=true then c.ch else -1⟩
def zDT (l:List Op)(v:Lb)(c:List CellV):List CellV:=(c.filter fun x => !zAT l x.id).map (zDI l v)
theorem zI8 (l:List Op)(v:Lb)(c:List CellV)(x:CellV):zDT l v (c++[x])=zDT l v c++(if zAT l x.id=true then [] else [zDI l v x]):=by
 unfold zDT
 rw[List.filter_append,List.map_append]
 cases h:zAT l x.id <;> simp [h]
theorem zJF (l:List Op)(v:Lb)(c:List CellV):(zDT l v c).length≤c.length:=by
 unfold zDT
 exact zB0T
theorem zKM {bl bv:Nat}{c:CellV}(hS:Sl 17 isOp al low)(hh:zA1 [] low=true)(hl:low.length≤10000)(hf:low.length+400<fuel)(hc:c.id.ok)(wf:Wf M)(hw:M.wm≤M.size)(g1:M.get bl=some (.row false [al]))(g2:M.get bv=some (.row false (lbR v)))(k:∀ N,Kept M N→Q (.tup [zMM (zDI low v c),BL (!zAT low c.id)]) N):W3 (zCN fuel (d+16) 24 [zMM c,.ptr bl 0,.ptr bv 0] M) Q:=by
 have l1:=Mem.get_lt g1
 have l2:=Mem.get_lt g2
 have oa:=hS.one
 have hgo:=fun M=>zKZ (fuel:=fuel) (d:=d) (x:=c.id) hS hl hf M
 have hsh:=fun M=>zK8 (fuel:=fuel) (d:=d+4) (v:=v) hS (by omega) (by omega) hc M
 simp only[hh,Bool.true_and] at hgo
 have kk:=fun q r=>(((((Kept.refl wf).add (.row false (zB8 c))).add (.row false (zB8 ⟨Eid.z,0⟩))).upd hw (Nat.le_refl _) q).upd hw (Nat.le_succ M.size) r)
 have kk1:=fun r=>((((Kept.refl wf).add (.row false (zB8 c))).add (.row false (zB8 ⟨Eid.z,0⟩))).upd hw (Nat.le_succ M.size) r)
 unfold zDI at k
 refine call_0 tf24 rfl (by simp [a24]) fun b' ht hx=>?_
 obtain⟨h0,h1,h2⟩:=hx3 hx
 clear hx
 simp only[a24,c24] at ht ⊢
 cases q:zC0 low c.id v with
 | true =>
  rw[q] at k
  simp only[q] at hsh
  rw[if_pos rfl] at k
  simp (disch:=try exact SX) only[RV,seval,h0,h1,h2,g1,g2,hgo,hsh]
  exact k _ (kk1 _)
 | false =>
  rw[q] at k
  simp only[q] at hsh
  rw[if_neg (by decide)] at k
  simp (disch:=try exact SX) only[RV,seval,h0,h1,h2,g1,g2,hgo,hsh]
  exact k _ (kk _ _)
theorem zN8 {a:AV}{cs:List CellV}{bl bv:Nat}(hA:Sl 5 zAY a cs)(hcl:cs.length≤1000000)(hS:Sl 17 isOp al low)(hh:zA1 [] low=true)(hl:low.length≤10000)(hf:low.length+cs.length+400<fuel)(wf:Wf M)(hw:M.wm≤M.size)(m1:M.get bl=some (.row false [al]))(m2:M.get bv=some (.row false (lbR v)))
  (k:∀ o N,Wf N→M.size≤N.size→(∀ j,j<M.size→N.get j=M.get j)→SlM N 5 zAY o (zDT low v cs)→(∀ j,rowOf o=some j→M.size≤j)→N.wm=M.wm→Q o N) :
  W3 (zCN fuel (d+17) 22 [a,.fn 24 [] [.ptr bl 0,.ptr bv 0]] M) Q:=by
 have la:=hA.len
 have l1:=Mem.get_lt m1
 have l2:=Mem.get_lt m2
 refine call_0 tf22 rfl (by simp [a22]) fun b' ht hx=>?_
 obtain⟨h0,h1⟩:=hx2 hx
 clear hx
 simp only[a22,c22] at ht ⊢
 simp (disch:=try exact SX) only[RV,seval,h0,la]
 refine w_loop (I:=fun n t N => ∃ (i:Nat) (o:AV),n=cs.length - i∧i≤cs.length∧nth undefA t 1 = .fn 24 [] [.ptr bl 0,.ptr bv 0]∧nth undefA t 4=o∧nth undefA t 9=a∧nth undefA t 10=I64 cs.length∧nth undefA t 11=I64 i∧Wf N∧M.size≤N.size∧(∀ j,j<M.size→N.get j=M.get j)∧N.wm=M.wm∧SlM N 5 zAY o (zDT low v (cs.take i))∧(∀ j,rowOf o=some j→M.size≤j)) (n:=cs.length) (by omega) ?_ ?_
 ·refine⟨0,NIL,rfl,Nat.zero_le _, ?_, ?_, ?_, ?_, ?_,wf,Nat.le_refl _,(fun _ _=>rfl),rfl,SlM.nil,(fun _ h=>by cases h)⟩ <;> simp (disch:=try exact SX) only[RV,seval,h1]
  all_goals first | rfl | assumption | done
 ·rintro n t N hlt ⟨i,o,rfl,hi,g1,g4,g9,g10,g11,w,le,kp,wm,sm,nr⟩
  simp only[ht] at hlt ⊢
  by_cases hc:i<cs.length
  ·have q1:decide ((i:Int)<cs.length)=true:=DT
   have w1:IntKind.i64.wrap ((i:Int)+1)=((i+1:Nat):Int):=WI
   obtain⟨r,hiad,hr,hrl⟩:=hA.iad i hc
   have hts:=zI8 low v (cs.take i) cs[i]
   rw[← take_snoc cs i hc] at hts
   have hkl:=zJF low v (cs.take i)
   rw[List.length_take] at hkl
   generalize cs[i]=c at *
   obtain⟨rfl,hok⟩:=hr
   have hwN:N.wm≤N.size:=by rw[wm];exact Nat.le_trans hw le
   have kX:=((Kept.refl w).add (.row false (zB8 ⟨Eid.z,0⟩))).upd hwN (Nat.le_refl _) (.row false (zB8 c))
   simp (disch:=try exact SX) only[RV,seval,g1,g9,g10,g11,q1,hiad]
   refine zKM (d:=d) (c:=c) hS hh hl (by omega) hok kX.wf (by rw[kX.wm];exact Nat.le_trans hwN kX.le) ((kX.get bl (by omega)).trans ((kp bl l1).trans m1)) ((kX.get bv (by omega)).trans ((kp bv l2).trans m2)) fun N2 k2=>?_
   have w2:=k2.wf
   have k3:=kX.trans k2
   have le2:=k2.le
   simp only[upd_size,add_size] at le2
   have smX:SlM N2 5 zAY o (zDT low v (cs.take i)):=sm.keep fun j hj=>by
    have:=sm.lt j hj
    rw[k2.get j (by simp only[upd_size,add_size];omega),get_upd_ne (w.add _) _ _ _ (by omega),get_add w _ _ this]
   have smY:∀ y z,SlM ((N2.add y).upd N2.size z) 5 zAY o (zDT low v (cs.take i)):=fun y z=>smX.keep fun j hj=>by
    have:=smX.lt j hj
    rw[get_upd_ne (w2.add _) _ _ _ (by omega),get_add w2 _ _ this]
   cases q2:zAT low c.id with
   | true =>
    rw[q2,if_pos rfl,List.append_nil] at hts
    have k4:=(k3.add (.row false (zB8 ⟨Eid.z,0⟩))).upd hwN k3.le (.row false (zB8 (zDI low v c)))
    simp (disch:=try exact SX) only[RV,seval,g1,g4,g9,g10,g11,w2,w1]
    exact⟨hlt,cs.length - (i+1),by omega,i+1,o,rfl,by omega,rfl,rfl,by have:=k3.le;omega,fun j hj=>(k4.get j (by omega)).trans (kp j hj),k4.wm.trans wm,by rw[hts];exact smY _ _,nr⟩
   | false =>
    rw[q2,if_neg (by decide)] at hts
    simp (disch:=try exact SX) only[RV,seval,fillA,g4]
    refine⟨rows_lt smX.rl (by omega), ?_⟩
    refine app1 (bytes:=32) (x:=zDI low v c) ((w2.add _).upd _ _) (smY _ _) zCD ⟨rfl,hok⟩ rfl (by omega) (by omega) (by omega) fun p2 M2 m2' wf2 le3 kp2 nw2 wm2 rl2 on2 oc2=>?_
    simp only[upd_size,add_size] at le3
    have k5:=(k3.add (.row false (zB8 ⟨Eid.z,0⟩))).upd hwN k3.le (.row false (zB8 (zDI low v c)))
    simp (disch:=try exact SX) only[RV,seval,g1,g4,g9,g10,g11,wf2,w1]
    refine⟨hlt,cs.length - (i+1),by omega,i+1,p2,rfl,by omega,rfl,rfl, ?_,fun j hj=>?_,(wm2.trans k5.wm).trans wm,by rw[hts];exact m2',fun j hj=>?_⟩
    ·have:=k3.le;omega
    ·rw[kp2 j (by have:=k3.le;simp only[upd_size,add_size];omega) (fun h=>by have:=nr _ h;omega)];exact(k5.get j (by omega)).trans (kp j hj)
    ·rcases nw2 j hj with h | h
     ·exact nr j h
     ·simp only[upd_size,add_size] at h;have:=k3.le;omega
  ·obtain rfl:i=cs.length:=by omega
   have q1:decide ((cs.length:Int)<cs.length)=false:=DF
   rw[List.take_length] at sm
   simp (disch:=try exact SX) only[RV,seval,g4,g10,g11]
   exact k _ _ w le kp sm nr wm
def cO1:ACode:=(.seq (.region [⟨some 5,.alloc 37 (.agg #[(.int .u8 0),(.int .u32 0),(.int .u8 0),(.int .i64 0)]),none,[]⟩,⟨none,.store 4 (.tmp 5) (.tmp 12),none,[]⟩] false) (.region [⟨some 6,.alloc 37 (.agg #[(.int .u8 0),(.int .u32 0),(.int .u8 0),(.int .i64 0)]),none,[]⟩,⟨none,.store 4 (.tmp 6) (.tmp 13),none,[]⟩] false))
def cO2:ACode:=(.block 1 (.scope (.seq (.region [⟨some 7,.alloc 37 (.agg #[(.int .u8 0),(.int .u32 0),(.int .u8 0),(.int .i64 0)]),none,[]⟩] false) (.seq .label (.seq (.block 2 (.loop (.seq (.seq (.region [⟨some 14,.load 1 false (.tmp 3),none,[]⟩,⟨some 15,.len (.tmp 14),none,[]⟩,⟨some 16,.pur (mkO (.binOp .gtr 3 (.tmp 15) (.const (.int .i64 0)) 3) 4),none,[]⟩] false) (.cond (.tmp 16) .skip (.exit 2))) (.block 3 (.seq (.region [⟨some 17,.load 1 false (.tmp 3),none,[]⟩,⟨some 18,.load 1 false (.tmp 3),none,[]⟩,⟨some 19,.len (.tmp 18),none,[]⟩,⟨some 20,.pur (mkO (.binOp .sub 3 (.tmp 19) (.const (.int .i64 1)) 3) 3),none,[]⟩,⟨some 21,.iad 4 (.tmp 17) (.tmp 20),none,[]⟩,⟨some 22,.load 4 true (.tmp 21),none,[]⟩,⟨some 8,.alloc 37 (.agg #[(.int .u8 0),(.int .u32 0),(.int .u8 0),(.int .i64 0)]),none,[]⟩,⟨none,.store 4 (.tmp 8) (.tmp 22),none,[]⟩] false) (.seq (.seq (.region [⟨some 23,.load 4 true (.tmp 8),none,[]⟩,⟨some 24,.load 4 true (.tmp 6),none,[]⟩,⟨some 25,.pur (mkO (.binOp .eql 37 (.tmp 23) (.tmp 24) 37) 4),none,[]⟩] false) (.cond (.tmp 25) (.exit 2) .skip)) (.region [⟨some 26,.load 4 true (.tmp 8),none,[1,2,3,4,5]⟩,⟨some 27,.load 1 false (.tmp 3),none,[0,2,3,4,6]⟩,⟨some 28,.load 1 false (.tmp 3),none,[0,1,6]⟩,⟨some 29,.len (.tmp 28),none,[0,1,6]⟩,⟨some 30,.pur (mkO (.binOp .sub 3 (.tmp 29) (.const (.int .i64 1)) 3) 3),none,[0,1,6]⟩,⟨some 31,.slc 4 (.tmp 27) none (some (.tmp 30)) none,none,[0,6]⟩,⟨none,.store 4 (.tmp 7) (.tmp 26),none,[1,2,3,4,5]⟩,⟨none,.store 1 (.tmp 3) (.tmp 31),none,[]⟩] true))))))) (.seq (.seq (.region [⟨some 32,.load 1 false (.tmp 3),none,[]⟩,⟨some 33,.len (.tmp 32),none,[]⟩,⟨some 34,.pur (mkO (.binOp .eql 3 (.tmp 33) (.const (.int .i64 0)) 3) 4),none,[]⟩,⟨some 35,.mov (.tmp 34),none,[]⟩,⟨some 36,.load 4 true (.tmp 6),some (35,true),[]⟩,⟨some 37,.build (.agg #[(.int .u8 0),(.int .u32 0),(.int .u8 0),(.int .i64 0)]) [],some (35,true),[]⟩,⟨some 38,.pur (mkO (.binOp .neq 37 (.tmp 36) (.tmp 37) 37) 4),some (35,true),[]⟩,⟨some 39,.pick (.tmp 35) (.tmp 38) (.const (.bool false)),none,[]⟩,⟨some 40,.mov (.tmp 39),none,[]⟩,⟨some 41,.load 4 true (.tmp 7),some (40,false),[]⟩,⟨some 42,.build (.agg #[(.int .u8 0),(.int .u32 0),(.int .u8 0),(.int .i64 0)]) [],some (40,false),[]⟩,⟨some 43,.pur (mkO (.binOp .neq 37 (.tmp 41) (.tmp 42) 37) 4),some (40,false),[]⟩,⟨some 44,.mov (.tmp 43),some (40,false),[]⟩,⟨some 45,.load 4 true (.tmp 5),some (44,true),[]⟩,⟨some 46,.load 4 true (.tmp 7),some (44,true),[]⟩,⟨some 47,.call (.func 72) [(.tmp 45),(.tmp 46)],some (44,true),[]⟩,⟨some 48,.pur (mkO (.unOp .not 4 (.tmp 47)) 4),some (44,true),[]⟩,⟨some 49,.pick (.tmp 44) (.tmp 48) (.const (.bool false)),some (40,false),[]⟩,⟨some 50,.pick (.tmp 40) (.const (.bool true)) (.tmp 49),none,[]⟩,⟨some 51,.mov (.tmp 50),none,[]⟩,⟨some 52,.load 1 false (.tmp 4),some (51,false),[]⟩,⟨some 53,.load 4 true (.tmp 5),some (51,false),[]⟩,⟨some 54,.lookup 37 (.int .i64 0) (.tmp 52) (.tmp 53) false,some (51,false),[]⟩,⟨some 55,.pur (mkO (.binOp .gtr 3 (.tmp 54) (.const (.int .i64 0)) 3) 4),some (51,false),[]⟩,⟨some 56,.pick (.tmp 51) (.const (.bool true)) (.tmp 55),none,[]⟩] false) (.cond (.tmp 56) (.seq (.region [⟨none,.store 1 (.tmp 2) (.const (.bool false)),none,[]⟩] false) .ret) .skip)) (.seq (.region [⟨some 57,.load 1 false (.tmp 4),none,[]⟩,⟨some 58,.load 4 true (.tmp 5),none,[]⟩,⟨none,.mupd 37 (.tmp 57) (.tmp 58) (.const (.int .i64 1)),none,[]⟩] false) (.region [⟨some 59,.load 1 false (.tmp 3),none,[]⟩,⟨some 60,.load 4 true (.tmp 5),none,[]⟩,⟨some 61,.bsl 37 4 (.agg #[(.int .u8 0),(.int .u32 0),(.int .u8 0),(.int .i64 0)]) 1 [(0,4,(.tmp 60))],none,[]⟩,⟨some 62,.app 37 4 24 (.agg #[(.int .u8 0),(.int .u32 0),(.int .u8 0),(.int .i64 0)]) (.tmp 59) (.tmp 61),none,[]⟩,⟨none,.store 1 (.tmp 3) (.tmp 62),none,[]⟩] false))))))))
structure OI (tm:List AV) (pre:List (Eid × Eid)) (O:Nat→Prop) (N:Mem):Prop where
 wf:Wf N
 sz:7≤N.size
 g0:N.get 0=some (.row false [BL false])
 g1:∃ o,N.get 1=some (.row false [o])∧SlP N 4 zBW o (stk pre).reverse ∧ ∀ j,rowOf o=some j→O j∧7≤j
 g2:∃ obj,N.get 2=some obj∧IsSet idA (I64 1) obj (pre.map (·.1))
 g3:N.get 3=some (.row false [.mp 2])
 g5:N.get 5=some (.dfr false)
 g6:N.get 6=some (.loop .ready none tm [12,13] cO1 cO2 5)
 o1:O 1
 o2:O 2
 o6:O 6
 ol:∀ j,O j→j<N.size∧(j=1∨j=2∨6≤j)
 od:Ord pre
theorem OI.keep {tm:List AV}{pre:List (Eid × Eid)}{O:Nat→Prop}{N N':Mem}(h:OI tm pre O N)(wf:Wf N')(hs:N.size≤N'.size)(k:∀ j,j<N.size→N'.get j=N.get j):OI tm pre O N':=by
 have:=h.sz
 obtain⟨o,h1,h2,h3⟩:=h.g1
 obtain⟨obj,h4,h5⟩:=h.g2
 exact⟨wf,by omega,(k 0 (by omega)).trans h.g0,⟨o,(k 1 (by omega)).trans h1,h2.keep fun j hj=>k j (h2.lt j hj),h3⟩,⟨obj,(k 2 (by omega)).trans h4,h5⟩,(k 3 (by omega)).trans h.g3,(k 5 (by omega)).trans h.g5,(k 6 (by omega)).trans h.g6,h.o1,h.o2,h.o6,fun j hj=>⟨by have:=(h.ol j hj).1;omega,(h.ol j hj).2⟩,h.od⟩
structure OS (tm:List AV) (N:Mem):Prop where
 wf:Wf N
 sz:7≤N.size
 g0:N.get 0=some (.row false [BL false])
 g5:N.get 5=some (.dfr false)
 g6:N.get 6=some (.loop .done (some .ret) tm [12,13] cO1 cO2 5)
theorem zDB:FzT zBW:=fun r x h y hy=>by
 obtain⟨rfl,_⟩:=h
 exact zAQ x y hy
theorem zHJ (af:Eid):∀ (s:List Eid) (el:Eid),(popT af s el).2.length≤s.length
 | [],_=>Nat.le_refl _
 | t::s,el=>by
  rw[popT]
  split
  ·exact Nat.le_refl _
  ·exact Nat.le_trans (zHJ af s t) (Nat.le_succ _)
theorem zN9 (l:List (Eid × Eid)):(stk l).length≤l.length:=by
 refine zAN (P:=fun l=>(stk l).length≤l.length) (Nat.le_refl _) (fun l x ih=>?_) l
 rw[zBO,List.length_cons,List.length_append]
 have:=zHJ x.2 (stk l) Eid.z
 simp only[List.length_singleton]
 omega
theorem zNR {B:Nat}{tm:List AV}{pre:List (Eid × Eid)}{O:Nat→Prop}{x:Eid × Eid}(h:OI tm pre O M)(h2:nth undefA tm 2 = .ptr 0 0)(h3':nth undefA tm 3 = .ptr 1 0)(h4':nth undefA tm 4 = .ptr 3 0)(hlen:tm.length=63)(hx:x.1.ok)(hn:pre.length≤100000)(hf:pre.length+10<fuel) :
  W3 (callN Tryz.prog (fsT tbl) fuel (d+7) (.yl 6) [idA x.1,idA x.2] M) (fun v N'=>(v=BL true∧Yl (OI tm) (pre++[x]) O B M N')∨(v=BL false∧OS tm N'∧ordS x (stk pre) (pre.map (·.1))=false)):=by
 obtain⟨o,g1,sp,ro⟩:=h.g1
 obtain⟨obj,gm2,hset⟩:=h.g2
 have wf:=h.wf
 have sz:=h.sz
 have hsl:=zN9 pre
 have g6:=h.g6
 refine call_ylE g6 rfl ?_
 have e1:setAll tm [12,13] [idA x.1,idA x.2]=St tm [(13,idA x.2),(12,idA x.1)]:=rfl
 rw[e1]
 unfold cO1 cO2
 simp (disch:=try exact SX) only[RV,seval,wf]
 refine⟨tm,[12,13],_,_,5,g6, ?_⟩
 generalize hX:((((((M.add _).upd M.size _).add _).upd (M.size+1) _).upd 6 _).add _)=X
 have wX:Wf X:=by rw[← hX];exact((((((wf.add _).upd _ _).add _).upd _ _).upd _ _).add _)
 have sX:X.size=M.size+1+1+1:=by rw[← hX];rfl
 have gX:∀ j,j<M.size→j≠6→X.get j=M.get j:=fun j a b=>by
  rw[← hX,get_add (((((wf.add _).upd _ _).add _).upd _ _).upd _ _) _ _ (by simp only[upd_size,add_size];omega),get_upd_ne ((((wf.add _).upd _ _).add _).upd _ _) _ _ _ (fun e=>b e.symm),get_upd_ne (((wf.add _).upd _ _).add _) _ _ _ (by omega),get_add ((wf.add _).upd _ _) _ _ (by simp only[upd_size,add_size];omega),get_upd_ne (wf.add _) _ _ _ (by omega),get_add wf _ _ a]
 have x6:X.get 6=some (.loop .busy none tm [12,13] cO1 cO2 5):=by
  rw[← hX,get_add (((((wf.add _).upd _ _).add _).upd _ _).upd _ _) _ _ (by simp only[upd_size,add_size];omega),get_upd_eq ((((wf.add _).upd _ _).add _).upd _ _) _ _ (by simp only[upd_size,add_size];omega)]
 have xa:X.get M.size=some (.row false (idR x.1)):=by
  rw[← hX,get_add (((((wf.add _).upd _ _).add _).upd _ _).upd _ _) _ _ (by simp only[upd_size,add_size];omega),get_upd_ne ((((wf.add _).upd _ _).add _).upd _ _) _ _ _ (by omega),get_upd_ne (((wf.add _).upd _ _).add _) _ _ _ (by omega),get_add ((wf.add _).upd _ _) _ _ (by simp only[upd_size,add_size];omega),get_upd_eq (wf.add _) _ _ (by simp only[add_size];omega)]
 have xb:X.get (M.size+1)=some (.row false (idR x.2)):=by
  rw[← hX,get_add (((((wf.add _).upd _ _).add _).upd _ _).upd _ _) _ _ (by simp only[upd_size,add_size];omega),get_upd_ne ((((wf.add _).upd _ _).add _).upd _ _) _ _ _ (by omega),get_upd_eq (((wf.add _).upd _ _).add _) _ _ (by simp only[upd_size,add_size];omega)]
 have xc:X.get (M.size+1+1)=some (.row false (idR Eid.z)):=by
  rw[← hX]
  exact get_add_new (((((wf.add _).upd _ _).add _).upd _ _).upd _ _) _ _ (by simp only[upd_size,add_size];omega) (by simp only[upd_size,add_size];omega)
 clear hX
 have spX:SlP X 4 zBW o (stk pre).reverse:=sp.keep fun j hj=>gX j (sp.lt j hj) (by have:=ro j hj;omega)
 refine w_loop (I:=fun n t N => ∃ (i:Nat) (o':AV),n=(stk pre).length - i∧i≤(stk pre).length∧nth undefA t 2 = .ptr 0 0∧nth undefA t 3 = .ptr 1 0∧nth undefA t 4 = .ptr 3 0∧nth undefA t 5 = .ptr M.size 0∧nth undefA t 6 = .ptr (M.size+1) 0∧nth undefA t 7 = .ptr (M.size+1+1) 0∧Wf N∧X.size≤N.size∧(∀ j,j<M.size→j≠1→N.get j=X.get j)∧N.get 1=some (.row false [o'])∧SlP N 4 zBW o' ((stk pre).drop i).reverse∧rowOf o'=rowOf o∧N.get M.size=some (.row false (idR x.1))∧N.get (M.size+1)=some (.row false (idR x.2))∧N.get (M.size+1+1)=some (.row false (idR (((stk pre).take i).getLast?.getD Eid.z)))∧(∀ t∈(stk pre).take i,t≠x.2)) (n:=(stk pre).length) (by omega) ?_ ?_
 ·refine⟨0,o,rfl,Nat.zero_le _, ?_, ?_, ?_, ?_, ?_, ?_,wX,Nat.le_refl _,(fun _ _ _=>rfl),((gX 1 (by omega) (by omega)).trans g1),(by rw[List.drop_zero];exact spX),rfl,xa,xb,(by rw[List.take_zero];exact xc),(fun t ht=>absurd ht (by simp))⟩ <;> simp (disch:=try exact SX) only[RV,seval,h2,h3',h4']
  all_goals first | rfl | assumption | done
 ·rintro n t N hlt ⟨i,o',rfl,hi,g2,g3,g4,g5,g6,g7,w,le,kk,c1,spN,ro',ca,cb,cc,hm⟩
  simp only[hlen] at hlt ⊢
  have olen:=spN.len
  have oo':=spN.one
  rw[List.length_reverse,List.length_drop] at olen
  have l1:=Mem.get_lt c1
  have la:=Mem.get_lt ca
  have lb:=Mem.get_lt cb
  have lc:=Mem.get_lt cc
  by_cases hc:i<(stk pre).length
  ·have q1:decide ((0:Int)<((stk pre).length - i:Nat))=true:=DT
   have hil:(stk pre).length - i - 1<((stk pre).drop i).reverse.length:=by rw[List.length_reverse,List.length_drop];omega
   obtain⟨rid,cs,r,hrow,lrid,hgr,hiad,hr,hrl,hpt⟩:=spN.at hil
   have w1:IntKind.i64.wrap (((stk pre).length - i:Nat) - 1)=((stk pre).length - i - 1:Nat):=WI
   obtain⟨oc,hslc,spc,roc⟩:=spN.cut (by omega) (n:=(stk pre).length - i - 1) (by omega)
   have hel:((stk pre).drop i).reverse[(stk pre).length - i - 1]=(stk pre)[i]:=by
    rw[List.getElem_reverse,List.getElem_drop]
    congr 1
    rw[List.length_drop];omega
   rw[hel] at hr
   obtain⟨rfl,hrok⟩:=hr
   simp (disch:=try exact SX) only[RV,seval,g3,g6,olen,q1,w1,c1,hiad,hgr,hpt,cb,↓pIdE,zA0,ETA]
   by_cases hte:(stk pre)[i]=x.2
   ·have q2:decide ((stk pre)[i]=x.2)=true:=decide_eq_true hte
    have hpop:=zDX (el:=Eid.z) (q:=(stk pre).drop i) hm (.inr ⟨(stk pre).drop (i+1),by rw[List.drop_eq_getElem_cons hc,hte]⟩)
    rw[List.take_append_drop] at hpop
    have hne:decide (((((stk pre).length - i:Nat):Int))=0)=false:=DF
    have hqz:decide ((stk pre).drop i=[])=false:=decide_eq_false (fun e=>by have:=congrArg List.length e;rw[List.length_drop] at this;simp at this;omega)
    simp (disch:=try exact SX) only[RV,seval,g3,olen,q2,c1]
    generalize hY:(N.add _).upd N.size _=Y
    have wY:Wf Y:=by rw[← hY];exact(w.add _).upd _ _
    have kY:∀ j,j<N.size→Y.get j=N.get j:=fun j hj=>by
     rw[← hY,get_upd_ne (w.add _) _ _ _ (by omega),get_add w _ _ hj]
    clear hY
    have y0:Y.get 0=some (.row false [BL false]):=(kY 0 (by omega)).trans ((kk 0 (by omega) (by omega)).trans ((gX 0 (by omega) (by omega)).trans h.g0))
    have y1:=(kY 1 (by omega)).trans c1
    have y2:=(kY 2 (by omega)).trans ((kk 2 (by omega) (by omega)).trans ((gX 2 (by omega) (by omega)).trans gm2))
    have y3:=(kY 3 (by omega)).trans ((kk 3 (by omega) (by omega)).trans ((gX 3 (by omega) (by omega)).trans h.g3))
    have y6:=(kY 6 (by omega)).trans ((kk 6 (by omega) (by omega)).trans x6)
    have ya:=(kY _ (by omega)).trans ca
    have yc:=(kY _ (by omega)).trans cc
    have yj:∀ j,j<M.size→j≠1→j≠6→Y.get j=M.get j:=fun j a b c=>(kY j (by omega)).trans ((kk j a b).trans (gX j a c))
    have spY:SlP Y 4 zBW o' ((stk pre).drop i).reverse:=spN.keep fun j hj=>kY j (spN.lt j hj)
    clear kY kk w c1 ca cb cc spN l1 la lb lc
    have l1:=Mem.get_lt y1
    have la:=Mem.get_lt ya
    have lc:=Mem.get_lt yc
    have l2:=Mem.get_lt y2
    have l3:=Mem.get_lt y3
    have l0:=Mem.get_lt y0
    have hlk:=lk_set zET (z:=.int .i64 0) y2 hset x.1
    unfold ordS
    rw[hpop]
    simp only[hqz]
    have hql:((stk pre).drop i).length≤pre.length:=by rw[List.length_drop];omega
    generalize (stk pre).drop i=q at *
    generalize ((stk pre).take i).getLast?.getD Eid.z=el at *
    have hls:=fun M=>@zC4 fuel (d+4) x.1 el M
    have c2:True:=trivial
    cases c3:decide (el=Eid.z)
    ·cases c4:x.1.less el
     ·rw[c4] at hls
      simp (disch:=try exact SX) only[RV,seval,fillA,g2,g5,g7,hne,y0,ya,yc,wY,↓pIdN,zA4,ETA,c3,hls]
      exact zB02
     ·rw[c4] at hls
      by_cases c5:x.1∈pre.map (·.1)
      ·simp only[c5,if_true] at hlk
       simp (disch:=try exact SX) only[RV,seval,fillA,g2,g4,g5,g7,hne,y0,y3,ya,yc,wY,↓pIdN,zA4,ETA,c3,hls,x_lk,hlk]
       exact zB02
      ·simp only[c5,if_false] at hlk
       simp (disch:=try exact SX) only[RV,seval,fillA,g4,g5,g7,hne,y3,ya,yc,↓pIdN,zA4,ETA,c3,hls,x_lk,hlk,x_mu]
       exact zB01
    ·skip
     by_cases c5:x.1∈pre.map (·.1)
     ·simp only[c5,if_true] at hlk
      simp (disch:=try exact SX) only[RV,seval,fillA,g2,g4,g5,g7,hne,y0,y3,ya,yc,wY,↓pIdN,zA4,ETA,c3,x_lk,hlk]
      exact zB02
     ·simp only[c5,if_false] at hlk
      simp (disch:=try exact SX) only[RV,seval,fillA,g4,g5,g7,hne,y3,ya,yc,↓pIdN,zA4,ETA,c3,x_lk,hlk,x_mu]
      exact zB01
   ·have q2:decide ((stk pre)[i]=x.2)=false:=decide_eq_false hte
    simp (disch:=try exact SX) only[RV,seval,g3,olen,q2,w1,c1]
    refine⟨spN.rows (by omega), ?_⟩
    rw[hslc _ (fun id hid=>by
     have:=spN.lt id hid
     rw[get_upd_ne (w.add _) _ _ _ (by omega),get_add w _ _ this])]
    have oco:=spc.one
    have occ:=spc.cells
    simp (disch:=try exact SX) only[RV,seval,g2,g3,g4,g5,g6,g7,occ,c1,ca,cb,cc,w]
    have ror:=spN.row1 hrow
    have rid7:7≤rid∧rid<M.size:=by
     have e:rowOf o=some rid:=ro' ▸ hrow
     exact⟨(ro rid e).2,sp.lt rid e⟩
    refine⟨?_,hlt,(stk pre).length - (i+1),by omega,i+1,oc,rfl,by omega,by omega,fun j a b=>?_,rfl, ?_,roc.trans ro', ?_, ?_⟩
    ·have e2:¬(M.size+1+1=rid):=by omega
     rw[ror]
     simp [FP.apart,disj,FP.reads,FP.writes,fpOf,e2]
    ·rw[get_upd_ne (((w.add _).upd _ _).upd _ _) _ _ _ (by omega),get_upd_ne ((w.add _).upd _ _) _ _ _ (by omega),get_upd_ne (w.add _) _ _ _ (by omega),get_add w _ _ (by omega)]
     exact kk j a b
    ·have e:((stk pre).drop i).reverse.take ((stk pre).length - i - 1)=((stk pre).drop (i+1)).reverse:=by
      rw[List.take_reverse,List.drop_drop,List.length_drop]
      congr 2
      omega
     rw[← e]
     refine spc.keep fun j hj=>?_
     rw[roc,hrow] at hj
     injection hj with hj
     subst hj
     rw[get_upd_ne (((w.add _).upd _ _).upd _ _) _ _ _ (by omega),get_upd_ne ((w.add _).upd _ _) _ _ _ (by omega),get_upd_ne (w.add _) _ _ _ (by omega),get_add w _ _ (by omega)]
    ·have e:((stk pre).take (i+1)).getLast?.getD Eid.z=(stk pre)[i]:=by
      rw[zAF _ _ hc,List.getLast?_concat];rfl
     rw[e]
    ·intro t ht
     rw[zAF _ _ hc] at ht
     rcases List.mem_append.1 ht with ht | ht
     ·exact hm t ht
     ·rw[List.mem_singleton] at ht;subst ht;exact hte
  ·obtain rfl:i=(stk pre).length:=by omega
   have q1:decide ((0:Int)<((stk pre).length - (stk pre).length:Nat))=false:=DF
   have hne:decide (((((stk pre).length - (stk pre).length:Nat):Int))=0)=true:=DT
   have hqz:decide ((stk pre).drop (stk pre).length=[])=true:=decide_eq_true (List.drop_length)
   have hpop:=zDX (el:=Eid.z) (q:=(stk pre).drop (stk pre).length) hm (.inl List.drop_length)
   rw[List.take_append_drop] at hpop
   simp (disch:=try exact SX) only[RV,seval,g3,olen,q1,c1]
   obtain⟨Y,hY⟩:∃ Y,Y=N:=⟨N,rfl⟩
   rw[← hY]
   have wY:Wf Y:=by rw[hY];exact w
   have kY:∀ j,j<N.size→Y.get j=N.get j:=fun j hj=>by rw[hY]
   clear hY
   have y0:Y.get 0=some (.row false [BL false]):=(kY 0 (by omega)).trans ((kk 0 (by omega) (by omega)).trans ((gX 0 (by omega) (by omega)).trans h.g0))
   have y1:=(kY 1 (by omega)).trans c1
   have y2:=(kY 2 (by omega)).trans ((kk 2 (by omega) (by omega)).trans ((gX 2 (by omega) (by omega)).trans gm2))
   have y3:=(kY 3 (by omega)).trans ((kk 3 (by omega) (by omega)).trans ((gX 3 (by omega) (by omega)).trans h.g3))
   have y6:=(kY 6 (by omega)).trans ((kk 6 (by omega) (by omega)).trans x6)
   have ya:=(kY _ (by omega)).trans ca
   have yb:=(kY _ (by omega)).trans cb
   have yc:=(kY _ (by omega)).trans cc
   have yj:∀ j,j<M.size→j≠1→j≠6→Y.get j=M.get j:=fun j a b c=>(kY j (by omega)).trans ((kk j a b).trans (gX j a c))
   have spY:SlP Y 4 zBW o' ((stk pre).drop (stk pre).length).reverse:=spN.keep fun j hj=>kY j (spN.lt j hj)
   clear kY kk w c1 ca cb cc spN l1 la lb lc
   have l1:=Mem.get_lt y1
   have la:=Mem.get_lt ya
   have lb:=Mem.get_lt yb
   have lc:=Mem.get_lt yc
   have l2:=Mem.get_lt y2
   have l3:=Mem.get_lt y3
   have l0:=Mem.get_lt y0
   have hlk:=lk_set zET (z:=.int .i64 0) y2 hset x.1
   unfold ordS
   rw[hpop]
   simp only[hqz]
   have hql:((stk pre).drop (stk pre).length).length≤pre.length:=by rw[List.length_drop];omega
   generalize (stk pre).drop (stk pre).length=q at *
   generalize ((stk pre).take (stk pre).length).getLast?.getD Eid.z=el at *
   have hls:=fun M=>@zC4 fuel (d+4) x.1 el M
   cases c2:decide (x.2=Eid.z)
   ·simp (disch:=try exact SX) only[RV,seval,fillA,g2,g6,hne,y0,yb,wY,↓pIdN,zA4,ETA,c2]
    exact zB02
   ·skip
    cases c3:decide (el=Eid.z)
    ·cases c4:x.1.less el
     ·rw[c4] at hls
      simp (disch:=try exact SX) only[RV,seval,fillA,g2,g5,g6,g7,hne,y0,ya,yb,yc,wY,↓pIdN,zA4,ETA,c2,c3,hls]
      exact zB02
     ·rw[c4] at hls
      by_cases c5:x.1∈pre.map (·.1)
      ·simp only[c5,if_true] at hlk
       simp (disch:=try exact SX) only[RV,seval,fillA,g2,g4,g5,g6,g7,hne,y0,y3,ya,yb,yc,wY,↓pIdN,zA4,ETA,c2,c3,hls,x_lk,hlk]
       exact zB02
      ·simp only[c5,if_false] at hlk
       simp (disch:=try exact SX) only[RV,seval,fillA,g4,g5,g6,g7,hne,y3,ya,yb,yc,↓pIdN,zA4,ETA,c2,c3,hls,x_lk,hlk,x_mu]
       exact zB01
    ·skip
     by_cases c5:x.1∈pre.map (·.1)
     ·simp only[c5,if_true] at hlk
      simp (disch:=try exact SX) only[RV,seval,fillA,g2,g4,g5,g6,g7,hne,y0,y3,ya,yb,yc,wY,↓pIdN,zA4,ETA,c2,c3,x_lk,hlk]
      exact zB02
     ·simp only[c5,if_false] at hlk
      simp (disch:=try exact SX) only[RV,seval,fillA,g4,g5,g6,g7,hne,y3,ya,yb,yc,↓pIdN,zA4,ETA,c2,c3,x_lk,hlk,x_mu]
      exact zB01
theorem zHZ {a:AV}{l:List Rn}(hS:Sl 10 isRn a l)(wf:Wf M)(k:Q (.fn 154 [] [.ptr M.size 0]) (M.add (.row false [a]))) :
  W3 (zCN fuel (d+1) 139 [a] M) Q:=by
 refine call_0 tf139 rfl (by simp [a139]) fun b' ht hx=>?_
 have h0:=hx 0 _ rfl
 clear hx
 simp only[a139,c139] at ht ⊢
 simp (disch:=try exact SX) only[RV,seval,h0,hS.fz.cells]
 exact k
theorem zNW {a:AV}{l:List Rn}(hS:Sl 10 isRn a l):∀ r∈l,r.ok:=by
 intro r hr
 obtain⟨i,hi,rfl⟩:=List.getElem_of_mem hr
 obtain⟨_,_,⟨_,_,_,hok⟩,_⟩:=hS.iad i hi
 exact hok
theorem zNH {l:List Rn}(h:∀ r∈l,r.ok)(hm:∀ r∈l,r.may=true):∀ x∈elsL l,x.1.ok:=by
 intro x hx
 obtain⟨r,hr,hx⟩:=List.mem_flatMap.1 hx
 obtain⟨i,hi,rfl⟩:=List.mem_map.1 hx
 rw[List.mem_range] at hi
 have hb:=Spn.may_le (Rn.may_sp (hm r hr))
 have hk:=h r hr
 refine⟨hk.1.1.1, ?_⟩
 simp only[Spn.at,i64R]
 omega
theorem zI1 {l:List Rn}(hm:∀ r∈l,r.may=true):(elsL l).length≤64*l.length:=by
 have:=zBT hm
 have e:=zBJ hm
 rw[← zF2]
 unfold prs
 rw[List.length_map]
 omega
theorem zMR {X:Mem}{tm:List AV}{a:AV}{l:List Rn}(hS:Sl 10 isRn a l)(hl:l.length≤1000)(hm:∀ r∈l,r.may=true)(hf:64*l.length+1000<fuel)(w:Wf X)(h2:nth undefA tm 2 = .ptr 0 0)(h3:nth undefA tm 3 = .ptr 1 0)(h4:nth undefA tm 4 = .ptr 3 0)(hlen:tm.length=63)(hX:X.size=5)(g0:X.get 0=some (.row false [BL false]))(g1:X.get 1=some (.row false [NIL]))(g2:X.get 2=some (.map [] 0))(g3:X.get 3=some (.row false [.mp 2]))(g4:X.get 4=some (.row false [a]))
  (kt:Ord (elsL l) → ∀ u O N,OI tm (elsL l) O N→Q u N) (ks:¬Ord (elsL l) → ∀ u N,OS tm N→Q u N) :
  W3 (zCN fuel (d+8) 154 ([]++[.yl (X.size+1)]++[.ptr 4 0]) ((X.add (.dfr false)).add (.loop .ready none tm [12,13] cO1 cO2 X.size))) Q:=by
 have w1:=w.add (.dfr false)
 have hel:=zI1 hm
 have heo:=zNH (zNW hS) hm
 have e:X.size+1=6:=by omega
 have u:∀ j,j<5→((X.add (.dfr false)).add (.loop .ready none tm [12,13] cO1 cO2 X.size)).get j=X.get j:=fun j hj=>by
  rw[get_add w1 _ _ (by rw[add_size];omega),get_add w _ _ (by omega)]
 have hJ0:OI tm [] (fun j=>j=1∨j=2∨j=6) ((X.add (.dfr false)).add (.loop .ready none tm [12,13] cO1 cO2 X.size)):=by
  refine⟨w1.add _,by simp only[add_size];omega,(u 0 (by omega)).trans g0,⟨NIL,(u 1 (by omega)).trans g1,SlP.nil,fun j hj=>by cases hj⟩,⟨_,(u 2 (by omega)).trans g2,IsSet.nil _ _⟩,(u 3 (by omega)).trans g3, ?_, ?_,.inl rfl,.inr (.inl rfl),.inr (.inr rfl), ?_,Ord.nil⟩
  ·rw[get_add w1 _ _ (by rw[add_size];omega),← hX]
   exact get_add_new w _ _ (Nat.le_refl _) (Nat.lt_succ_self _)
  ·have:=get_add_new w1 (.loop .ready none tm [12,13] cO1 cO2 X.size) 6 (by rw[add_size];omega) (by rw[add_size];omega)
   rw[hX] at this ⊢
   exact this
  ·intro j hj
   simp only[add_size]
   rcases hj with rfl | rfl | rfl <;> omega
 have key:=zKR (d:=d) (fuel:=fuel) (Q:=Q) (J:=OI tm) (S:=fun N=>OS tm N ∧ ¬Ord (elsL l)) (id:=6) (p:=4) hS (by omega) hm (by omega) (w1.add _) ((u 4 (by omega)).trans g4) hJ0 (fun pre O N N' h wf le k=>h.keep wf le k) (fun pre O N h j hj=>(h.ol j hj).1) (fun pre x post O N he h wf le=>?_) (fun u N O h _ _=>kt h.od u O N h) (fun u N h=>ks h.2 u N h.1)
 ·rw[← e] at key
  exact key
 ·have hxm:x∈elsL l:=by rw[he];simp
  have hpl:pre.length≤(elsL l).length:=by rw[he];simp
  obtain⟨v,N',hc,hv⟩:=zNR (fuel:=fuel) (d:=d) (B:=((X.add (.dfr false)).add (.loop .ready none tm [12,13] cO1 cO2 X.size)).size) h h2 h3 h4 hlen (heo x hxm) (by omega) (by omega)
  refine⟨v,N',hc, ?_⟩
  rcases hv with⟨rfl,hv⟩ | ⟨rfl,hv,ho⟩
  ·exact .inl ⟨rfl,hv⟩
  ·refine .inr ⟨rfl,hv,fun k=>?_⟩
   rw[k pre x post he] at ho
   cases ho
open Classical in
theorem zGI {a:AV}{l:List Rn}(hS:Sl 10 isRn a l)(hl:l.length≤1000)(hm:∀ r∈l,r.may=true)(hf:64*l.length+1000<fuel)(M:Mem):zCN fuel (d+9) 102 [a] M=some (BL (decide (Ord (elsL l))),M):=by
 apply w3_eq
 refine call_gc tf102 rfl (by simp only[icyL,fun M=>hS.icy M 12 (by omega)]) (by simp [a102]) fun b' ht hx=>?_
 have h0:=hx 0 _ rfl
 clear hx
 simp only[a102,c102] at ht ⊢
 have cm:cellsA (.mp 2)=[.mp 2]:=rfl
 have om:oneA (.mp 2)=true:=rfl
 have sm:scs (.map none)=[.sc (.map none)]:=rfl
 simp (disch:=try exact SX) only[RV,seval,h0,x_mkmap,cm,sm]
 refine zHZ hS (by simp (disch:=try exact SX) only[RV]) ?_
 simp (disch:=try exact SX) only[RV,seval]
 refine w_rangeE (g:=154) (first:=[]) (cap:=[.ptr 4 0]) (by simp (disch:=try exact SX) only[RV]) (by simp (disch:=try exact SX) only[RV,seval]) ?_
 refine zMR (d:=d) hS hl hm hf ?_ ?_ ?_ ?_ ?_ ?_ ?_ ?_ ?_ ?_ ?_ (fun ho u O N h=>?_) (fun ho u N h=>?_)
 ·exact zB04
 ·exact zB0f
 ·exact zB0f
 ·exact zB0f
 ·rw[St_len];exact ht
 ·exact zB0f
 ·exact zB04
 ·exact zB04
 ·exact zB04
 ·exact zB04
 ·exact zB04
 ·have wf:=h.wf
  have sz:=h.sz
  refine⟨wf,by simp only[add_size,upd_size,mem0_size];omega,_,_,_,_,_,_,_,.inl rfl,h.g6, ?_⟩
  generalize hX:N.upd _ _=X
  have wX:Wf X:=by rw[← hX];exact wf.upd _ _
  have sX:X.size=N.size:=by rw[← hX];rfl
  have gX:∀ j,j≠6→X.get j=N.get j:=fun j hj=>by rw[← hX];exact get_upd_ne wf _ _ _ (fun e=>hj e.symm)
  have x0:=(gX 0 (by omega)).trans h.g0
  have x5:=(gX 5 (by omega)).trans h.g5
  have hd:decide (Ord (elsL l))=true:=decide_eq_true ho
  rw[hd]
  simp (disch:=try exact SX) only[RV,seval,x0,Option.getD_none]
  refine fin_mark (by simp (disch:=try exact SX) only[RV,wX]) (by simp (disch:=try exact SX) only[RV,x5]) ?_
  exact zB0f
 ·have wf:=h.wf
  have sz:=h.sz
  refine⟨wf,by simp only[add_size,upd_size,mem0_size];omega,_,_,_,_,_,_,_,.inr rfl,h.g6, ?_⟩
  generalize hX:N.upd _ _=X
  have wX:Wf X:=by rw[← hX];exact wf.upd _ _
  have gX:∀ j,j≠6→X.get j=N.get j:=fun j hj=>by rw[← hX];exact get_upd_ne wf _ _ _ (fun e=>hj e.symm)
  have x0:=(gX 0 (by omega)).trans h.g0
  have x5:=(gX 5 (by omega)).trans h.g5
  have hd:decide (Ord (elsL l))=false:=decide_eq_false ho
  rw[hd]
  simp (disch:=try exact SX) only[RV,seval,Option.getD_some]
  refine fin_mark (by simp (disch:=try exact SX) only[wX]) (by simp (disch:=try exact SX) only[x5]) ?_
  simp (disch:=try exact SX) only[RV,seval,x0]
theorem zHV {o:Rn}{ra:AV}(hR:Sl 1 zA3 ra o.rs)(hf:100<fuel)(M:Mem):zCN fuel (d+7) 101 [.agg (rnR o ra)] M=some (BL (!o.may),M):=by
 have hck:=fun M=>@zAM fuel d o ra hR hf M
 apply w3_eq
 refine call_gc tf101 rfl (by simp only[icyL,zAP hR.fz]) (by simp [a101]) fun b' ht hx=>?_
 have h0:=hx 0 _ rfl
 clear hx
 simp only[a101,c101] at ht ⊢
 cases hm:o.may <;> rw[hm] at hck <;> simp (disch:=try exact SX) only[RV,seval,h0,hck,zA6,zAD]
open Classical in
noncomputable def zC7 (l:List Rn):Bool:=decide (zBA l)
open Classical in
theorem zNA {l:List Rn}(h:zBA l):zC7 l=true:=by unfold zC7;exact decide_eq_true h
open Classical in
theorem zFA {l:List Rn}(h:¬zBA l):zC7 l=false:=by unfold zC7;exact decide_eq_false h
open Classical in
theorem zG4 {l:List Rn}:zC7 l=true↔zBA l:=by unfold zC7;exact⟨of_decide_eq_true,fun h=>decide_eq_true h⟩
theorem zC8 {l:List Rn}(h:∀ r∈l,r.may=true):∀ r∈l,r.rs.length≤64:=fun r hr=>((Rn.may_iff.1 (h r hr)).2.2.2.1)
theorem zIV {a:AV}{l:List Rn}(hS:Sl 10 isRn a l)(hl:l.length≤1000)(hf:64*l.length+3001000<fuel)(M:Mem):zCN fuel (d+10) 67 [a] M=some (I64 (err (zC7 l)),M):=by
 have hh:=fun M=>has_g10 (P:=Tryz.prog) (fs:=fsT tbl) (fuel:=fuel) (l:=l) (ag:=true) (n:=d+7) tf100 tf138 (fun h=>by cases h) zB1 hS (by omega) (by omega) (fz_fn0 101) (p:=fun x => !x.may) (fun r x hr _ M=>by
  obtain⟨ra,rfl,hra,_⟩:=hr
  exact @zHV fuel d x ra hra (by omega) M) M
 rw[zIT] at hh
 apply w3_eq
 refine call_gc tf67 rfl (by simp only[icyL,fun M=>hS.icy M 12 (by omega)]) (by simp [a67]) fun b' ht hx=>?_
 have h0:=hx 0 _ rfl
 clear hx
 simp only[a67,c67] at ht ⊢
 cases hb:l.all Rn.may with
 | false =>
  rw[hb] at hh
  have hno:zC7 l=false:=zFA fun k=>by
   rw[List.all_eq_true.2 k.1] at hb;cases hb
  rw[hno]
  simp (disch:=try exact SX) only[RV,seval,h0,hh,zAD]
 | true =>
  rw[hb] at hh
  have hm:∀ r∈l,r.may=true:=List.all_eq_true.1 hb
  have hrs:=zC8 hm
  have hct:=fun M=>@zDL fuel (d+8) a l hS hm (by omega) (by omega) M
  have hord:=fun M=>@zGI fuel d a l hS hl hm (by omega) M
  obtain⟨r,hr,hlong⟩:=zCS (fuel:=fuel) (d:=d) hS (by omega) (fun r hr=>by have:=hrs r hr;omega) (by omega)
  have hmL:=(zAR hm).2
  have hrsL:=zC8 hmL
  have hlenL:(zAJ l).length≤64000:=by
   have e1:=zBJ hmL
   have e2:=zBT hm
   have e3:=zBJ hm
   rw[(zAR hm).1,(zB4 _).1] at e1
   have:(zAJ l).length≤(zA7 (zAJ l)):=by
    rw[(zAR hm).1]
    have hh:=(zB4 (elsR l)).2
    generalize zB2 (elsR l)=C at *
    clear e1
    induction C with
    | nil=>simp [zA7]
    | cons q C ih =>
     have:=ih (fun q hq=>hh q (List.mem_cons_of_mem _ hq))
     have:=(hh q List.mem_cons_self).1
     simp only[zA7,List.length_cons]
     omega
   rw[(zAR hm).1] at this ⊢
   omega
  have hsame:=fun M=>@zKB fuel (d+5) r a (zAJ l) l hr hS (by omega) (fun e he=>⟨by have:=hrsL e he;omega,by have:=hrsL e he;omega⟩) (by omega) M
  have or:=hr.one
  by_cases h1:zA7 l≤8192
  ·have q1:decide (8192<zA7 l)=false:=DF
   by_cases h2:Ord (elsL l)
   ·have ho:=@decide_eq_true _ (Classical.propDecidable (Ord (elsL l))) h2
    rw[ho] at hord
    by_cases h3:zAJ l=l
    ·have hyes:zC7 l=true:=zNA ⟨hm,h1,h2,h3⟩
     have hs:zF6 (zAJ l) l=true:=zG1.2 h3
     rw[hs] at hsame
     rw[hyes]
     simp (disch:=try exact SX) only[RV,seval,h0,hh,hct,q1,hord,hlong,hsame,zA6]
    ·have hno:zC7 l=false:=zFA fun k=>h3 k.2.2.2
     have hs:zF6 (zAJ l) l=false:=by
      cases hq:zF6 (zAJ l) l with
      | false=>rfl
      | true=>exact absurd (zG1.1 hq) h3
     rw[hs] at hsame
     rw[hno]
     simp (disch:=try exact SX) only[RV,seval,h0,hh,hct,q1,hord,hlong,hsame,zAD]
   ·have ho:=@decide_eq_false _ (Classical.propDecidable (Ord (elsL l))) h2
    rw[ho] at hord
    have hno:zC7 l=false:=zFA fun k=>h2 k.2.2.1
    rw[hno]
    simp (disch:=try exact SX) only[RV,seval,h0,hh,hct,q1,hord,zAD]
  ·have q1:decide (8192<zA7 l)=true:=DT
   have hno:zC7 l=false:=zFA fun k=>h1 k.2.1
   rw[hno]
   simp (disch:=try exact SX) only[RV,seval,h0,hh,hct,q1,zAD]
abbrev zRn:Value:=.agg #[.int .u8 0,.int .u32 0,.int .u8 0,.int .i64 0,.int .i64 0,.int .u8 0,.int .u32 0,.int .u8 0,.int .i64 0,.slice none 0 0]
theorem zNJ {n:Nat}(wf:Wf M)(hn:0<n)(hb:n≤1000000)(k:Q (.sl M.size 0 0 none 10) (M.add (.row false (repCells zRn n)))) :
  W3 (zCN fuel (d+1) 144 [NIL,I64 n] M) Q:=by
 have hz:=appz_nil (X:=M) (st:=10) (bytes:=80) (z:=zRn) wf rfl rfl hn (by omega) (by omega) (by omega)
 have e0:decide ((n:Int)<0)=false:=DF
 have e1:decide ((0:Int)<n)=true:=DT
 have w0:IntKind.i64.wrap 0=0:=by decide
 have w1:IntKind.i64.wrap ((n:Int) - 0)=n:=WI
 refine call_0 tf144 rfl (by simp [a144]) fun b' ht hx=>?_
 obtain⟨h0,h1⟩:=hx2 hx
 clear hx
 simp only[a144,c144] at ht ⊢
 have hs:=slc_to0 (M:=M.add (.row false (repCells zRn n))) (st:=10) (n:=n) (get_add_new wf (.row false (repCells zRn n)) M.size (Nat.le_refl _) (Nat.lt_succ_self _))
 simp (disch:=try exact SX) only[RV,seval,h0,h1,e0,e1,w0,w1,x_appz,x_cap,cap_nil,slc_nil0,hz,hs]
 exact k
theorem zIX {id:Nat}{a0 a1 a2:AV}{l0 l1 l2:List Rn}(wf:Wf M)(hg:M.get id=some (.row false [a0,a1,a2]))(h0':Sl 10 isRn a0 l0)(h1':SlM M 10 isRn a1 l1)(h2':Sl 10 isRn a2 l2)(hn:0<l1.length)(hb0:l0.length≤10000)(hb1:l1.length≤10000)(hb2:l2.length≤10000)(hf:100<fuel)(hw:M.wm≤M.size)
  (k:∀ o N,SlM N 10 isRn o (l0++l1++l2)→Kept M N→(∀ j,rowOf o=some j→M.size≤j)→oneA o=true→cellsA o=[o]→((rowsOf o).all fun i=>Nat.blt i N.size)=true→Q o N) :
  W3 (zCN fuel (d+2) 105 [.sl id 0 3 (some 3) 1] M) Q:=by
 have x0:=h0'.len
 have x1:=h1'.len
 have x2:=h2'.len
 have li:=Mem.get_lt hg
 have c3:((3:Nat):Int)=3:=rfl
 have t0:natOf (I64 0)=some 0:=rfl
 have t1:natOf (I64 1)=some 1:=rfl
 have t2:natOf (I64 2)=some 2:=rfl
 have v1:IntKind.i64.wrap 1=1:=by decide
 have v2:IntKind.i64.wrap 2=2:=by decide
 have v3:IntKind.i64.wrap 3=3:=by decide
 have w0:IntKind.i64.wrap (0+(l0.length:Int))=(l0.length:Nat):=WI
 have w1:IntKind.i64.wrap ((l0.length:Int)+(l1.length:Int))=((l0.length+l1.length:Nat):Int):=WI
 have w2:IntKind.i64.wrap (((l0.length+l1.length:Nat):Int)+(l2.length:Int))=((l0.length+l1.length+l2.length:Nat):Int):=WI
 have n0:decide (((l0.length:Nat):Int)<0)=false:=DF
 have n1:decide (((l0.length+l1.length:Nat):Int)<0)=false:=DF
 have n2:decide (((l0.length+l1.length+l2.length:Nat):Int)<0)=false:=DF
 refine call_0 tf105 rfl (by simp [a105]) fun b' ht hx=>?_
 have h0:=hx 0 _ rfl
 clear hx
 simp only[a105,c105] at ht ⊢
 simp (disch:=try exact SX) only[RV,seval,h0]
 refine w_un (by omega) ?_
 simp (disch:=try exact SX) only[RV,seval,hg,c3,t0,x0,w0,n0,v1,lq_normal]
 refine w_un (by omega) ?_
 simp (disch:=try exact SX) only[RV,seval,hg,t1,x1,w1,n1,v2,lq_normal]
 refine w_un (by omega) ?_
 simp (disch:=try exact SX) only[RV,seval,hg,t2,x2,w2,n2,v3,lq_normal]
 refine w_un (by omega) ?_
 simp (disch:=try exact SX) only[RV,seval,lq_exit]
 refine zNJ (d:=d) (n:=l0.length+l1.length+l2.length) wf (by omega) (by omega) ?_
 have sq0:=SlQ.fresh (X:=M) (st:=10) (T:=isRn) (n:=l0.length+l1.length+l2.length) (z:=zRn) wf rfl
 have wX:=wf.add (.row false (repCells zRn (l0.length+l1.length+l2.length)))
 have kX:∀ j,j<M.size→(M.add (.row false (repCells zRn (l0.length+l1.length+l2.length)))).get j=M.get j:=fun j hj=>get_add wf _ _ hj
 have sX:(M.add (.row false (repCells zRn (l0.length+l1.length+l2.length)))).size=M.size+1:=rfl
 have dX:(M.add (.row false (repCells zRn (l0.length+l1.length+l2.length)))).dirty=M.dirty:=rfl
 have vX:(M.add (.row false (repCells zRn (l0.length+l1.length+l2.length)))).wm=M.wm:=rfl
 generalize (M.add (.row false (repCells zRn (l0.length+l1.length+l2.length))))=X at *
 have gX:=(kX id li).trans hg
 simp (disch:=try exact SX) only[RV,seval,h0,c3]
 refine w_un (by omega) ?_
 simp (disch:=try exact SX) only[RV,seval,gX,t0,h0'.fz.rows]
 obtain⟨r0,y0,z0,A0,R0⟩:=h0'.cells2 X
 refine SlQ.app (bytes:=80) wX sq0 y0 z0 A0 R0 zB1.cel (by omega) (by simp;omega) (by simp;omega) fun o' Y sq1 wY sY kY rY wmY diY=>?_
 have rl1:=sq1.rl (Nat.le_refl _)
 have ro1:∀ j,rowOf o'=some j→j=M.size:=fun j hj=>by rw[rY] at hj;cases hj;rfl
 have gY:Y.get id=some (.row false [a0,a1,a2]):=(kY id (fun e=>by cases e;omega)).trans gX
 have mY:∀ j,j<M.size→Y.get j=M.get j:=fun j hj=>(kY j (fun e=>by cases e;omega)).trans (kX j hj)
 simp (disch:=try exact SX) only[RV,seval,v1,lq_normal]
 refine w_un (by omega) ?_
 have sm1:SlM Y 10 isRn a1 l1:=h1'.keep fun j hj=>mY j (h1'.lt j hj)
 have rla:=rows_lt sm1.rl (Nat.le_refl _)
 simp (disch:=try exact SX) only[RV,seval,gY,t1,rl1,rla]
 obtain⟨r1,y1,z1,A1,R1⟩:=sm1.cells2
 refine SlQ.app (bytes:=80) wY sq1 y1 z1 A1 R1 zB1.cel (by omega) (by simp;omega) (by simp;omega) fun o2' Z sq2 wZ sZ kZ rZ wmZ diZ=>?_
 have rl2:=sq2.rl (Nat.le_refl _)
 have ro2:∀ j,rowOf o2'=some j→j=M.size:=fun j hj=>ro1 j (rZ ▸ hj)
 have gZ:Z.get id=some (.row false [a0,a1,a2]):=(kZ id (fun e=>by have:=ro1 _ e;omega)).trans gY
 have mZ:∀ j,j<M.size→Z.get j=M.get j:=fun j hj=>(kZ j (fun e=>by have:=ro1 _ e;omega)).trans (mY j hj)
 simp (disch:=try exact SX) only[RV,seval,v2,lq_normal]
 refine w_un (by omega) ?_
 simp (disch:=try exact SX) only[RV,seval,gZ,t2,rl2,h2'.fz.rows]
 obtain⟨r2,y2,z2,A2,R2⟩:=h2'.cells2 Z
 refine SlQ.app (bytes:=80) wZ sq2 y2 z2 A2 R2 zB1.cel (by omega) (by simp;omega) (by simp;omega) fun o3' U sq3 wU sU kU rU wmU diU=>?_
 have on3:=sq3.one
 have oc3:=sq3.cells
 have rl3:=sq3.rl (Nat.le_refl _)
 have ro3:∀ j,rowOf o3'=some j→j=M.size:=fun j hj=>ro2 j (rU ▸ hj)
 have mU:∀ j,j<M.size→U.get j=M.get j:=fun j hj=>(kU j (fun e=>by have:=ro2 _ e;omega)).trans (mZ j hj)
 simp (disch:=try exact SX) only[RV,seval,v3,lq_normal]
 refine w_un (by omega) ?_
 simp (disch:=try exact SX) only[RV,seval,lq_exit]
 have e0:l0.length+l1.length+l2.length - l0.length - l1.length - l2.length=0:=by omega
 rw[e0] at sq3
 have d1:=diY (fun j hj=>by cases hj;omega)
 have d2:=diZ (fun j hj=>by have:=ro1 j hj;omega)
 have d3:=diU (fun j hj=>by have:=ro2 j hj;omega)
 exact k o3' U (by have:=sq3.slm;simpa using this) ⟨wU,by omega,mU,by omega,d3.trans (d2.trans (d1.trans dX))⟩ (fun j hj=>by have:=ro3 j hj;omega) on3 oc3 rl3
theorem zFS {a:AV}{l:List Rn}{x:Eid}(hS:Sl 10 isRn a l)(hm:∀ r∈l,r.may=true)(hx:x=Eid.z∨zAA l x≠none)(hl:l.length≤9000)(hf:l.length+100<fuel) :
  ∃ r,Sl 10 isRn r (zA8 l x).1 ∧ ∀ M,zCN fuel (d+8) 71 [a,idA x] M=some (.tup [r,I64 (zA8 l x).2],M):=by
 have hw:=fun M=>@zG7 fuel (d+1) a l x hS (by omega) (by omega) M
 refine gc_ex tf71 rfl (fun M=>by simp only[icyL,fun M=>hS.icy M 12 (by omega),fz_icyA (zAQ x) (show 1<12 by omega)]) ?_
 refine call_gc tf71 rfl (by simp only[icyL,fun M=>hS.icy M 12 (by omega),fz_icyA (zAQ x) (show 1<12 by omega)]) (by simp [a71]) fun b' ht hx=>?_
 obtain⟨h0,h1⟩:=hx2 hx
 clear hx
 simp only[a71,c71] at ht ⊢
 by_cases hz:x=Eid.z
 ·have q:decide (x=Eid.z)=true:=decide_eq_true hz
  have hpl:zA8 l x=(l,0):=by unfold zA8;rw[if_pos hz]
  rw[hpl]
  simp (disch:=try exact SX) only[RV,seval,fillA,h0,h1,hS.fz.frz,↓pIdE,zA0,ETA,q]
  exact⟨_,hS,rfl⟩
 ·have q:decide (x=Eid.z)=false:=decide_eq_false hz
  rcases hx with hx | hx
  ·exact absurd hx hz
  cases hwl:zAA l x with
  | none=>exact absurd hwl hx
  | some p =>
   obtain⟨n,k⟩:=p
   obtain⟨L1,o,L2,hle,hln,h1',h2',h3',h4'⟩:=zD2 hwl
   rw[hwl] at hw
   simp only[wN,wK] at hw
   have hnl:n<l.length:=by rw[hle,List.length_append,List.length_cons];omega
   obtain⟨r,hiad,hr,hrl⟩:=hS.iad n hnl
   have hgo:l.getD n Rn.z=l[n]:=by rw[List.getD_eq_getElem?_getD,List.getElem?_eq_getElem hnl];rfl
   have hpl:zA8 l x=if (l.getD n Rn.z).cutE (k+1)=0 then (l.take n++[(l.getD n Rn.z).fst (k+1),(l.getD n Rn.z).snd (k+1)]++l.drop (n+1),n+1) else (l,n+1):=by unfold zA8;rw[if_neg hz];simp only[hwl]
   rw[hpl,hgo]
   clear hpl
   have hom:=hm l[n] (List.getElem_mem hnl)
   have hro:=zNW hS l[n] (List.getElem_mem hnl)
   have hon:o=l[n]:=by simp [hle,← hln]
   have hln':=hon ▸ h3'
   generalize l[n]=e at *
   obtain⟨ra,rfl,hra,_⟩:=hr
   have hb:=Spn.may_le (Rn.may_sp hom)
   have w1:IntKind.i64.wrap (k+1)=k+1:=WI
   have w2:IntKind.i64.wrap ((n:Int)+1)=((n+1:Nat):Int):=WI
   obtain⟨v,⟨ca,cb,rfl,hca,hcb⟩,hcut⟩:=zD1 (fuel:=fuel) (d:=d) (n:=k+1) hra (by omega)
   have oca:=hca.one
   have ocb:=hcb.one
   by_cases hc:e.cutE (k+1)=0
   ·have q2:decide (e.cutE (k+1)=0)=true:=decide_eq_true hc
    rw[if_pos hc]
    obtain⟨r1,s1,b1⟩:=sl_to hS (j:=n) (by omega)
    obtain⟨r2,s2,b2⟩:=sl_from hS (i:=n+1) (by omega)
    have ob1:=b1.one
    have ob2:=b2.one
    have eA:e.cutA (k+1)=e.fst (k+1):=by unfold Rn.cutA;rw[if_pos hc]
    have eB:e.cutB (k+1)=e.snd (k+1):=by unfold Rn.cutB;rw[if_pos hc]
    have okA:=zM1 hro hc
    have okB:=zML hro hc
    rw[eA] at hca hcut
    rw[eB] at hcb hcut
    generalize e.fst (k+1)=eF at *
    generalize e.snd (k+1)=eS at *
    simp (disch:=try exact SX) only[RV,seval,fillA,h0,h1,hS.fz.rows,↓pIdE,zA0,ETA,q,hw,hiad,w1,w2,hcut,q2,s1,s2,b1.fz.cells,b2.fz.cells,apart2_pu]
    refine zIX (d:=d+5) (id:=4) (a0:=r1) (a1:=.sl 3 0 2 (some 2) 10) (a2:=r2) (l1:=[eF,eS]) (by simp (disch:=try exact SX) only[RV]) ?_ b1 (slm_lit (zH9 hca hcb okA okB) (by simp) rfl (.inr rfl) ?_) b2 (by simp) (by rw[List.length_take];omega) (by simp) (by rw[List.length_drop];omega) (by omega) (Nat.le_refl _) fun o' N sm kN nr on oc rl=>?_
    ·exact zB04
    ·simp (disch:=try exact SX) only[RV]
     rfl
    ·have dN:N.dirty=false:=kN.di
     simp (disch:=try exact SX) only[RV,seval,dN]
     obtain⟨ro,hro2,hfr⟩:=slm_frz2 sm zB1.cel 12 (by omega)
     rw[hfr _ (fun id h=>by simp (disch:=try exact SX) only[RV])]
     exact⟨ro,hro2,by rw[w2] <;> rfl⟩
   ·have q2:decide (e.cutE (k+1)=0)=false:=decide_eq_false hc
    rw[if_neg hc]
    simp (disch:=try exact SX) only[RV,seval,fillA,h0,h1,hS.fz.frz,↓pIdE,zA0,ETA,q,hw,hiad,w1,w2,hcut,q2]
    exact⟨_,hS,rfl⟩
theorem zH8 {X:Mem}{o:AV}{r:List AV}{x:Rn}(wf:Wf X)(h:SlN X 10 isRn o [])(hx:isRn r x)(hr:r.length=10)
  (k:∀ o' M',SlM M' 10 isRn o' [x]→Wf M'→X.size≤M'.size→(∀ j,j<X.size→rowOf o≠some j→M'.get j=X.get j)→(∀ id,rowOf o'=some id→rowOf o=some id∨X.size≤id)→M'.wm=X.wm→Q o' M') :
  W3 (zCN fuel (d+1) 74 [o,I64 0,.sl X.size 0 1 (some 1) 10] (X.add (.row false r))) Q:=by
 have sm:=h.slm
 have oo:=sm.one
 have ol:=sm.len
 have ge:∀ N,lenO N (.sl X.size 0 1 (some 1) 10)=some (I64 1,N):=fun _=>rfl
 have hs:∀ N,(∀ j,rowOf o=some j→N.get j=X.get j) → ∃ v,slcO N 10 o (some (I64 0)) none none=some (v,N)∧oneA v=true:=fun N hN=>by
  rcases h with⟨_,rfl | ⟨id,rfl,hg⟩⟩ | ⟨hn,_⟩
  ·exact⟨_,rfl,rfl⟩
  ·exact⟨_,rfl,rfl⟩
  ·exact absurd rfl hn
 obtain⟨v,hsv,ov⟩:=hs (X.add (.row false r)) (fun j hj=>get_add wf _ _ (sm.lt j hj))
 refine call_0 tf74 rfl (by simp [a74]) fun b' ht hx=>?_
 obtain⟨h0,h1,h2⟩:=hx3 hx
 clear hx
 simp only[a74,c74] at ht ⊢
 have ol0:∀ N,lenO N o=some (I64 0,N):=ol
 have rlo:=rows_lt sm.rl (show X.size≤X.size+1 by omega)
 simp (disch:=try exact SX) only[RV,seval,h0,h1,h2,ol0,hsv,ge,rlo]
 refine app1 wf sm zB1 (x:=x) hx hr (by omega) (by simp) (by simp) fun o' M' sm' w' le' kp nw wm' rl on oc=>?_
 simp (disch:=try exact SX) only[RV,seval]
 exact k o' M' sm' w' le' kp nw wm'
theorem zHG {l:List Rn}{r:Rn}{n:Nat}(D:List Rn)(h:D=(l.drop n).takeWhile fun q=>r.sp.f.less q.sp.f){i:Nat}(hi:i<D.length)(hn:n+i<l.length):r.sp.f.less l[n+i].sp.f=true∧D[i]=l[n+i]:=by
 have h1:D[i]∈(l.drop n).takeWhile fun q=>r.sp.f.less q.sp.f:=by rw[← h];exact List.getElem_mem hi
 have h2:=List.all_eq_true.1 (List.all_takeWhile (l:=l.drop n) (p:=fun q=>r.sp.f.less q.sp.f)) _ h1
 have h3:D[i]=l[n+i]:=by
  have hp:D <+: l.drop n:=by rw[h];exact List.takeWhile_prefix _
  rw[hp.getElem hi,List.getElem_drop]
 rw[← h3]
 exact⟨h2,rfl⟩
theorem zG3 {l:List Rn}{x:Eid}{n:Nat}(h:zC6 l x n<l.length):x.less l[zC6 l x n].sp.f=false:=by
 have hd:((l.drop n).dropWhile fun q=>x.less q.sp.f)=l.drop (zC6 l x n):=by
  have e:=List.takeWhile_append_dropWhile (p:=fun q:Rn=>x.less q.sp.f) (l:=l.drop n)
  have e2:=congrArg (List.drop ((l.drop n).takeWhile fun q=>x.less q.sp.f).length) e
  rw[List.drop_left,List.drop_drop] at e2
  exact e2
 have:=List.head?_dropWhile_not (fun q:Rn=>x.less q.sp.f) (l.drop n)
 rw[hd,List.drop_eq_getElem_cons h] at this
 exact this
theorem zK9 {l:List Rn}{x:Eid}{n:Nat}(hn:n≤l.length):zC6 l x n≤l.length:=by
 unfold zC6
 have:=(List.takeWhile_sublist (l:=l.drop n) (fun q:Rn=>x.less q.sp.f)).length_le
 rw[List.length_drop] at this
 omega
theorem zF1 (l:List Rn)(x:Eid):(zA8 l x).1.length≤l.length+2:=by
 unfold zA8
 split
 ·simp
 ·split
  ·simp
  ·split
   ·simp;omega
   ·simp
theorem zJL (l:List Rn):(zAJ l).length≤l.length:=by
 refine zAN (P:=fun l=>(zAJ l).length≤l.length) (Nat.le_refl _) (fun l r ih=>?_) l
 rw[zFM]
 have:=zGX (zAJ l) r
 exact zB0J
theorem zL4 (l:List Rn)(r:Rn):(insL l r).length≤l.length+3:=by
 unfold insL
 refine Nat.le_trans (zJL _) ?_
 have:=zF1 l r.af
 simp only[List.length_append,List.length_take,List.length_drop,List.length_singleton]
 omega
noncomputable def insR (l:List Rn)(r:Rn):List Rn:=if putE l r=0 then insL l r else []
open Classical in
theorem zI7 {a ra:AV}{l:List Rn}{x:Rn}(hS:Sl 10 isRn a l)(hR:Sl 1 zA3 ra x.rs)(hx:x.ok)(hl:l.length≤900)(hf:64*l.length+3011000<fuel):∃ r,Sl 10 isRn r (insR l x) ∧ ∀ M,zCN fuel (d+11) 43 [a,.agg (rnR x ra)] M=some (.tup [r,I64 (putE l x)],M):=by
 have hck:=fun M=>@zIV fuel d a l hS (by omega) (by omega) M
 have hcx:=fun M=>@zAM fuel (d+4) x ra hR (by omega) M
 refine gc_ex tf43 rfl (fun M=>by simp only[icyL,fun M=>hS.icy M 12 (by omega),zAP hR.fz]) ?_
 refine call_gc tf43 rfl (by simp only[icyL,fun M=>hS.icy M 12 (by omega),zAP hR.fz]) (by simp [a43]) fun b' ht hx=>?_
 obtain⟨h0,h1⟩:=hx2 hx
 clear hx
 simp only[a43,c43] at ht ⊢
 have hiE:putE l x=if zC7 l=true∧x.may=true then (if x.af≠Eid.z∧zAA l x.af=none then 6 else if ∃ i:Nat,(i:Int)<x.sp.n∧zAA l (x.sp.at i)≠none then 2 else if 8192<zA7 l+x.sp.n then 4 else 0) else 8:=by
  unfold putE
  simp only[zG4]
 by_cases h8:zC7 l=true∧x.may=true
 ·rw[if_pos h8] at hiE
  obtain⟨htb,hxm⟩:=h8
  have hok:=zG4.1 htb
  rw[htb] at hck
  rw[hxm] at hcx
  have hwh:=fun y M=>@zG7 fuel (d+4) a l y hS (by omega) (by omega) M
  have hwa:=fun M=>hwh x.af M
  have hb:=Spn.may_le (Rn.may_sp hxm)
  obtain⟨m,hmn⟩:∃ m:Nat,x.sp.n=m:=⟨x.sp.n.toNat,by omega⟩
  have ia:∀ i:Nat,i<m → ∀ M,zCN fuel (d+10) 69 [spA x.sp,I64 i] M=some (.tup [idA (x.sp.at i),I64 0],M):=fun i hi M=>by
   have:=@zDR fuel (d+5) x.sp i M
   rw[if_pos (Rn.may_sp hxm),if_neg (by omega)] at this
   exact this
  have qn1:decide ((-1:Int)<0)=true:=rfl
  have qg1:decide ((0:Int) ≤ -1)=false:=rfl
  by_cases h6:x.af≠Eid.z∧zAA l x.af=none
  ·have e6:putE l x=6:=by rw[hiE,if_pos h6]
   have er:insR l x=[]:=by unfold insR;rw[e6];rfl
   rw[e6,er]
   have q:decide (x.af=Eid.z)=false:=decide_eq_false h6.1
   rw[h6.2] at hwa
   simp (disch:=try exact SX) only[RV,seval,fillA,h0,h1,hck,hcx,IMX,zA6,pB_max2,BMM,hwa,wN,wK,↓pIdN,zA4,ETA,q]
   exact⟨NIL,.inl ⟨rfl,rfl⟩,rfl⟩
  ·rw[if_neg h6] at hiE
   have hx6:x.af=Eid.z∨zAA l x.af≠none:=by
    by_cases h:x.af=Eid.z
    ·exact .inl h
    ·exact .inr fun k=>h6 ⟨h,k⟩
   have step:∃ b:Bool,(decide ((wN (zAA l x.af))<0)=b)∧(b=true→decide (x.af=Eid.z)=true):=by
    refine⟨_,rfl,fun hb=>?_⟩
    rcases hx6 with h | h
    ·exact decide_eq_true h
    ·cases hw:zAA l x.af with
     | none=>exact absurd hw h
     | some p =>
      have hb:=of_decide_eq_true hb
      rw[hw] at hb
      simp only[wN] at hb
      omega
   obtain⟨b6,hb6,hb6'⟩:=step
   have main:∀ (b6:Bool),decide ((wN (zAA l x.af))<0)=b6→(b6=true→decide (x.af=Eid.z)=true)→True:=fun _ _ _=>trivial
   clear main
   cases b6 with
   | true =>
    have q:=hb6' rfl
    simp (disch:=try exact SX) only[RV,seval,fillA,h0,h1,hck,hcx,IMX,zA6,pB_max2,BMM,hwa,hb6,↓pIdN,zA4,ETA,q]
    exact zB00
   | false =>
    simp (disch:=try exact SX) only[RV,seval,h0,h1,hck,hcx,IMX,zA6,pB_max2,BMM,hwa,hb6]
    exact zB00
 ·have e8:putE l x=8:=by rw[hiE,if_neg h8]
  have er:insR l x=[]:=by unfold insR;rw[e8];rfl
  have hz:imax (err (zC7 l)) (err x.may)=8:=by
   cases ma:zC7 l <;> cases mb:x.may <;> first | rfl | exact absurd ⟨ma,mb⟩ h8
  rw[e8,er]
  simp (disch:=try exact SX) only[RV,seval,h0,h1,hck,hcx,hz,pB_max2,BMM]
  exact⟨NIL,.inl ⟨rfl,rfl⟩,rfl⟩
theorem zDF (l:List Op):(textOf l).length≤3*l.length:=by
 refine zAN (P:=fun l=>(textOf l).length≤3*l.length) (Nat.le_refl _) (fun l o ih=>?_) l
 rw[zCI]
 unfold stepT
 split
 ·have:=zL4 (textOf l) o.rn
  exact zB0J
 ·exact zB0J
def zO0 (l:List Op)(r:AV):Prop:=∃ r1,r = .tup [r1,I64 (err (zA1 [] l))]∧Sl 10 isRn r1 (if zA1 [] l=true then textOf l else [])
theorem zNX {o:Op}(h:o.ok):o.rn.ok:=⟨h.2.2.2.1,h.2.2.2.2.1,h.2.2.2.2.2.2⟩
theorem zHQ (hS:Sl 17 isOp a l)(hl:l.length≤200)(hf:3080000<fuel):∃ r,zO0 l r ∧ ∀ M,zCN fuel (d+15) 21 [a] M=some (r,M):=by
 have ll:=hS.len
 have hck:=fun M=>zBU (fuel:=fuel) (d:=d) hS (by omega) (by omega) M
 refine gc_ex tf21 rfl (fun M=>by simp only[icyL,fun M=>hS.icy M 12 (by omega)]) ?_
 refine call_gc tf21 rfl (by simp only[icyL,fun M=>hS.icy M 12 (by omega)]) (by simp [a21]) fun b' ht hx=>?_
 have h0:=hx 0 _ rfl
 clear hx
 simp only[a21,c21] at ht ⊢
 unfold zO0
 cases q1:zA1 [] l with
 | false =>
  rw[q1] at hck
  simp (disch:=try exact SX) only[RV,seval,h0,hck,zAD]
  exact zB06
 | true =>
  rw[q1] at hck
  simp only[if_true]
  simp (disch:=try exact SX) only[RV,seval,h0,hck,zA6,ll]
  refine w_loop (I:=fun n t N => ∃ (i:Nat) (r:AV),n=l.length - i∧i≤l.length∧nth undefA t 2=r∧nth undefA t 14=a∧nth undefA t 15=I64 l.length∧nth undefA t 16=I64 i∧Wf N∧Sl 10 isRn r (textOf (l.take i))) (n:=l.length) (by omega) ?_ ?_
  ·refine⟨0,NIL,rfl,Nat.zero_le _, ?_, ?_, ?_, ?_,Wf.mem0,.inl ⟨rfl,rfl⟩⟩ <;> simp (disch:=try exact SX) only[RV,seval]
   all_goals first | rfl | assumption | done
  ·rintro n t N hlt ⟨i,r,rfl,hi,g2,g14,g15,g16,w,hA⟩
   simp only[ht] at hlt ⊢
   by_cases hc:i<l.length
   ·have q3:decide ((i:Int)<l.length)=true:=DT
    have w1:IntKind.i64.wrap ((i:Int)+1)=((i+1:Nat):Int):=WI
    obtain⟨r0,hiad,hr,hrl⟩:=hS.iad i hc
    have hts:=zCI (l.take i) l[i]
    rw[← take_snoc l i hc] at hts
    have htl:=zDF (l.take i)
    rw[List.length_take] at htl
    have hsp:l.take i++l[i]::l.drop (i+1)=l:=by rw[← List.drop_eq_getElem_cons hc,List.take_append_drop]
    have hput:rofE l[i]=0→putE (textOf (l.take i)) l[i].rn=0:=zL1 (m:=l.drop (i+1)) (by rw[hsp];exact q1)
    clear hsp
    generalize l[i]=e at *
    obtain⟨ra,rfl,hra,hok⟩:=hr
    have ora:=hra.one
    obtain⟨rr,hk,hof⟩:=zG0 (fuel:=fuel) (d:=d+6) hra hok (by omega)
    by_cases q4:rofE e=0
    ·have q4':decide (rofE e=0)=true:=decide_eq_true q4
     unfold rofK at hk
     rw[if_pos q4] at hk
     obtain⟨rb,rfl,hrb⟩:=hk
     have orb:=hrb.one
     obtain⟨r2,hr2,hins⟩:=zI7 (fuel:=fuel) (d:=d+3) (x:=e.rn) hA hrb (zNX hok) (by omega) (by omega)
     have or2:=hr2.one
     rw[hput q4] at hins
     unfold insR at hr2
     rw[if_pos (hput q4)] at hr2
     unfold stepT at hts
     rw[if_pos q4] at hts
     simp (disch:=try exact SX) only[RV,seval,g2,g14,g15,g16,q3,hiad,hof,hins,w,w1]
     exact⟨hlt,l.length - (i+1),by omega,i+1,r2,rfl,by omega,rfl,rfl,by rw[hts];exact hr2⟩
    ·have q4':decide (rofE e=0)=false:=decide_eq_false q4
     unfold rofK at hk
     rw[if_neg q4] at hk
     subst hk
     unfold stepT at hts
     rw[if_neg q4] at hts
     unfold rnZ at hof
     simp (disch:=try exact SX) only[RV,seval,g2,g14,g15,g16,q3,hiad,hof,q4',w,w1]
     exact⟨hlt,l.length - (i+1),by omega,i+1,r,rfl,by omega,rfl,rfl,by rw[hts];exact hA⟩
   ·obtain rfl:i=l.length:=by omega
    have q3:decide ((l.length:Int)<l.length)=false:=DF
    rw[List.take_length] at hA
    simp (disch:=try exact SX) only[RV,seval,g2,g15,g16,hA.fz.frz]
    exact⟨_,⟨r,rfl,hA⟩,rfl⟩
theorem zJG (l:List Op)(v:Lb):zDT (lowL l v) v (zAG (elsR (textOf (lowL l v))))=zAI l v:=by
 unfold zDT zAG zAI
 rw[List.filter_map,List.map_map]
 rfl
theorem zBF {l:List Op}(h:zA1 [] l=true)(v:Lb):(zAI l v).length≤192*l.length:=by
 have hT:=zAH (zBV v h)
 have h1:=zD9 hT.ok.1
 have h2:=zDF (lowL l v)
 have h3:=zEY l v
 unfold zAI
 rw[List.length_map]
 exact Nat.le_trans (List.length_filter_le _ _) (by omega)
def zH2 (l:List Op)(v:Lb)(r:AV):Prop:=∃ r1,r = .tup [r1,I64 (zAS l v)]∧Sl 5 zAY r1 (if zAS l v=0 then zAI l v else [])
theorem zBY (h:zAS l v=0):zA1 [] l=true∧v.may=true:=by
 unfold zAS err at h
 cases h1:zA1 [] l <;> cases h2:v.may <;> rw[h1,h2] at h <;> first | exact⟨rfl,rfl⟩ | cases h
theorem zCK (hS:Sl 17 isOp a l)(hl:l.length≤200)(hf:3200000<fuel)(hd:∀ o∈l,o.rs.length≤1000000000):∃ r,zH2 l v r ∧ ∀ M,zCN fuel (d+18) 6 [a,lbA v] M=some (r,M):=by
 obtain⟨ro,⟨r2,rfl,hr2⟩,hon⟩:=zLF (fuel:=fuel) (d:=d+2) (v:=v) hS (by omega) (by omega) hd
 have or2:=hr2.one
 refine gc_ex tf6 rfl (fun M=>by simp only[icyL,fun M=>hS.icy M 12 (by omega),fz_icyA (zAB v) (show 1<12 by omega)]) ?_
 refine call_gc tf6 rfl (by simp only[icyL,fun M=>hS.icy M 12 (by omega),fz_icyA (zAB v) (show 1<12 by omega)]) (by simp [a6]) fun b' ht hx=>?_
 obtain⟨h0,h1⟩:=hx2 hx
 clear hx
 simp only[a6,c6] at ht ⊢
 unfold zH2
 by_cases q1:zAS l v=0
 ·rw[if_pos q1] at hr2
  obtain⟨q2,q3⟩:=zBY q1
  have q4:=zBV v q2
  have hlow:=zEY l v
  obtain⟨rt,⟨r3,rfl,hr3⟩,htx⟩:=zHQ (fuel:=fuel) (d:=d+2) hr2 (by omega) (by omega)
  rw[q4] at htx hr3
  simp only[if_true] at hr3
  have hT:=zAH q4
  have htl:=zDF (lowL l v)
  obtain⟨r4,hr4,hal⟩:=zIS (fuel:=fuel) (d:=d+9) hr3 hT.ok.1 (by omega) (by omega)
  have hel:=zD9 hT.ok.1
  rw[q1]
  rw[q1] at hon
  simp (disch:=try exact SX) only[RV,seval,h0,h1,hon,htx,hal,zA6,hr2.fz.cells]
  refine zN8 (d:=d) (low:=lowL l v) (v:=v) hr4 (by rw[zBI];omega) hr2 q4 (by omega) (by rw[zBI];omega) ?_ ?_ ?_ ?_ fun o N wN leN kpN smN nwN wmN=>?_
  ·exact zB04
  ·exact Nat.zero_le _
  ·exact zB04
  ·exact zB04
  ·rw[zJG] at smN
   obtain⟨ro,hz,hs⟩:=smN.frz zCD.cel (k:=12) (by omega)
   simp (disch:=try exact SX) only[RV,seval,hz]
   exact⟨_,⟨ro,rfl,by simpa using hs⟩,rfl⟩
 ·have q1':=decide_eq_false q1
  simp (disch:=try exact SX) only[RV,seval,h0,h1,hon,q1',hr2.fz.cells]
  exact⟨_,⟨NIL,rfl,by rw[if_neg q1];exact .inl ⟨rfl,rfl⟩⟩,rfl⟩
def zGF (l:List Op)(v:Lb)(k:Int):Int:=if zAS l v=0 then (if k<0∨((zAI l v).length:Int)<k then 2 else 0) else zAS l v
def zGG (l:List Op)(v:Lb)(k:Int):Eid:=if zGF l v k=0∧0<k then (((zAI l v)[(k - 1).toNat]?).map (·.id)).getD Eid.z else Eid.z
theorem zLA {k:Int}(hS:Sl 17 isOp a l)(hl:l.length≤200)(hf:3200000<fuel)(hd:∀ o∈l,o.rs.length≤1000000000)(M:Mem):zCN fuel (d+19) 8 [a,lbA v,I64 k] M=some (.tup [idA (zGG l v k),I64 (zGF l v k)],M):=by
 obtain⟨rc,⟨r2,rfl,hr2⟩,hce⟩:=zCK (fuel:=fuel) (d:=d) (v:=v) hS hl hf hd
 apply w3_eq
 refine call_gc tf8 rfl (by simp only[icyL,fun M=>hS.icy M 12 (by omega),fz_icyA (zAB v) (show 1<12 by omega),icy12]) (by simp [a8]) fun b' ht hx=>?_
 obtain⟨h0,h1,h2⟩:=hx3 hx
 clear hx
 simp only[a8,c8] at ht ⊢
 unfold zGG zGF
 by_cases q1:zAS l v=0
 ·rw[q1] at hr2 hce
  simp only[if_true] at hr2
  have hvl:=zBF (zBY q1).1 v
  have lr2:=hr2.len
  by_cases q2:k<0
  ·have q2':=decide_eq_true q2
   simp only[q1,if_true,q2,true_or]
   simp (disch:=try exact SX) only[RV,seval,fillA,h0,h1,h2,hce,q2']
   rfl
  ·have q2':=decide_eq_false q2
   by_cases q3:((zAI l v).length:Int)<k
   ·have q3':=decide_eq_true q3
    simp only[q1,if_true,q3,or_true]
    simp (disch:=try exact SX) only[RV,seval,fillA,h0,h1,h2,hce,q2',q3',lr2]
    rfl
   ·have q3':=decide_eq_false q3
    have q4:¬(k<0∨((zAI l v).length:Int)<k):=by omega
    simp only[q1,if_true,q4,if_false,true_and]
    by_cases q5:k=0
    ·subst q5
     simp (disch:=try exact SX) only[RV,seval,fillA,h0,h1,h2,hce,q3',lr2]
    ·have q5':=decide_eq_false q5
     have q6:0<k:=by omega
     obtain⟨m,rfl⟩:∃ m:Nat,k=(m:Int)+1:=⟨(k - 1).toNat,by omega⟩
     have hm:m<(zAI l v).length:=by omega
     have w1:IntKind.i64.wrap ((m:Int)+1 - 1)=(m:Int):=WI
     obtain⟨r,hiad,⟨rfl,hok⟩,hrl⟩:=hr2.iad m hm
     have e:(((zAI l v)[((m:Int)+1 - 1).toNat]?).map (·.id)).getD Eid.z=(zAI l v)[m].id:=by
      rw[show ((m:Int)+1 - 1).toNat=m by omega,List.getElem?_eq_getElem hm]
      rfl
     simp only[q6,if_true,e]
     simp (disch:=try exact SX) only[RV,seval,h0,h1,h2,hce,q2',q3',q5',lr2,w1,hiad]
 ·have q1':=decide_eq_false q1
  simp only[q1,if_false,false_and]
  simp (disch:=try exact SX) only[RV,seval,fillA,h0,h1,hce,q1']
theorem zJ0 {l:List Op}(h:zA1 [] l=true){v:Lb}:∀ x∈elsR (textOf (lowL l v)),x.id.hd.lb.leq v=true∧1≤x.id.c∧x.id.may=true:=by
 intro x hx
 have hT:=zAH (zBV v h)
 obtain⟨o,ho,hr,hxo⟩:=(hT.mem x).1 hx
 have hm:=zH3 hT.ok.1 x hx
 have hmi:=(El.may_iff.1 hm).1
 refine⟨?_,(Eid.may_iff.1 hmi).2.1,hmi⟩
 have hid:x.id∈o.sp.ids:=by rw[← zDM];exact List.mem_map.2 ⟨x,hxo,rfl⟩
 rw[zDV hid]
 obtain⟨hom,hk,_⟩:=zE6 hr
 rw[(zCE hom hk).1]
 exact(List.mem_filter.1 ho).2
theorem zKD {l:List Op}{v:Lb}{c:CellV}(hc:c∈zAI l v):∃ x∈elsR (textOf (lowL l v)),x.id=c.id∧zAT (lowL l v) c.id=false:=by
 unfold zAI at hc
 obtain⟨x,hx,rfl⟩:=List.mem_map.1 hc
 obtain⟨h1,h2⟩:=List.mem_filter.1 hx
 exact⟨x,h1,rfl,by have h2:(!zAT (lowL l v) x.id)=true:=h2;simpa [cellV] using h2⟩
variable {ra : AV} {o : Op}
def addS (out:List Spn)(x:Eid):List Spn :=
 match out.getLast? with
 | none=>out++[⟨x,1⟩]
 | some s=>if (⟨s.f,s.n+1⟩:Spn).has x=some s.n then out.set (out.length - 1) ⟨s.f,s.n+1⟩ else out++[⟨x,1⟩]
def spansOf (c:List Eid):List Spn:=c.foldl addS []
theorem zC5 (c:List Eid)(x:Eid):spansOf (c++[x])=addS (spansOf c) x:=by simp [spansOf]
theorem zEN (x:Eid):addS [] x=[⟨x,1⟩]:=rfl
theorem zDG (o:List Spn)(s:Spn)(x:Eid):addS (o++[s]) x=if (⟨s.f,s.n+1⟩:Spn).has x=some s.n then o++[⟨s.f,s.n+1⟩] else o++[s]++[⟨x,1⟩]:=by
 unfold addS
 rw[List.getLast?_concat]
 simp only[List.length_append,List.length_singleton,Nat.add_sub_cancel]
 simp
theorem zKH (o:List Spn)(x:Eid):(addS o x).length≤o.length+1:=by
 unfold addS
 split
 ·simp
 ·split <;> simp
theorem zE9 (c:List Eid):(spansOf c).length≤c.length:=by
 refine zAN (P:=fun c=>(spansOf c).length≤c.length) (Nat.le_refl _) (fun c x ih=>?_) c
 rw[zC5,List.length_append,List.length_singleton]
 have:=zKH (spansOf c) x
 omega
theorem zJD (x:Eid):(⟨x,1⟩:Spn).ids=[x]:=by
 show (List.range 1).map (fun (i:Nat)=>(⟨x,1⟩:Spn).at i)=[x]
 simp [Spn.at]
theorem zL3 {s:Spn}(h:0≤s.n):(⟨s.f,s.n+1⟩:Spn).ids=s.ids++[s.at s.n]:=by
 unfold Spn.ids
 have e:(s.n+1).toNat=s.n.toNat+1:=by omega
 simp only[e,List.range_succ,List.map_append,List.map_cons,List.map_nil]
 congr 2
 show s.at (s.n.toNat:Int)=s.at s.n
 rw[Int.toNat_of_nonneg h]
theorem zJN {x:Eid}(h:x.may=true):(⟨x,1⟩:Spn).may=true:=by
 have:=(Eid.may_iff.1 h).2
 unfold Spn.may
 rw[h]
 simp only[Bool.true_and,Bool.and_eq_true,decide_eq_true_eq]
 omega
theorem zHO {c:List Eid}(hm:∀ x∈c,x.may=true):(spansOf c).flatMap Spn.ids=c ∧ ∀ s∈spansOf c,s.may=true:=by
 revert hm
 refine zAN (P:=fun c=>(∀ x∈c,x.may=true)→(spansOf c).flatMap Spn.ids=c ∧ ∀ s∈spansOf c,s.may=true) (fun _=>⟨rfl,fun s hs=>absurd hs (by simp [spansOf])⟩) (fun c x ih hm=>?_) c
 obtain⟨h1,h2⟩:=ih fun y hy=>hm y (List.mem_append_left _ hy)
 have hx:=hm x (by simp)
 rw[zC5]
 rcases List.eq_nil_or_concat (spansOf c) with e | ⟨o,s,e⟩
 ·rw[e] at h1 ⊢
  have hc:c=[]:=by simpa using h1.symm
  subst hc
  rw[zEN]
  refine⟨by simp [zJD],fun s hs=>?_⟩
  rw[List.mem_singleton] at hs
  subst hs
  exact zJN hx
 ·rw[e] at h1 h2 ⊢
  rw[List.concat_eq_append] at h1 h2 ⊢
  rw[zDG]
  have hs:=h2 s (by simp)
  have hb:=Spn.may_le hs
  split
  ·rename_i hh
   obtain⟨hsm,_,_,hxe⟩:=zDO.1 hh
   refine⟨?_,fun q hq=>?_⟩
   ·rw[List.flatMap_append] at h1 ⊢
    simp only[List.flatMap_cons,List.flatMap_nil,List.append_nil] at h1 ⊢
    have hxe:x=s.at s.n:=hxe.symm
    rw[zL3 (by omega),← List.append_assoc,h1,← hxe]
   ·rcases List.mem_append.1 hq with hq | hq
    ·exact h2 q (List.mem_append_left _ hq)
    ·rw[List.mem_singleton] at hq
     subst hq
     exact hsm
  ·refine⟨?_,fun q hq=>?_⟩
   ·rw[List.flatMap_append,h1]
    simp [zJD]
   ·rcases List.mem_append.1 hq with hq | hq
    ·exact h2 q hq
    ·rw[List.mem_singleton] at hq
     subst hq
     exact zJN hx
end Go.Proofs.YtmkkecnafjhdmaaGreat
namespace Go.Ax
open Go
variable {P : Program} {call : Tg → List AV → Mem → Option (AV × Mem)} {t : List AV} {M : Mem}
theorem take_at {cs r:List AV}{n k:Nat}(h:∀ o,o<k→cs[n+o]? = r[o]?):List.take k (List.drop n cs)=r.take k:=by
 apply List.ext_getElem?
 intro j
 rw[List.getElem?_take,List.getElem?_take]
 split
 ·rw[List.getElem?_drop]
  exact h j (by assumption)
 ·rfl
theorem zMK {α:Type}{T:List AV→α→Prop}{st:Nat}{a:AV}{l:List α}(h:Sl st T a l){i j:Nat}(hi:i≤j)(hj:j≤l.length):∃ a',(∀ M,slcO M st a (some (.sc (.int .i64 i))) (some (.sc (.int .i64 j))) none=some (a',M))∧Sl st T a' ((l.drop i).take (j - i)):=by
 rcases h with⟨rfl,rfl⟩ | ⟨rows,cap,rfl,hA,hr⟩
 ·obtain rfl:j=0:=by simpa using hj
  obtain rfl:i=0:=by omega
  exact⟨_,fun M=>rfl,.inl ⟨rfl,by simp⟩⟩
 ·have hl:=hA.length_eq
  have hdl:(rows.drop i).length=rows.length - i:=List.length_drop
  refine⟨.pv ((rows.drop i).take (j - i)).flatten (j - i) (capSub cap i) st,fun M=>?_,.inr ⟨(rows.drop i).take (j - i),capSub cap i,by rw[List.length_take,hdl,Nat.min_eq_left (by omega)],all2_take _ (all2_drop i hA),fun r hq=>hr r (List.mem_of_mem_drop (List.mem_of_mem_take hq))⟩⟩
  have hs:slot rows.flatten (i*st) ((j - i)*st)=((rows.drop i).take (j - i)).flatten:=by
   rw[slot,flat_drop i hr,flat_take2 (j - i) (fun r hq=>hr r (List.mem_of_mem_drop hq))]
  unfold slcO
  simp only[Nat.beq_refl,bnd_int _ _ _ _ (show j≤rows.length by omega),bnd_int _ _ _ _ hi,hs]
end Go.Ax
namespace Go.Proofs.YtmkkecnafjhdmaaGreat
open Go Go.Ax
variable {fuel : Nat} {M : Mem} {Q : AV → Mem → Prop} {d : Nat} {l : List Op} {a : AV} {v : Lb}
def vspE (l:List Op)(v:Lb)(k m:Int):Int:=if zAS l v=0 then (if k<0∨((zAI l v).length:Int)<k∨m<1∨(zAI l v).length - k<m then 2 else 0) else zAS l v
def midC (l:List Op)(v:Lb)(k m:Int):List CellV:=((zAI l v).drop k.toNat).take m.toNat
def vspK (l:List Op)(v:Lb)(k m:Int)(r:AV):Prop:=∃ r1,r = .tup [r1,I64 (vspE l v k m)]∧Sl 5 zGE r1 (if vspE l v k m=0 then spansOf ((midC l v k m).map (·.id)) else [])
theorem zIK {k m:Int}(hS:Sl 17 isOp a l)(hl:l.length≤200)(hf:3200000<fuel)(hd:∀ o∈l,o.rs.length≤1000000000):∃ r,vspK l v k m r ∧ ∀ M,zCN fuel (d+19) 10 [a,lbA v,I64 k,I64 m] M=some (r,M):=by
 obtain⟨rc,⟨r2,rfl,hr2⟩,hce⟩:=zCK (fuel:=fuel) (d:=d) (v:=v) hS hl hf hd
 refine gc_ex tf10 rfl (fun M=>by simp only[icyL,fun M=>hS.icy M 12 (by omega),fz_icyA (zAB v) (show 1<12 by omega),icy12]) ?_
 refine call_gc tf10 rfl (by simp only[icyL,fun M=>hS.icy M 12 (by omega),fz_icyA (zAB v) (show 1<12 by omega),icy12]) (by simp [a10]) fun b' ht hx=>?_
 obtain⟨h0,h1,h2⟩:=hx3 hx
 have h3:=hx 3 _ rfl
 clear hx
 simp only[a10,c10] at ht ⊢
 unfold vspK vspE
 by_cases q1:zAS l v=0
 ·have q1':=decide_eq_true q1
  rw[q1] at hr2 hce
  simp only[if_true] at hr2
  have hvl:=zBF (zBY q1).1 v
  have lr2:=hr2.len
  simp only[q1,if_true]
  by_cases q2:k<0
  ·have q2':=decide_eq_true q2
   simp only[q2,true_or,if_true]
   simp (maxSteps:=2000000) (disch:=try exact SX) only[RV,reduceIte,Nat.reduceEqDiff,Int.reduceEq,h0,h1,h2,hce,q2']
   exact zB06
  have q2':=decide_eq_false q2
  by_cases q3:((zAI l v).length:Int)<k
  ·have q3':=decide_eq_true q3
   simp only[q3,true_or,or_true,if_true]
   simp (maxSteps:=2000000) (disch:=try exact SX) only[RV,reduceIte,Nat.reduceEqDiff,Int.reduceEq,h0,h1,h2,hce,q2',q3',lr2]
   exact zB06
  have q3':=decide_eq_false q3
  by_cases q4:m<1
  ·have q4':=decide_eq_true q4
   simp only[q4,true_or,or_true,if_true]
   simp (maxSteps:=2000000) (disch:=try exact SX) only[RV,reduceIte,Nat.reduceEqDiff,Int.reduceEq,h0,h1,h2,h3,hce,q2',q3',q4',lr2]
   exact zB06
  have q4':=decide_eq_false q4
  obtain⟨k,rfl⟩:∃ n:Nat,k=n:=⟨k.toNat,by omega⟩
  have w0:IntKind.i64.wrap (((zAI l v).length:Int) - k)=(zAI l v).length - k:=WI
  by_cases q5:((zAI l v).length:Int) - k<m
  ·have q5':=decide_eq_true q5
   simp only[q5,or_true,if_true]
   simp (maxSteps:=2000000) (disch:=try exact SX) only[RV,reduceIte,Nat.reduceEqDiff,Int.reduceEq,h0,h1,h2,h3,hce,q2',q3',q4',q5',w0,lr2]
   exact zB06
  have q5':=decide_eq_false q5
  obtain⟨m,rfl⟩:∃ n:Nat,m=n:=⟨m.toNat,by omega⟩
  have q6:¬((k:Int)<0∨((zAI l v).length:Int)<k∨(m:Int)<1∨(zAI l v).length - (k:Int)<m):=by omega
  simp only[q6,if_false,if_true]
  unfold midC
  simp only[Int.toNat_natCast]
  have w1:IntKind.i64.wrap ((k:Int)+m)=((k+m:Nat):Int):=WI
  obtain⟨sa,hsa,hsl⟩:=zMK hr2 (i:=k) (j:=k+m) (by omega) (by omega)
  rw[Nat.add_sub_cancel_left] at hsl
  have hcm:∀ c∈((zAI l v).drop k).take m,c.id.may=true:=fun c hc=>by
   obtain⟨x,x1,x2,_⟩:=zKD (List.mem_of_mem_drop (List.mem_of_mem_take hc))
   rw[← x2]
   exact(zJ0 (zBY q1).1 x x1).2.2
  have hlm:(((zAI l v).drop k).take m).length=m:=by rw[List.length_take,List.length_drop];omega
  generalize ((zAI l v).drop k).take m=cs at *
  have lsa:=hsl.len
  simp (maxSteps:=2000000) (disch:=try exact SX) only[RV,reduceIte,Nat.reduceEqDiff,h0,h1,h2,h3,hce,hr2.fz.rows,q2',q3',q4',q5',w0,w1,lr2,hsa,lsa]
  refine w_loop (I:=fun nq tq Nq => ∃ (iq:Nat) (o:AV),nq=cs.length - iq∧iq≤cs.length∧nth undefA tq 8=o∧nth undefA tq 51=sa∧nth undefA tq 52=I64 cs.length∧nth undefA tq 53=I64 iq∧Wf Nq∧Nq.wm=0∧SlM Nq 5 zGE o (spansOf ((cs.take iq).map (·.id)))) (n:=cs.length) (by omega) ?_ ?_
  ·refine⟨0,NIL,rfl,Nat.zero_le _, ?_, ?_, ?_, ?_,Wf.mem0.add _,rfl,SlM.nil⟩ <;> simp (maxSteps:=2000000) (disch:=try exact SX) only[RV,reduceIte,Nat.reduceEqDiff]
   all_goals first | rfl | assumption | done
  ·rintro nq tq Nq hltq ⟨iq,o,rfl,hiq,gq8,gq51,gq52,gq53,w,wm,sm⟩
   simp only[ht] at hltq ⊢
   have ol:=sm.len
   have hsl2:=zE9 ((cs.take iq).map (·.id))
   rw[List.length_map,List.length_take] at hsl2
   by_cases hc:iq<cs.length
   ·have c1:decide ((iq:Int)<cs.length)=true:=DT
    have e1:IntKind.i64.wrap ((iq:Int)+1)=((iq+1:Nat):Int):=WI
    obtain⟨r,hiad,hr,hrl⟩:=hsl.iad iq hc
    have hts:spansOf ((cs.take (iq+1)).map (·.id))=addS (spansOf ((cs.take iq).map (·.id))) cs[iq].id:=by
     rw[take_snoc cs iq hc,List.map_append,List.map_cons,List.map_nil,zC5]
    generalize cs[iq]=c at *
    obtain⟨rfl,hok⟩:=hr
    have hspm:=(zHO (c:=(cs.take iq).map (·.id)) (fun x hx=>by
     obtain⟨y,hy,rfl⟩:=List.mem_map.1 hx
     exact hcm y (List.mem_of_mem_take hy))).2
    generalize spansOf ((cs.take iq).map (·.id))=sp at *
    have wX:∀ z r,Wf ((Nq.add z).upd Nq.size r):=fun z r=>(w.add z).upd _ _
    have gX:∀ z r j,j<Nq.size→((Nq.add z).upd Nq.size r).get j=Nq.get j:=fun z r j hj=>by
     exact zB0N
    rcases List.eq_nil_or_concat sp with e | ⟨o',s,e⟩
    ·subst e
     rw[zEN] at hts
     have w2:IntKind.i64.wrap (((0:Nat):Int) - 1) = -1:=by decide
     simp (maxSteps:=2000000) (disch:=try exact SX) only[RV,fillA,reduceIte,Nat.reduceEqDiff,Nat.reduceBEq,Nat.reduceAdd,Int.reduceLE,gq8,gq51,gq52,gq53,c1,hiad,ol,w2]
     refine⟨rows_lt sm.rl (by omega), ?_⟩
     refine app1 (bytes:=32) (x:=⟨c.id,1⟩) (wX _ _) (sm.keep fun j hj=>gX _ _ j (sm.lt j hj)) zD3 ⟨rfl,hok,by show -9223372036854775808≤(1:Int)∧(1:Int)≤9223372036854775807;decide⟩ rfl (by omega) (by simp) (by simp) fun p2 M2 m2 wf2 le2 kp2 nw2 wm2 rl2 on2 oc2=>?_
     simp (maxSteps:=2000000) (disch:=try exact SX) only[RV,reduceIte,Nat.reduceEqDiff,gq8,gq51,gq52,gq53,wf2,e1]
     exact⟨hltq,cs.length - (iq+1),by omega,iq+1,p2,rfl,by omega,rfl,rfl,wm2.trans wm,by rw[hts];exact m2⟩
    ·rw[List.concat_eq_append] at e
     subst e
     rw[zDG] at hts
     have hsb:=Spn.may_le (hspm s (by simp))
     have hlen1:(o'++[s]).length=o'.length+1:=by simp
     have w2:IntKind.i64.wrap ((((o'++[s]).length:Nat):Int) - 1)=(o'.length:Int):=WI
     have c2:decide ((0:Int)≤(o'.length:Int))=true:=DT
     have w3:IntKind.i64.wrap (s.n+1)=s.n+1:=WI
     obtain⟨id,rw',r,hrow,lid,hg,hcs,hiad2,hr2',hrl2,hpt,hcell,hpart,hset⟩:=sm.atS (i:=o'.length) (by omega)
     have es:(o'++[s])[o'.length]'(by omega)=s:=by simp
     rw[es] at hr2'
     obtain⟨rfl,hsok⟩:=hr2'
     have hhas:=fun M=>zEU (fuel:=fuel) (d:=d+13) ⟨s.f,s.n+1⟩ c.id M
     have p4:rw'[o'.length*5+4]? = some (I64 s.n):=(hcell 4 (by decide)).trans rfl
     have p0:List.take 4 (List.drop (o'.length*5) rw')=idR s.f:=(take_at (k:=4) (r:=spR s) (fun o ho=>hcell o (by omega))).trans rfl
     have rlo:=rows_lt sm.rl (show Nq.size≤Nq.size+1+1 by omega)
     have wZ:∀ z r z' r',Wf ((((Nq.add z).upd Nq.size r).add z').upd (Nq.size+1) r'):=fun z r z' r'=>((wX z r).add z').upd _ _
     have gZ:∀ z r z' r' j,j<Nq.size→((((Nq.add z).upd Nq.size r).add z').upd (Nq.size+1) r').get j=Nq.get j:=fun z r z' r' j hj=>by
      exact zB0w
     have hone:(⟨c.id,1⟩:Spn).ok:=⟨hok,by show -9223372036854775808≤(1:Int)∧(1:Int)≤9223372036854775807;decide⟩
     by_cases hh:(⟨s.f,s.n+1⟩:Spn).has c.id=some s.n
     ·rw[if_pos hh] at hts
      simp only[hh,Option.getD_some,Option.isSome_some] at hhas
      simp (maxSteps:=2000000) (disch:=try exact SX) only[RV,fillA,reduceIte,Nat.reduceEqDiff,Nat.reduceBEq,Nat.reduceAdd,gq8,gq51,gq52,gq53,c1,e1,hiad,w,ol,w2,c2,hiad2,hg,p4,p0,w3,hhas]
      refine⟨hltq,cs.length - (iq+1),by omega,iq+1,o,rfl,by omega,rfl,rfl,wm, ?_⟩
      have key:=hset (spR ⟨s.f,s.n+1⟩) ⟨s.f,s.n+1⟩ ⟨rfl,hsok.1,by show -9223372036854775808≤s.n+1∧s.n+1≤9223372036854775807;omega⟩ rfl _ (get_upd_eq (wZ (.row false (zB8 ⟨Eid.z,0⟩)) (.row false (zB8 c)) (.row false (spR ⟨Eid.z,0⟩)) (.row false (spR ⟨s.f,s.n+1⟩))) (.row false (lay rw' (o'.length*5) (spR ⟨s.f,s.n+1⟩))) id (by simp only[upd_size,add_size];omega))
      have es2:(o'++[s]).set o'.length ⟨s.f,s.n+1⟩=o'++[⟨s.f,s.n+1⟩]:=by simp
      rw[es2,← hts] at key
      exact key
     ·rw[if_neg hh] at hts
      cases hsm:((⟨s.f,s.n+1⟩:Spn).has c.id).isSome with
      | false =>
       simp only[hsm] at hhas
       simp (maxSteps:=2000000) (disch:=try exact SX) only[RV,fillA,reduceIte,Nat.reduceEqDiff,Nat.reduceBEq,Nat.reduceAdd,gq8,gq51,gq52,gq53,c1,hiad,ol,w2,c2,hiad2,hg,p4,p0,w3,hhas]
       exact zB07
      | true =>
       have hne:decide ((((⟨s.f,s.n+1⟩:Spn).has c.id).getD 0)=s.n)=false:=decide_eq_false fun e=>hh (by
        obtain⟨x,hx⟩:=Option.isSome_iff_exists.1 hsm
        rw[hx] at e ⊢
        exact congrArg some e)
       simp only[hsm] at hhas
       simp (maxSteps:=2000000) (disch:=try exact SX) only[RV,fillA,reduceIte,Nat.reduceEqDiff,Nat.reduceBEq,Nat.reduceAdd,gq8,gq51,gq52,gq53,c1,hiad,ol,w2,c2,hiad2,hg,p4,p0,w3,hhas,hne]
       exact zB07
   ·obtain rfl:iq=cs.length:=by omega
    have c1:decide ((cs.length:Int)<cs.length)=false:=DF
    rw[List.take_length] at sm
    obtain⟨ro,hz,hs⟩:=sm.frz zD3.cel (k:=12) (by omega)
    simp (maxSteps:=2000000) (disch:=try exact SX) only[RV,reduceIte,Nat.reduceEqDiff,gq8,gq52,gq53,hz]
    exact⟨_,⟨ro,rfl,hs⟩,rfl⟩
 ·have q1':=decide_eq_false q1
  rw[if_neg q1] at hr2
  simp only[q1,if_false]
  simp (maxSteps:=2000000) (disch:=try exact SX) only[RV,reduceIte,Nat.reduceEqDiff,h0,h1,hce,q1']
  exact zB06
variable {x : Eid}
theorem zBD (hS:Sl 17 isOp a l)(hl:l.length≤200)(hf:100000<fuel)(M:Mem):zCN fuel (d+8) 27 [a,lbA v] M=some (I64 (zAS l v),M):=by
 have hm:=fun M=>zEI (fuel:=fuel) (d:=d) hS (by omega) (by omega) M
 have hv:=fun M=>zDZ (fuel:=fuel) (d:=d+6) v M
 apply w3_eq
 refine call_gc tf27 rfl (by simp only[icyL,fun M=>hS.icy M 12 (by omega),fz_icyA (zAB v) (show 1<12 by omega)]) (by simp [a27]) fun b' ht hx=>?_
 obtain⟨h0,h1⟩:=hx2 hx
 clear hx
 simp only[a27,c27] at ht ⊢
 unfold zAS
 cases q1:zA1 [] l with
 | false =>
  rw[q1] at hm
  simp (disch:=try exact SX) only[RV,seval,h0,h1,hm]
  rfl
 | true =>
  rw[q1] at hm
  cases q2:v.may with
  | false =>
   rw[q2] at hv
   simp (disch:=try exact SX) only[RV,seval,h0,h1,hm,hv]
   rfl
  | true =>
   rw[q2] at hv
   simp (disch:=try exact SX) only[RV,seval,h0,h1,hm,hv]
   rfl
theorem zFX (hS:Sl 17 isOp a l)(hv:v.ok)(hl:l.length≤200)(hf:100000<fuel):∃ r,zH2 l v r ∧ ∀ M,zCN fuel (d+9) 7 [a,lbA v] M=some (r,M):=by
 have ha:=fun M=>zBD (fuel:=fuel) (d:=d) (v:=v) hS hl hf M
 refine gc_ex tf7 rfl (fun M=>by simp only[icyL,fun M=>hS.icy M 12 (by omega),fz_icyA (zAB v) (show 1<12 by omega)]) ?_
 refine call_gc tf7 rfl (by simp only[icyL,fun M=>hS.icy M 12 (by omega),fz_icyA (zAB v) (show 1<12 by omega)]) (by simp [a7]) fun b' ht hx=>?_
 obtain⟨h0,h1⟩:=hx2 hx
 clear hx
 simp only[a7,c7] at ht ⊢
 unfold zH2
 by_cases q:zAS l v=0
 ·have q':=decide_eq_true q
  obtain⟨q1,q2⟩:=zBY q
  obtain⟨r,hr,hse⟩:=zBN (fuel:=fuel) (d:=d+3) hS q1 hv q2 hl hf
  rw[q] at ha ⊢
  simp only[if_true]
  simp (disch:=try exact SX) only[RV,seval,h0,h1,ha,hse,hr.fz.frz]
  exact⟨_,⟨r,rfl,hr⟩,rfl⟩
 ·have q':=decide_eq_false q
  rw[if_neg q]
  simp (disch:=try exact SX) only[RV,seval,h0,h1,ha,q']
  exact zB06
theorem zGP {k:Int}(hS:Sl 17 isOp a l)(hv:v.ok)(hl:l.length≤200)(hf:100000<fuel)(hk:k≤9223372036854775807 ∧ -9223372036854775808≤k)(M:Mem):zCN fuel (d+9) 9 [a,lbA v,I64 k] M=some (.tup [idA (zGG l v k),I64 (zGF l v k)],M):=by
 have ha:=fun M=>zBD (fuel:=fuel) (d:=d) (v:=v) hS hl hf M
 apply w3_eq
 refine call_gc tf9 rfl (by simp only[icyL,fun M=>hS.icy M 12 (by omega),fz_icyA (zAB v) (show 1<12 by omega),icy12]) (by simp [a9]) fun b' ht hx=>?_
 obtain⟨h0,h1,h2⟩:=hx3 hx
 clear hx
 simp only[a9,c9] at ht ⊢
 unfold zGG zGF
 by_cases q:zAS l v=0
 ·have q':=decide_eq_true q
  obtain⟨q1,q2⟩:=zBY q
  obtain⟨r,hr,hse⟩:=zBN (fuel:=fuel) (d:=d+3) hS q1 hv q2 hl hf
  have lr:=hr.len
  have hvl:=zBF q1 v
  rw[q] at ha
  simp only[q,if_true]
  by_cases q3:k<0
  ·have q3':=decide_eq_true q3
   simp only[q3,true_or,if_true]
   simp (disch:=try exact SX) only[RV,seval,fillA,h0,h1,h2,ha,hse,q3']
   rfl
  have q3':=decide_eq_false q3
  by_cases q4:((zAI l v).length:Int)<k
  ·have q4':=decide_eq_true q4
   simp only[q4,or_true,if_true]
   simp (disch:=try exact SX) only[RV,seval,fillA,h0,h1,h2,ha,hse,q3',q4',lr]
   rfl
  have q4':=decide_eq_false q4
  simp only[q3,q4,or_self,if_false,true_and]
  by_cases q5:k=0
  ·subst q5
   have q5':decide ((0:Int)=0)=true:=rfl
   simp (disch:=try exact SX) only[RV,seval,fillA,h0,h1,h2,ha,hse,q4',lr]
  ·have q5':=decide_eq_false q5
   obtain⟨n,rfl⟩:∃ n:Nat,k=(n:Int)+1:=⟨(k - 1).toNat,by omega⟩
   have w1:IntKind.i64.wrap ((n:Int)+1 - 1)=(n:Int):=WI
   obtain⟨r5,hiad,⟨rfl,_⟩,_⟩:=hr.iad n (by omega)
   have e1:((n:Int)+1 - 1).toNat=n:=by omega
   rw[if_pos (by omega),e1,List.getElem?_eq_getElem (by omega)]
   simp only[Option.map_some,Option.getD_some]
   simp (disch:=try exact SX) only[RV,seval,h0,h1,h2,ha,hse,q3',q4',q5',lr,w1,hiad]
 ·have q':=decide_eq_false q
  simp only[q,if_false,false_and]
  simp (disch:=try exact SX) only[RV,seval,fillA,h0,h1,ha,q']
theorem zKI {o:List Spn}{s:Spn}{x:Eid}(hs:s.may=true)(hx:x.may=true):addS (o++[s]) x=if s.n<64∧x=⟨s.f.hd,s.f.c+s.n⟩ then o++[⟨s.f,s.n+1⟩] else o++[s]++[⟨x,1⟩]:=by
 rw[zDG]
 have hb:=Spn.may_le hs
 have hxc:=(Eid.may_iff.1 hx).2
 have e:(⟨s.f,s.n+1⟩:Spn).has x=some s.n↔s.n<64∧x=⟨s.f.hd,s.f.c+s.n⟩:=by
  unfold Spn.has
  constructor
  ·intro h
   split at h
   ·rename_i hc
    obtain⟨h1,h2,h3,h4⟩:=hc
    have hm:=Spn.may_le h1
    have h5:x.c - s.f.c=s.n:=Option.some.inj h
    refine⟨by have:s.n+1≤64:=hm.2.2.2.1;omega, ?_⟩
    obtain⟨xh,xc⟩:=x
    have h2:xh=s.f.hd:=h2
    have h5:xc - s.f.c=s.n:=h5
    rw[h2,show xc=s.f.c+s.n by omega]
   ·cases h
  ·rintro⟨h1,rfl⟩
   have hm:(⟨s.f,s.n+1⟩:Spn).may=true:=by
    rw[Spn.may_iff] at hs ⊢
    refine⟨hs.1,by show 1≤s.n+1;omega,by show s.n+1≤64;omega,by have:s.f.c+s.n≤1099511627776:=hxc.2;show s.f.c+(s.n+1)≤_;omega⟩
   rw[if_pos ⟨hm,rfl,by show s.f.c≤s.f.c+s.n;omega,by show s.f.c+s.n<s.f.c+(s.n+1);omega⟩]
   show some (s.f.c+s.n - s.f.c)=some s.n
   congr 1
   omega
 by_cases h:(⟨s.f,s.n+1⟩:Spn).has x=some s.n
 ·rw[if_pos h,if_pos (e.1 h)]
 ·rw[if_neg h,if_neg (fun k=>h (e.2 k))]
theorem zL9 {cs r:List AV}{p st o:Nat}{y:AV}(hsl:List.take st (List.drop p cs)=r)(hle:p+st≤cs.length)(ho:o<st):cs.take (p+o)++[y]++cs.drop (p+o+1)=lay cs p (r.set o y):=by
 have hrl:r.length=st:=by rw[← hsl,List.length_take,List.length_drop];omega
 have h1:cs=cs.take p++(r++cs.drop (p+st)):=by
  rw[← hsl,← List.drop_drop,List.take_append_drop,List.take_append_drop]
 have hA:(cs.take p).length=p:=by rw[List.length_take];omega
 unfold lay
 rw[List.length_set,hrl]
 have hd:cs.drop (p+o+1)=r.drop (o+1)++cs.drop (p+st):=by
  conv=>lhs;rw[h1]
  rw[List.drop_append,hA,List.drop_eq_nil_of_le (by omega),List.nil_append,show p+o+1 - p=o+1 by omega,List.drop_append_of_le_length (by omega)]
 have ht:cs.take (p+o)=cs.take p++r.take o:=by
  conv=>lhs;rw[h1]
  rw[List.take_append,hA,List.take_of_length_le (by omega),show p+o - p=o by omega,List.take_append_of_le_length (by omega)]
 rw[hd,ht,List.set_eq_take_append_cons_drop,if_pos (by omega)]
 simp
theorem zJZ {cs:List CellV}(hC:Sl 5 zAY a cs)(hm:∀ c∈cs,c.id.may=true)(hl:cs.length≤100000)(hf:cs.length+100<fuel):∃ r,Sl 5 zGE r (spansOf (cs.map (·.id))) ∧ ∀ M,zCN fuel (d+1) 30 [a] M=some (r,M):=by
 have lc:=hC.len
 refine gc_ex tf30 rfl (fun M=>by simp only[icyL,fun M=>hC.icy M 12 (by omega)]) ?_
 refine call_gc tf30 rfl (by simp only[icyL,fun M=>hC.icy M 12 (by omega)]) (by simp [a30]) fun b' ht hx=>?_
 have h0:=hx 0 _ rfl
 clear hx
 simp only[a30,c30] at ht ⊢
 simp (disch:=try exact SX) only[RV]
 refine w_loop (I:=fun nq tq Nq => ∃ (iq:Nat) (o:AV),nq=cs.length - iq∧iq≤cs.length∧nth undefA tq 0=a∧nth undefA tq 3=o∧nth undefA tq 4=I64 iq∧Wf Nq∧SlM Nq 5 zGE o (spansOf ((cs.take iq).map (·.id)))) (n:=cs.length) (by omega) ?_ ?_
 ·exact zB0u
 ·rintro nq tq Nq hltq ⟨iq,o,rfl,hiq,gq0,gq3,gq4,w,sm⟩
  simp only[ht] at hltq ⊢
  have ol:=sm.len
  have hsl2:=zE9 ((cs.take iq).map (·.id))
  rw[List.length_map,List.length_take] at hsl2
  by_cases hc:iq<cs.length
  ·have c1:decide ((iq:Int)<cs.length)=true:=DT
   have e1:IntKind.i64.wrap ((iq:Int)+1)=((iq+1:Nat):Int):=WI
   obtain⟨r,hiad,hr,hrl⟩:=hC.iad iq hc
   have hts:spansOf ((cs.take (iq+1)).map (·.id))=addS (spansOf ((cs.take iq).map (·.id))) cs[iq].id:=by
    rw[take_snoc cs iq hc,List.map_append,List.map_cons,List.map_nil,zC5]
   have hcx:=hm cs[iq] (List.getElem_mem hc)
   generalize cs[iq]=c at *
   obtain⟨rfl,hok⟩:=hr
   have hspm:=(zHO (c:=(cs.take iq).map (·.id)) (fun x hx=>by
    obtain⟨y,hy,rfl⟩:=List.mem_map.1 hx
    exact hm y (List.mem_of_mem_take hy))).2
   generalize spansOf ((cs.take iq).map (·.id))=sp at *
   rcases List.eq_nil_or_concat sp with e | ⟨o',s,e⟩
   ·subst e
    rw[zEN] at hts
    have c2:decide ((0:Int)<((0:Nat):Int))=false:=by decide
    simp (disch:=try exact SX) only[RV,seval,fillA,gq0,gq3,gq4,lc,c1,hiad,ol,c2]
    refine⟨rows_lt sm.rl (by omega), ?_⟩
    refine app1 (bytes:=32) (x:=⟨c.id,1⟩) w sm zD3 ⟨rfl,(show (⟨c.id,1⟩:Spn).ok from⟨hok,by show -9223372036854775808≤(1:Int)∧(1:Int)≤9223372036854775807;decide⟩)⟩ rfl (by omega) (by omega) (by omega) fun p2 M2 m2 wf2 le2 kp2 nw2 wm2 rl2 on2 oc2=>?_
    simp (disch:=try exact SX) only[RV,seval,gq0,gq3,gq4,wf2,e1]
    exact⟨hltq,cs.length - (iq+1),by omega,iq+1,p2,rfl,by omega,rfl,rfl,by rw[hts];exact m2⟩
   ·rw[List.concat_eq_append] at e
    subst e
    rw[zKI (hspm s (by simp)) hcx] at hts
    have hsb:=Spn.may_le (hspm s (by simp))
    have hlen1:(o'++[s]).length=o'.length+1:=by simp
    have w2:IntKind.i64.wrap (((o'++[s]).length:Int) - 1)=(o'.length:Int):=WI
    have c2:decide ((0:Int)<((o'++[s]).length:Int))=true:=DT
    have w3:IntKind.i64.wrap (s.n+1)=s.n+1:=WI
    have w4:IntKind.i64.wrap (s.f.c+s.n)=s.f.c+s.n:=WI
    obtain⟨id,rw',r,hrow,lid,hg,hcs,hiad2,hr2',hrl2,hpt,hcell,hpart,hset⟩:=sm.atS (i:=o'.length) (by omega)
    have es:(o'++[s])[o'.length]'(by omega)=s:=by simp
    rw[es] at hr2'
    obtain⟨rfl,hsok⟩:=hr2'
    have p4:rw'[o'.length*5+4]? = some (I64 s.n):=(hcell 4 (by decide)).trans rfl
    have p3:rw'[o'.length*5+3]? = some (I64 s.f.c):=(hcell 3 (by decide)).trans rfl
    have p0:List.take 3 (List.drop (o'.length*5) rw')=hdR s.f.hd:=(take_at (k:=3) (r:=spR s) (fun o ho=>hcell o (by omega))).trans rfl
    have rlo:=rows_lt sm.rl (Nat.le_refl Nq.size)
    have hone:(⟨c.id,1⟩:Spn).ok:=⟨hok,by show -9223372036854775808≤(1:Int)∧(1:Int)≤9223372036854775807;decide⟩
    by_cases h1:s.n<64
    ·have h1':=decide_eq_true h1
     cases h2:decide (c.id=⟨s.f.hd,s.f.c+s.n⟩) with
     | true =>
      rw[if_pos ⟨h1,of_decide_eq_true h2⟩] at hts
      simp (disch:=try exact SX) only[RV,seval,fillA,gq0,gq3,gq4,lc,c1,hiad,w,ol,c2,w2,hiad2,hg,p4,p3,p0,h1',h2,w4,↓pIdE,zA0,ETA,w3,e1]
      have key:=hset (spR ⟨s.f,s.n+1⟩) ⟨s.f,s.n+1⟩ ⟨rfl,hsok.1,by show -9223372036854775808≤s.n+1∧s.n+1≤9223372036854775807;omega⟩ rfl (Nq.upd id (.row false (lay rw' (o'.length*5) (spR ⟨s.f,s.n+1⟩)))) (get_upd_eq w _ _ lid)
      have es2:(o'++[s]).set o'.length ⟨s.f,s.n+1⟩=o'++[⟨s.f,s.n+1⟩]:=by simp
      rw[es2,← hts] at key
      have el:=zL9 (y:=I64 (s.n+1)) (o:=4) (take_at (k:=5) (r:=spR s) (fun o ho=>hcell o ho)) (by omega) (by decide)
      refine⟨hltq,cs.length - (iq+1),by omega,iq+1,o,rfl,by omega,rfl,rfl, ?_⟩
      rw[el]
      exact key
     | false =>
      rw[if_neg (fun h=>absurd h.2 (of_decide_eq_false h2))] at hts
      simp (disch:=try exact SX) only[RV,seval,fillA,gq0,gq3,gq4,lc,c1,hiad,ol,c2,w2,hiad2,hg,p4,p3,p0,h1',h2,w4,↓pIdE,zA0,ETA]
      exact zB0b
    ·have h1':=decide_eq_false h1
     rw[if_neg (fun h=>h1 h.1)] at hts
     simp (disch:=try exact SX) only[RV,seval,fillA,gq0,gq3,gq4,lc,c1,hiad,ol,c2,w2,hiad2,hg,p4,h1']
     exact zB0b
  ·obtain rfl:iq=cs.length:=by omega
   have c1:decide ((cs.length:Int)<cs.length)=false:=DF
   rw[List.take_length] at sm
   obtain⟨r,hz,hsr⟩:=sm.frz zD3.cel (k:=12) (by omega)
   simp (disch:=try exact SX) only[RV,seval,gq0,gq3,gq4,lc,hz]
   exact⟨r,hsr,rfl⟩
def zAW (c:List CellV):Nat:=(c.filter fun x=>decide (x.ch = -1)).length
theorem zGT (c:List CellV)(x:CellV):zBE (c++[x])=zBE c+(if x.ch = -1 then 0 else 1):=by
 unfold zBE
 rw[List.filter_append,List.length_append]
 by_cases h:x.ch = -1 <;> simp [h]
theorem zDJ (c:List CellV)(x:CellV):zAW (c++[x])=zAW c+(if x.ch = -1 then 1 else 0):=by
 unfold zAW
 rw[List.filter_append,List.length_append]
 by_cases h:x.ch = -1 <;> simp [h]
theorem zCB (c:List CellV):zBE c+zAW c=c.length:=by
 induction c with
 | nil=>rfl
 | cons x c ih =>
  unfold zBE zAW at *
  rw[List.filter_cons,List.filter_cons]
  by_cases h:x.ch = -1 <;> simp [h] <;> simp at ih <;> omega
theorem zIY {bb bs:Nat}{c:CellV}{n m:Int}(wf:Wf M)(g1:M.get bb=some (.row false [I64 n]))(g2:M.get bs=some (.row false [I64 m]))(hn:0≤n∧n≤1000000000)(hm:0≤m∧m≤1000000000)
  (k:∀ z N,N=(if c.ch = -1 then (M.add z).upd bb (.row false [I64 (n+1)]) else (M.add z).upd bs (.row false [I64 (m+1)]))→Q (.tup [I64 0,BL false]) N):W3 (zCN fuel (d+1) 32 [zMM c,.ptr bb 0,.ptr bs 0] M) Q:=by
 have l1:=Mem.get_lt g1
 have l2:=Mem.get_lt g2
 have w1:IntKind.i64.wrap (n+1)=n+1:=wrap_i64 (by omega) (by omega)
 have w2:IntKind.i64.wrap (m+1)=m+1:=wrap_i64 (by omega) (by omega)
 refine call_0 tf32 rfl (by simp [a32]) fun b' ht hx=>?_
 obtain⟨h0,h1,h2⟩:=hx3 hx
 clear hx
 simp only[a32,c32] at ht ⊢
 by_cases q:c.ch = -1
 ·have q':=decide_eq_true q
  simp (disch:=try exact SX) only[RV,seval,h0,h1,g1,w1,q']
  exact k _ _ (by rw[if_pos q])
 ·have q':=decide_eq_false q
  simp (disch:=try exact SX) only[RV,seval,h0,h2,g2,w2,q']
  exact k _ _ (by rw[if_neg q])
theorem zLV {cs:List CellV}{bb bs:Nat}(hA:Sl 5 zAY a cs)(hcl:cs.length≤1000000)(hf:cs.length<fuel)(wf:Wf M)(hne:bb≠bs)(g1:M.get bb=some (.row false [I64 0]))(g2:M.get bs=some (.row false [I64 0]))
  (k:∀ N,Wf N→M.size≤N.size→(∀ j,j<M.size→j≠bb→j≠bs→N.get j=M.get j)→N.get bb=some (.row false [I64 (zAW cs)])→N.get bs=some (.row false [I64 (zBE cs)])→Q NIL N) :
  W3 (zCN fuel (d+2) 31 [a,.fn 32 [] [.ptr bb 0,.ptr bs 0]] M) Q:=by
 have la:=hA.len
 have l1:=Mem.get_lt g1
 have l2:=Mem.get_lt g2
 refine call_0 tf31 rfl (by simp [a31]) fun b' ht hx=>?_
 obtain⟨h0,h1⟩:=hx2 hx
 clear hx
 simp only[a31,c31] at ht ⊢
 simp (disch:=try exact SX) only[RV,seval,h0,la]
 refine w_loop (I:=fun n t N => ∃ (i:Nat),n=cs.length - i∧i≤cs.length∧nth undefA t 1 = .fn 32 [] [.ptr bb 0,.ptr bs 0]∧nth undefA t 4=NIL∧nth undefA t 9=a∧nth undefA t 10=I64 cs.length∧nth undefA t 11=I64 i∧Wf N∧M.size≤N.size∧(∀ j,j<M.size→j≠bb→j≠bs→N.get j=M.get j)∧N.get bb=some (.row false [I64 (zAW (cs.take i))])∧N.get bs=some (.row false [I64 (zBE (cs.take i))])) (n:=cs.length) (by omega) ?_ ?_
 ·refine⟨0,rfl,Nat.zero_le _, ?_, ?_, ?_, ?_, ?_,wf,Nat.le_refl _,(fun _ _ _ _=>rfl),g1,g2⟩ <;> simp (disch:=try exact SX) only[RV,seval,h1]
  all_goals first | rfl | assumption | done
 ·rintro n t N hlt ⟨i,rfl,hi,g1,g4,g9,g10,g11,w,le,kp,b1,b2⟩
  simp only[ht] at hlt ⊢
  by_cases hc:i<cs.length
  ·have q1:decide ((i:Int)<cs.length)=true:=DT
   have w1:IntKind.i64.wrap ((i:Int)+1)=((i+1:Nat):Int):=WI
   obtain⟨r,hiad,hr,hrl⟩:=hA.iad i hc
   have hb:=zDJ (cs.take i) cs[i]
   have hs:=zGT (cs.take i) cs[i]
   rw[← take_snoc cs i hc] at hb hs
   have hcc:=zCB (cs.take i)
   rw[List.length_take] at hcc
   generalize cs[i]=c at *
   obtain⟨rfl,hok⟩:=hr
   have l1':bb<N.size:=by omega
   have l2':bs<N.size:=by omega
   have wY:=(w.add (.row false (zB8 ⟨Eid.z,0⟩))).upd N.size (.row false (zB8 c))
   have gY:∀ j,j<N.size→((N.add (.row false (zB8 ⟨Eid.z,0⟩))).upd N.size (.row false (zB8 c))).get j=N.get j:=fun j hj=>by
    exact zB0N
   have sY:((N.add (.row false (zB8 ⟨Eid.z,0⟩))).upd N.size (.row false (zB8 c))).size=N.size+1:=rfl
   simp (disch:=try exact SX) only[RV,seval,g1,g9,g10,g11,q1,hiad]
   revert wY gY sY
   generalize ((N.add _).upd N.size _)=Y
   intro wY gY sY
   refine zIY (d:=d) (c:=c) (n:=zAW (cs.take i)) (m:=zBE (cs.take i)) wY ((gY _ l1').trans b1) ((gY _ l2').trans b2) (by omega) (by omega) fun z N2 hN2=>?_
   have hw2:Wf N2:=by rw[hN2];split <;> exact(wY.add _).upd _ _
   have hs2:N2.size=N.size+2:=by rw[hN2];split <;> simp only[upd_size,add_size] <;> omega
   have hg2:∀ j,j<N.size→j≠bb→j≠bs→N2.get j=N.get j:=fun j hj e1 e2=>by
    rw[hN2]
    split
    ·rw[get_upd_ne (wY.add _) _ _ _ (fun e=>e1 e.symm),get_add wY _ _ (by omega)];exact gY j hj
    ·rw[get_upd_ne (wY.add _) _ _ _ (fun e=>e2 e.symm),get_add wY _ _ (by omega)];exact gY j hj
   have hb2:N2.get bb=some (.row false [I64 (zAW (cs.take (i+1)))]):=by
    rw[hN2,hb]
    split
    ·rw[get_upd_eq (wY.add _) _ _ (by simp only[add_size];omega)];rfl
    ·rw[get_upd_ne (wY.add _) _ _ _ (fun e=>hne e.symm),get_add wY _ _ (by omega)];exact(gY _ l1').trans b1
   have hs3:N2.get bs=some (.row false [I64 (zBE (cs.take (i+1)))]):=by
    rw[hN2,hs]
    split
    ·rw[get_upd_ne (wY.add _) _ _ _ hne,get_add wY _ _ (by omega)];exact(gY _ l2').trans b2
    ·rw[get_upd_eq (wY.add _) _ _ (by simp only[add_size];omega)];rfl
   clear hN2
   simp (disch:=try exact SX) only[RV,seval,g1,g4,g9,g10,g11,w1,hw2]
   refine⟨hlt,cs.length - (i+1),by omega,i+1,rfl,by omega,rfl,by omega,fun j hj e1 e2=>(hg2 j (by omega) e1 e2).trans (kp j hj e1 e2),hb2,hs3⟩
  ·obtain rfl:i=cs.length:=by omega
   have q1:decide ((cs.length:Int)<cs.length)=false:=DF
   rw[List.take_length] at b1 b2
   simp (disch:=try exact SX) only[RV,seval,g4,g10,g11]
   exact k N w le kp b1 b2
def topC (cs:List CellV)(v:Lb):Int:=cs.foldl (fun m c=>if c.id.hd.lb.leq v=true then imax m c.id.c else m) 0
theorem zCV (cs:List CellV)(v:Lb)(c:CellV):topC (cs++[c]) v=if c.id.hd.lb.leq v=true then imax (topC cs v) c.id.c else topC cs v:=by simp [topC]
theorem zFC {cs:List CellV}{v:Lb}:0≤topC cs v ∧ ∀ c∈cs,c.id.hd.lb.leq v=true→c.id.c≤topC cs v:=by
 refine zAN (P:=fun cs=>0≤topC cs v ∧ ∀ c∈cs,c.id.hd.lb.leq v=true→c.id.c≤topC cs v) ⟨Int.le_refl 0,fun c h=>absurd h (by simp)⟩ (fun cs x ih=>?_) cs
 rw[zCV]
 unfold imax
 refine⟨?_,fun c hc hq=>?_⟩
 ·split
  ·split <;> omega
  ·exact ih.1
 ·rcases List.mem_append.1 hc with hc | hc
  ·have:=ih.2 c hc hq
   split
   ·split <;> omega
   ·exact this
  ·rw[List.mem_singleton] at hc
   subst hc
   rw[if_pos hq]
   split <;> omega
def topH (l:List Op)(h:Hd):Int:=topC (zAG (elsR (textOf l))) h.lb
def zGH (l:List Op)(h:Hd):Int:=if zA1 [] l=true then (if h.may=true then (if 1099511627776≤topH l h then 9 else 0) else 8) else 8
def zI9 (l:List Op)(h:Hd):Int:=if zGH l h=0 then topH l h+1 else 0
theorem zJ9 (x:Hd):∀ y∈hdR x,Fz y:=fun y hy=>by
 simp only[hdR,List.mem_cons,List.not_mem_nil,or_false] at hy
 rcases hy with rfl | rfl | rfl <;> exact fz_sc_int _ _
theorem zKE {h:Hd}(hS:Sl 17 isOp a l)(hl:l.length≤200)(hf:3200000<fuel)(M:Mem):zCN fuel (d+19) 14 [a,hdA h] M=some (.tup [I64 (zI9 l h),I64 (zGH l h)],M):=by
 obtain⟨rt,⟨r3,rfl,hr3⟩,htx⟩:=zHQ (fuel:=fuel) (d:=d+3) hS (by omega) (by omega)
 have hch:=fun M=>@zCA fuel (d+16) h M
 apply w3_eq
 refine call_gc tf14 rfl (by simp only[icyL,fun M=>hS.icy M 12 (by omega),fz_icyA (zJ9 h) (show 1<12 by omega)]) (by simp [a14]) fun b' ht hx=>?_
 obtain⟨h0,h1⟩:=hx2 hx
 clear hx
 simp only[a14,c14] at ht ⊢
 unfold zI9 zGH
 cases q1:zA1 [] l with
 | false =>
  rw[q1] at htx
  simp (disch:=try exact SX) only[RV,reduceIte,Nat.reduceEqDiff,Int.reduceEq,h0,h1,htx,zAD]
  rfl
 | true =>
  rw[q1] at htx hr3
  simp only[if_true] at hr3
  have hT:=zAH q1
  have htl:=zDF l
  have hel:=zD9 hT.ok.1
  cases q2:h.may with
  | false =>
   rw[q2] at hch
   simp (disch:=try exact SX) only[RV,reduceIte,Nat.reduceEqDiff,Int.reduceEq,h0,h1,htx,hch,zA6,zAD]
   rfl
  | true =>
   rw[q2] at hch
   obtain⟨r4,hr4,hal⟩:=zIS (fuel:=fuel) (d:=d+10) hr3 hT.ok.1 (by omega) (by omega)
   have lr4:=hr4.len
   have hcl:=zBI (elsR (textOf l))
   unfold topH
   generalize zAG (elsR (textOf l))=cs at *
   simp (disch:=try exact SX) only[RV,reduceIte,Nat.reduceEqDiff,h0,h1,htx,hch,hal,zA6,lr4]
   refine w_loop (I:=fun n t N => ∃ (i:Nat),n=cs.length - i∧i≤cs.length∧nth undefA t 3 = .ptr 0 0∧nth undefA t 9=I64 (topC (cs.take i) h.lb)∧nth undefA t 26=r4∧nth undefA t 27=I64 cs.length∧nth undefA t 28=I64 i∧Wf N∧1≤N.size∧N.get 0=some (.row false (hdR h))) (n:=cs.length) (by omega) ?_ ?_
   ·refine⟨0,rfl,Nat.zero_le _, ?_, ?_, ?_, ?_, ?_,Wf.mem0.add _,Nat.le_refl 1,by simp (disch:=try exact SX) only[RV]⟩ <;> simp (disch:=try exact SX) only[RV,reduceIte,Nat.reduceEqDiff]
    all_goals first | rfl | assumption | done
   ·rintro n t N hlt ⟨i,rfl,hi,g3,g9,g26,g27,g28,w,le,m0⟩
    simp only[ht] at hlt ⊢
    have l0:0<N.size:=by omega
    by_cases hc:i<cs.length
    ·have q3:decide ((i:Int)<cs.length)=true:=DT
     have w1:IntKind.i64.wrap ((i:Int)+1)=((i+1:Nat):Int):=WI
     obtain⟨r,hiad,hr,hrl⟩:=hr4.iad i hc
     have hts:=zCV (cs.take i) h.lb cs[i]
     rw[← take_snoc cs i hc] at hts
     generalize cs[i]=c at *
     obtain⟨rfl,hok⟩:=hr
     have hle:=fun M=>zCZ (fuel:=fuel) (d:=d+17) c.id.hd.lb h.lb M
     have gY:∀ z r,((N.add z).upd N.size r).get 0=some (.row false (hdR h)):=fun z r=>by
      rw[get_upd_ne (w.add _) _ _ _ (by omega),get_add w _ _ l0];exact m0
     cases q4:c.id.hd.lb.leq h.lb with
     | true =>
      rw[q4,if_pos rfl] at hts
      simp only[q4] at hle
      simp (disch:=try exact SX) only[RV,reduceIte,Nat.reduceEqDiff,Nat.reduceAdd,Nat.reduceLeDiff,g3,g9,g26,g27,g28,q3,hiad,w,m0,hle,w1,pB_max2,BMM]
      exact⟨hlt,cs.length - (i+1),by omega,i+1,rfl,by omega,by rw[hts],rfl⟩
     | false =>
      rw[q4,if_neg (by decide)] at hts
      simp only[q4] at hle
      simp (disch:=try exact SX) only[RV,reduceIte,Nat.reduceEqDiff,Nat.reduceAdd,Nat.reduceLeDiff,g3,g9,g26,g27,g28,q3,hiad,w,m0,hle,w1]
      exact⟨hlt,cs.length - (i+1),by omega,i+1,rfl,by omega,by rw[hts],rfl⟩
    ·obtain rfl:i=cs.length:=by omega
     have q3:decide ((cs.length:Int)<cs.length)=false:=DF
     rw[List.take_length] at g9
     have htp:=(zFC (cs:=cs) (v:=h.lb)).1
     by_cases q5:1099511627776≤topC cs h.lb
     ·have q5':=decide_eq_true q5
      rw[if_pos q5]
      simp (disch:=try exact SX) only[RV,reduceIte,Nat.reduceEqDiff,Int.reduceEq,g9,g27,g28,q5']
     ·have q5':=decide_eq_false q5
      have w2:IntKind.i64.wrap (topC cs h.lb+1)=topC cs h.lb+1:=WI
      rw[if_neg q5]
      simp (disch:=try exact SX) only[RV,reduceIte,Nat.reduceEqDiff,g9,g27,g28,q5',w2]
def cntL (l:List Op)(v:Lb):List CellV:=if zAS l v=0 then zAI l v else []
theorem zHY (hS:Sl 17 isOp a l)(hl:l.length≤200)(hf:3200000<fuel)(hd:∀ o∈l,o.rs.length≤1000000000)(M:Mem):zCN fuel (d+19) 12 [a,lbA v] M=some (.tup [I64 (zBE (cntL l v)),I64 (zAW (cntL l v)),I64 (zAS l v)],M):=by
 obtain⟨rc,⟨r2,rfl,hr2⟩,hce⟩:=zCK (fuel:=fuel) (d:=d) (v:=v) hS hl hf hd
 have hvl:(cntL l v).length≤100000:=by
  unfold cntL
  split
  ·rename_i h0z
   have:=zBF (zBY h0z).1 v
   omega
  ·exact Nat.zero_le _
 unfold cntL at hvl ⊢
 generalize (if zAS l v=0 then zAI l v else [])=C at *
 apply w3_eq
 refine call_gc tf12 rfl (by simp only[icyL,fun M=>hS.icy M 12 (by omega),fz_icyA (zAB v) (show 1<12 by omega)]) (by simp [a12]) fun b' ht hx=>?_
 obtain⟨h0,h1⟩:=hx2 hx
 clear hx
 simp only[a12,c12] at ht ⊢
 simp (disch:=try exact SX) only[RV,seval,h0,h1,hce]
 refine zLV (d:=d+16) hr2 (by omega) (by omega) ?_ (by decide) ?_ ?_ fun N w le kp b1 b2=>?_
 ·exact zB04
 ·exact zB04
 ·exact zB04
 ·have l1:=Mem.get_lt b1
  have l2:=Mem.get_lt b2
  simp (disch:=try exact SX) only[RV,seval,b1,b2]
  rfl
theorem zF4 (hS:Sl 17 isOp a l)(hv:v.ok)(hl:l.length≤200)(hf:100000<fuel)(M:Mem):zCN fuel (d+9) 13 [a,lbA v] M=some (.tup [I64 (zBE (cntL l v)),I64 (zAW (cntL l v)),I64 (zAS l v)],M):=by
 have ha:=fun M=>zBD (fuel:=fuel) (d:=d) (v:=v) hS hl hf M
 apply w3_eq
 refine call_gc tf13 rfl (by simp only[icyL,fun M=>hS.icy M 12 (by omega),fz_icyA (zAB v) (show 1<12 by omega)]) (by simp [a13]) fun b' ht hx=>?_
 obtain⟨h0,h1⟩:=hx2 hx
 clear hx
 simp only[a13,c13] at ht ⊢
 unfold cntL
 by_cases q:zAS l v=0
 ·have q':=decide_eq_true q
  obtain⟨q1,q2⟩:=zBY q
  obtain⟨r,hr,hse⟩:=zBN (fuel:=fuel) (d:=d+3) hS q1 hv q2 hl hf
  have lr:=hr.len
  have hvl:=zBF q1 v
  rw[q] at ha ⊢
  simp only[if_true]
  generalize zAI l v=C at *
  simp (disch:=try exact SX) only[RV,seval,h0,h1,ha,hse]
  refine w_loop (I:=fun nq tq Nq => ∃ (iq:Nat),nq=C.length - iq∧iq≤C.length∧nth undefA tq 0=a∧nth undefA tq 8=r∧nth undefA tq 9=I64 (zAW (C.take iq))∧nth undefA tq 10=I64 iq∧Wf Nq) (n:=C.length) (by omega) ?_ ?_
  ·refine⟨0,rfl,Nat.zero_le _, ?_, ?_, ?_, ?_,Wf.mem0.add _⟩ <;> simp (disch:=try exact SX) only[RV,seval,h0]
   all_goals first | rfl | assumption | done
  ·rintro nq tq Nq hltq ⟨iq,rfl,hiq,gq0,gq8,gq9,gq10,w⟩
   simp only[ht] at hltq ⊢
   by_cases hc:iq<C.length
   ·have c1:decide ((iq:Int)<C.length)=true:=DT
    have w1:IntKind.i64.wrap ((iq:Int)+1)=((iq+1:Nat):Int):=WI
    obtain⟨r5,hiad,⟨rfl,_⟩,_⟩:=hr.iad iq hc
    have hsn:=zDJ (C.take iq) C[iq]
    rw[← take_snoc C iq hc] at hsn
    have hcc:=zCB (C.take iq)
    rw[List.length_take] at hcc
    generalize C[iq]=c at *
    by_cases h1:c.ch = -1
    ·have h1':=decide_eq_true h1
     rw[if_pos h1] at hsn
     have w2:IntKind.i64.wrap ((zAW (C.take iq):Int)+1)=((zAW (C.take iq)+1:Nat):Int):=WI
     simp (disch:=try exact SX) only[RV,seval,gq0,gq8,gq9,gq10,lr,c1,w1,hiad,h1',w2]
     exact⟨hltq,C.length - (iq+1),by omega,iq+1,rfl,by omega,by rw[hsn],rfl,w⟩
    ·have h1':=decide_eq_false h1
     rw[if_neg h1] at hsn
     simp (disch:=try exact SX) only[RV,seval,gq0,gq8,gq9,gq10,lr,c1,w1,hiad,h1']
     exact⟨hltq,C.length - (iq+1),by omega,iq+1,rfl,by omega,congrArg (fun n:Nat=>I64 n) hsn.symm,rfl,w⟩
   ·obtain rfl:iq=C.length:=by omega
    have c1:decide ((C.length:Int)<C.length)=false:=DF
    rw[List.take_length] at gq9
    have hcc:=zCB C
    have w2:IntKind.i64.wrap ((C.length:Int) - (zAW C:Int))=(zBE C:Int):=WI
    simp (disch:=try exact SX) only[RV,seval,gq8,gq9,gq10,lr,w2]
 ·have q':=decide_eq_false q
  rw[if_neg q]
  simp (disch:=try exact SX) only[RV,seval,h0,h1,ha,q']
  rfl
theorem zFY {k m:Int}(hS:Sl 17 isOp a l)(hv:v.ok)(hl:l.length≤200)(hf:100000<fuel):∃ r,vspK l v k m r ∧ ∀ M,zCN fuel (d+9) 11 [a,lbA v,I64 k,I64 m] M=some (r,M):=by
 have ha:=fun M=>zBD (fuel:=fuel) (d:=d) (v:=v) hS hl hf M
 refine gc_ex tf11 rfl (fun M=>by simp only[icyL,fun M=>hS.icy M 12 (by omega),fz_icyA (zAB v) (show 1<12 by omega),icy12]) ?_
 refine call_gc tf11 rfl (by simp only[icyL,fun M=>hS.icy M 12 (by omega),fz_icyA (zAB v) (show 1<12 by omega),icy12]) (by simp [a11]) fun b' ht hx=>?_
 obtain⟨h0,h1,h2⟩:=hx3 hx
 have h3:=hx 3 _ rfl
 clear hx
 simp only[a11,c11] at ht ⊢
 unfold vspK vspE
 by_cases q1:zAS l v=0
 ·have q1':=decide_eq_true q1
  obtain⟨p1,p2⟩:=zBY q1
  obtain⟨r2,hr2,hse⟩:=zBN (fuel:=fuel) (d:=d+3) hS p1 hv p2 hl hf
  rw[q1] at ha
  have hvl:=zBF p1 v
  have lr2:=hr2.len
  simp only[q1,if_true]
  by_cases q2:k<0
  ·have q2':=decide_eq_true q2
   simp only[q2,true_or,if_true]
   simp (disch:=try exact SX) only[RV,seval,h0,h1,h2,ha,hse,q2']
   exact zB06
  have q2':=decide_eq_false q2
  by_cases q3:((zAI l v).length:Int)<k
  ·have q3':=decide_eq_true q3
   simp only[q3,true_or,or_true,if_true]
   simp (disch:=try exact SX) only[RV,seval,h0,h1,h2,ha,hse,q2',q3',lr2]
   exact zB06
  have q3':=decide_eq_false q3
  by_cases q4:m<1
  ·have q4':=decide_eq_true q4
   simp only[q4,true_or,or_true,if_true]
   simp (disch:=try exact SX) only[RV,seval,h0,h1,h2,h3,ha,hse,q2',q3',q4',lr2]
   exact zB06
  have q4':=decide_eq_false q4
  obtain⟨k,rfl⟩:∃ n:Nat,k=n:=⟨k.toNat,by omega⟩
  have w0:IntKind.i64.wrap (((zAI l v).length:Int) - k)=(zAI l v).length - k:=WI
  by_cases q5:((zAI l v).length:Int) - k<m
  ·have q5':=decide_eq_true q5
   simp only[q5,or_true,if_true]
   simp (disch:=try exact SX) only[RV,seval,h0,h1,h2,h3,ha,hse,q2',q3',q4',q5',w0,lr2]
   exact zB06
  have q5':=decide_eq_false q5
  obtain⟨m,rfl⟩:∃ n:Nat,m=n:=⟨m.toNat,by omega⟩
  have q6:¬((k:Int)<0∨((zAI l v).length:Int)<k∨(m:Int)<1∨(zAI l v).length - (k:Int)<m):=by omega
  simp only[q6,if_false,if_true]
  unfold midC
  simp only[Int.toNat_natCast]
  have w1:IntKind.i64.wrap ((k:Int)+m)=((k+m:Nat):Int):=WI
  obtain⟨sa,hsa,hsl⟩:=zMK hr2 (i:=k) (j:=k+m) (by omega) (by omega)
  rw[Nat.add_sub_cancel_left] at hsl
  have hcm:∀ c∈((zAI l v).drop k).take m,c.id.may=true:=fun c hc=>by
   obtain⟨x,x1,x2,_⟩:=zKD (List.mem_of_mem_drop (List.mem_of_mem_take hc))
   rw[← x2]
   exact(zJ0 p1 x x1).2.2
  have hlm:(((zAI l v).drop k).take m).length=m:=by rw[List.length_take,List.length_drop];omega
  generalize ((zAI l v).drop k).take m=cs at *
  obtain⟨rs,hrs,hof⟩:=zJZ (fuel:=fuel) (d:=d+7) hsl hcm (by omega) (by omega)
  simp (disch:=try exact SX) only[RV,seval,h0,h1,h2,h3,ha,hse,hr2.fz.rows,q2',q3',q4',q5',w0,w1,lr2,hsa,hof,hrs.fz.frz]
  exact⟨_,⟨rs,rfl,hrs⟩,rfl⟩
 ·have q1':=decide_eq_false q1
  simp only[q1,if_false]
  simp (disch:=try exact SX) only[RV,seval,h0,h1,ha,q1']
  exact zB06
theorem zGW {cs:List CellV}{v:Lb}:topC cs v=0 ∨ ∃ c∈cs,c.id.hd.lb.leq v=true∧c.id.c=topC cs v:=by
 refine zAN (P:=fun cs=>topC cs v=0 ∨ ∃ c∈cs,c.id.hd.lb.leq v=true∧c.id.c=topC cs v) (.inl rfl) (fun cs x ih=>?_) cs
 rw[zCV]
 have ih':∀ t,t=topC cs v→t=0 ∨ ∃ c∈cs++[x],c.id.hd.lb.leq v=true∧c.id.c=t:=fun t ht=>by
  subst ht
  rcases ih with h | ⟨c,h1,h2,h3⟩
  ·exact .inl h
  ·exact .inr ⟨c,List.mem_append_left _ h1,h2,h3⟩
 unfold imax
 by_cases hq:x.id.hd.lb.leq v=true
 ·rw[if_pos hq]
  split
  ·exact .inr ⟨x,by simp,hq,rfl⟩
  ·exact ih' _ rfl
 ·rw[if_neg hq];exact ih' _ rfl
theorem zLX {cs cs':List CellV}{v:Lb}(h:∀ c,c∈cs↔c∈cs'):topC cs v=topC cs' v:=by
 have a1:=zFC (cs:=cs) (v:=v)
 have a2:=zFC (cs:=cs') (v:=v)
 have b1:topC cs v≤topC cs' v:=by
  rcases zGW (cs:=cs) (v:=v) with e | ⟨c,h1,h2,h3⟩
  ·rw[e];exact a2.1
  ·rw[← h3];exact a2.2 c ((h c).1 h1) h2
 have b2:topC cs' v≤topC cs v:=by
  rcases zGW (cs:=cs') (v:=v) with e | ⟨c,h1,h2,h3⟩
  ·rw[e];exact a1.1
  ·rw[← h3];exact a1.2 c ((h c).2 h1) h2
 omega
theorem zLY {l:List Op}(h:zA1 [] l=true)(v:Lb):topC (zAG (zAZ l)) v=topC (zAG (elsR (textOf l))) v:=by
 refine zLX fun c=>?_
 unfold zAG
 rw[List.mem_map,List.mem_map]
 constructor
 ·rintro⟨x,hx,rfl⟩;exact⟨x,(zDE h x).1 hx,rfl⟩
 ·rintro⟨x,hx,rfl⟩;exact⟨x,(zDE h x).2 hx,rfl⟩
theorem zIE (hS:Sl 17 isOp a l)(hh:zA1 [] l=true)(hv:v.ok)(hl:l.length≤200)(hf:100000<fuel)(M:Mem):zCN fuel (d+5) 37 [a,lbA v] M=some (I64 (topC (zAG (elsR (textOf l))) v),M):=by
 have hrn:=zDP hh
 obtain⟨ro,hro,hon⟩:=zCF (fuel:=fuel) (d:=d) hS hrn (by omega) (by omega)
 have hom:=zDD hrn
 have lro:=hro.len
 rw[← zLY hh]
 generalize zAZ l=E at *
 apply w3_eq
 refine call_gc tf37 rfl (by simp only[icyL,fun M=>hS.icy M 12 (by omega),fz_icyA (zAB v) (show 1<12 by omega)]) (by simp [a37]) fun b' ht hx=>?_
 obtain⟨h0,h1⟩:=hx2 hx
 clear hx
 simp only[a37,c37] at ht ⊢
 simp (disch:=try exact SX) only[RV,seval,h0,h1,hon]
 refine w_loop (I:=fun nq tq Nq => ∃ (iq:Nat),nq=E.length - iq∧iq≤E.length∧nth undefA tq 0=a∧nth undefA tq 3 = .ptr 0 0∧nth undefA tq 5=I64 (topC (zAG (E.take iq)) v)∧nth undefA tq 6=ro∧nth undefA tq 7=I64 iq∧Wf Nq∧Nq.get 0=some (.row false (lbR v))) (n:=E.length) (by omega) ?_ ?_
 ·exact zB0j
 ·rintro nq tq Nq hltq ⟨iq,rfl,hiq,gq0,gq3,gq5,gq6,gq7,w,g⟩
  simp only[ht] at hltq ⊢
  have l0:=Mem.get_lt g
  by_cases hc:iq<E.length
  ·have c1:decide ((iq:Int)<E.length)=true:=DT
   have w1:IntKind.i64.wrap ((iq:Int)+1)=((iq+1:Nat):Int):=WI
   obtain⟨r9,hiad,hr9,_⟩:=hro.iad iq hc
   have hsn:topC (zAG (E.take (iq+1))) v=if E[iq].id.hd.lb.leq v=true then imax (topC (zAG (E.take iq)) v) E[iq].id.c else topC (zAG (E.take iq)) v:=by
    rw[take_snoc E iq hc]
    unfold zAG
    rw[List.map_append,List.map_cons,List.map_nil,zCV]
   generalize E[iq]=x at *
   obtain⟨rfl,hok,_⟩:=hr9
   have hle:=fun M=>zB6 (fuel:=fuel) (d:=d+2) x.id.hd.lb v hok.1.1 hv (by omega) M
   generalize topC (zAG (E.take iq)) v=t at *
   cases q2:x.id.hd.lb.leq v with
   | false =>
    rw[q2] at hle hsn
    rw[if_neg (by decide)] at hsn
    simp (disch:=try exact SX) only[RV,seval,gq0,gq3,gq5,gq6,gq7,lro,c1,w1,hiad,g,hle]
    exact⟨hltq,E.length - (iq+1),by omega,iq+1,rfl,by omega,by rw[hsn],rfl,w⟩
   | true =>
    rw[q2] at hle hsn
    rw[if_pos rfl] at hsn
    unfold imax at hsn
    by_cases h3:t<x.id.c
    ·have h3':=decide_eq_true h3
     rw[if_pos h3] at hsn
     exact zB0r
    ·have h3':=decide_eq_false h3
     rw[if_neg h3] at hsn
     exact zB0r
  ·obtain rfl:iq=E.length:=by omega
   have c1:decide ((E.length:Int)<E.length)=false:=DF
   rw[List.take_length] at gq5
   simp (disch:=try exact SX) only[RV,seval,gq5,gq6,gq7,lro]
theorem zGQ {h:Hd}(hS:Sl 17 isOp a l)(hho:h.ok)(hl:l.length≤200)(hf:100000<fuel)(M:Mem):zCN fuel (d+9) 15 [a,hdA h] M=some (.tup [I64 (zI9 l h),I64 (zGH l h)],M):=by
 have hm:=fun M=>zEI (fuel:=fuel) (d:=d+1) hS (by omega) (by omega) M
 have hv:=fun M=>zD0 (fuel:=fuel) (d:=d+6) h M
 apply w3_eq
 refine call_gc tf15 rfl (by simp only[icyL,fun M=>hS.icy M 12 (by omega),fz_icyA (zJ9 h) (show 1<12 by omega)]) (by simp [a15]) fun b' ht hx=>?_
 obtain⟨h0,h1⟩:=hx2 hx
 clear hx
 simp only[a15,c15] at ht ⊢
 unfold zI9 zGH
 cases q1:zA1 [] l with
 | false =>
  rw[q1] at hm
  simp (disch:=try exact SX) only[RV,seval,h0,h1,hm]
  try rfl
 | true =>
  rw[q1] at hm
  cases q2:h.may with
  | false =>
   rw[q2] at hv
   simp (disch:=try exact SX) only[RV,seval,h0,h1,hm,hv]
   try rfl
  | true =>
   rw[q2] at hv
   have ht:=fun M=>zIE (fuel:=fuel) (d:=d+3) (v:=h.lb) hS q1 hho.1 hl hf M
   have hT:=zAH q1
   have hmx:topH l h≤1099511627776∧0≤topH l h:=by
    unfold topH
    refine⟨?_,zFC.1⟩
    rcases zGW (cs:=zAG (elsR (textOf l))) (v:=h.lb) with e | ⟨c,h1,h2,h3⟩
    ·omega
    ·rw[← h3]
     unfold zAG at h1
     obtain⟨x,hx,rfl⟩:=List.mem_map.1 h1
     exact(Eid.may_iff.1 (El.may_iff.1 ((zAO hT.ok).1.m x hx)).1).2.2
   have ht':∀ M,_=some (I64 (topH l h),M):=ht
   generalize topH l h=t at *
   by_cases q3:1099511627776≤t
   ·have e:t=1099511627776:=by omega
    subst e
    have q3':decide ((1099511627776:Int)=1099511627776)=true:=rfl
    simp (disch:=try exact SX) only[RV,seval,h0,h1,hm,hv,ht']
   ·have q3':decide (t=1099511627776)=false:=DF
    have w1:IntKind.i64.wrap (t+1)=t+1:=WI
    simp (disch:=try exact SX) only[RV,seval,h0,h1,hm,hv,ht',q3',w1]
    simp only[q3,if_true,if_false]
theorem zF8 {a b:AV}{l:List Spn}(ha:Sl 5 zGE a l)(hb:Sl 5 zGE b l)(hf:l.length<fuel)(hl:l.length≤1000000000)(M:Mem):zCN fuel (d+1) 17 [a,b] M=some (BL true,M):=by
 have la:=ha.len
 have lb:=hb.len
 have q0:decide ((l.length:Int)=l.length)=true:=decide_eq_true rfl
 apply w3_eq
 refine call_gc tf17 rfl (by simp (disch:=try exact SX) only[icyL,ha.fz.icy,hb.fz.icy]) (by simp [a17]) fun b' ht hx=>?_
 obtain⟨h0,h1⟩:=hx2 hx
 clear hx
 simp only[a17,c17] at ht ⊢
 simp (disch:=try exact SX) only[RV,seval,h0,h1,la,lb]
 refine w_loop (I:=fun nq tq Nq => ∃ (iq:Nat),nq=l.length - iq∧iq≤l.length∧nth undefA tq 0=a∧nth undefA tq 1=b∧nth undefA tq 5=I64 iq∧Wf Nq) (n:=l.length) (by omega) ?_ ?_
 ·refine⟨0,rfl,Nat.zero_le _, ?_, ?_, ?_,Wf.mem0⟩ <;> simp (disch:=try exact SX) only[RV,seval,h0,h1]
  all_goals first | rfl | assumption | done
 ·rintro nq tq Nq hltq ⟨iq,rfl,hiq,gq0,gq1,gq5,w⟩
  simp only[ht] at hltq ⊢
  by_cases hc:iq<l.length
  ·have c1:decide ((iq:Int)<l.length)=true:=DT
   have w1:IntKind.i64.wrap ((iq:Int)+1)=((iq+1:Nat):Int):=WI
   obtain⟨r1,i1,⟨rfl,_⟩,_⟩:=ha.iad iq hc
   obtain⟨r2,i2,⟨rfl,_⟩,_⟩:=hb.iad iq hc
   have q1:decide (l[iq]=l[iq])=true:=decide_eq_true rfl
   simp (disch:=try exact SX) only[RV,seval,gq0,gq1,gq5,la,c1,w1,i1,i2,↓pSpN,zJT,ETA]
   exact⟨hltq,l.length - (iq+1),by omega,iq+1,rfl,by omega,rfl,w⟩
  ·obtain rfl:iq=l.length:=by omega
   have c1:decide ((l.length:Int)<l.length)=false:=DF
   simp (disch:=try exact SX) only[RV,seval,gq0,gq5,la]
end Go.Proofs.YtmkkecnafjhdmaaGreat
