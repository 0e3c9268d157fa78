/-
  Texts joined: EdB RiF VqF VqJ RiG EdA VqK EdI RjC EdC RjD EdE RjE SwR SwG SwY RgL RjF SwV RjG.
-/
import Derived.Test.YtginjhihkleaoaaGreatEg
import Derived.Test.YtginjhihkleaoaaGreatPc
set_option linter.unusedSimpArgs false
set_option linter.unusedVariables false
set_option maxHeartbeats 64000000
set_option maxRecDepth 100000
namespace Go.Ax
open Go
theorem zNQ {α:Type}{T:List AV→α→Prop}{st:Nat}{a:AV}{l:List α}(h:Sl st T a l){i j:Nat}(hi:i≤j)(hj:j≤l.length):∃ a',(∀ M,slcO M st a (some (.sc (.int .i64 i))) (some (.sc (.int .i64 j))) none=some (a',M))∧Sl st T a' ((l.drop i).take (j - i)):=by
 rcases h with⟨rfl,rfl⟩ | ⟨rows,cap,rfl,hA,hr⟩
 ·obtain rfl:j=0:=by simpa using hj
  obtain rfl:i=0:=by omega
  exact⟨_,fun M=>rfl,.inl ⟨rfl,by simp⟩⟩
 ·have hl:=hA.length_eq
  have hdl:(rows.drop i).length=rows.length - i:=List.length_drop
  refine⟨.pv ((rows.drop i).take (j - i)).flatten (j - i) (capSub cap i) st,fun M=>?_,.inr ⟨(rows.drop i).take (j - i),capSub cap i,by rw[List.length_take,hdl,Nat.min_eq_left (by omega)],all2_take _ (all2_drop i hA),fun r hq=>hr r (List.mem_of_mem_drop (List.mem_of_mem_take hq))⟩⟩
  have hs:slot rows.flatten (i*st) ((j - i)*st)=((rows.drop i).take (j - i)).flatten:=by
   rw[slot,flat_drop i hr,flat_take2 (j - i) (fun r hq=>hr r (List.mem_of_mem_drop hq))]
  unfold slcO
  simp only[Nat.beq_refl,bnd_int _ _ _ _ (show j≤rows.length by omega),bnd_int _ _ _ _ hi,hs]
end Go.Ax
namespace Go.Proofs.YtginjhihkleaoaaGreat
open Go Go.Ax
variable {fuel : Nat} {M : Mem} {Q : AV → Mem → Prop} {d : Nat} {l : List Op} {a : AV} {v : Lb}
def vspE (l:List Op)(v:Lb)(k m:Int):Int:=if zBY l v=0 then (if k<0∨((zAM l v).length:Int)<k∨m<1∨(zAM l v).length - k<m then 2 else 0) else zBY l v
def midC (l:List Op)(v:Lb)(k m:Int):List CellV:=((zAM l v).drop k.toNat).take m.toNat
def vspK (l:List Op)(v:Lb)(k m:Int)(r:AV):Prop:=∃ r1,r = .tup [r1,I64 (vspE l v k m)]∧Sl 5 zGC r1 (if vspE l v k m=0 then spansOf ((midC l v k m).map (·.id)) else [])
theorem zJM {k m:Int}(hS:Sl 17 isOp a l)(hl:l.length≤200)(hf:3200000<fuel)(hd:∀ o∈l,o.rs.length≤1000000000):∃ r,vspK l v k m r ∧ ∀ M,zCN fuel (d+19) 43 [a,lbA v,I64 k,I64 m] M=some (r,M):=by
 obtain⟨rc,⟨r2,rfl,hr2⟩,hce⟩:=zG5 (fuel:=fuel) (d:=d) (v:=v) hS hl hf hd
 refine gc_ex tf43 rfl (fun M=>by simp only[icyL,fun M=>hS.icy M 12 (by omega),fz_icyA (zA8 v) (show 1<12 by omega),icy12]) ?_
 refine call_gc tf43 rfl (by simp only[icyL,fun M=>hS.icy M 12 (by omega),fz_icyA (zA8 v) (show 1<12 by omega),icy12]) (by simp [a43]) fun b' ht hx=>?_
 obtain⟨h0,h1,h2⟩:=hx3 hx
 have h3:=hx 3 _ rfl
 clear hx
 simp only[a43,c43] at ht ⊢
 unfold vspK vspE
 by_cases q1:zBY l v=0
 ·have q1':=decide_eq_true q1
  rw[q1] at hr2 hce
  simp only[if_true] at hr2
  have hvl:=zDV (zIH q1).1 v
  have lr2:=hr2.len
  simp only[q1,if_true]
  by_cases q2:k<0
  ·have q2':=decide_eq_true q2
   simp only[q2,true_or,if_true]
   simp (maxSteps:=2000000) (disch:=try exact SX) only[RV,reduceIte,Nat.reduceEqDiff,Int.reduceEq,h0,h1,h2,hce,q2']
   exact zB04
  have q2':=decide_eq_false q2
  by_cases q3:((zAM l v).length:Int)<k
  ·have q3':=decide_eq_true q3
   simp only[q3,true_or,or_true,if_true]
   simp (maxSteps:=2000000) (disch:=try exact SX) only[RV,reduceIte,Nat.reduceEqDiff,Int.reduceEq,h0,h1,h2,hce,q2',q3',lr2]
   exact zB04
  have q3':=decide_eq_false q3
  by_cases q4:m<1
  ·have q4':=decide_eq_true q4
   simp only[q4,true_or,or_true,if_true]
   simp (maxSteps:=2000000) (disch:=try exact SX) only[RV,reduceIte,Nat.reduceEqDiff,Int.reduceEq,h0,h1,h2,h3,hce,q2',q3',q4',lr2]
   exact zB04
  have q4':=decide_eq_false q4
  obtain⟨k,rfl⟩:∃ n:Nat,k=n:=⟨k.toNat,by omega⟩
  have w0:IntKind.i64.wrap (((zAM l v).length:Int) - k)=(zAM l v).length - k:=WI
  by_cases q5:((zAM l v).length:Int) - k<m
  ·have q5':=decide_eq_true q5
   simp only[q5,or_true,if_true]
   simp (maxSteps:=2000000) (disch:=try exact SX) only[RV,reduceIte,Nat.reduceEqDiff,Int.reduceEq,h0,h1,h2,h3,hce,q2',q3',q4',q5',w0,lr2]
   exact zB04
  have q5':=decide_eq_false q5
  obtain⟨m,rfl⟩:∃ n:Nat,m=n:=⟨m.toNat,by omega⟩
  have q6:¬((k:Int)<0∨((zAM l v).length:Int)<k∨(m:Int)<1∨(zAM l v).length - (k:Int)<m):=by omega
  simp only[q6,if_false,if_true]
  unfold midC
  simp only[Int.toNat_natCast]
  have w1:IntKind.i64.wrap ((k:Int)+m)=((k+m:Nat):Int):=WI
  obtain⟨sa,hsa,hsl⟩:=zNQ hr2 (i:=k) (j:=k+m) (by omega) (by omega)
  rw[Nat.add_sub_cancel_left] at hsl
  have hcm:∀ c∈((zAM l v).drop k).take m,c.id.may=true:=fun c hc=>by
   obtain⟨x,x1,x2,_⟩:=zLK (List.mem_of_mem_drop (List.mem_of_mem_take hc))
   rw[← x2]
   exact(zK3 (zIH q1).1 x x1).2.2
  have hlm:(((zAM l v).drop k).take m).length=m:=by rw[List.length_take,List.length_drop];omega
  generalize ((zAM l v).drop k).take m=cs at *
  have lsa:=hsl.len
  simp (maxSteps:=2000000) (disch:=try exact SX) only[RV,reduceIte,Nat.reduceEqDiff,h0,h1,h2,h3,hce,hr2.fz.rows,q2',q3',q4',q5',w0,w1,lr2,hsa,lsa]
  refine w_loop (I:=fun nq tq Nq => ∃ (iq:Nat) (o:AV),nq=cs.length - iq∧iq≤cs.length∧nth undefA tq 8=o∧nth undefA tq 51=sa∧nth undefA tq 52=I64 cs.length∧nth undefA tq 53=I64 iq∧Wf Nq∧Nq.wm=0∧SlM Nq 5 zGC o (spansOf ((cs.take iq).map (·.id)))) (n:=cs.length) (by omega) ?_ ?_
  ·refine⟨0,NIL,rfl,Nat.zero_le _, ?_, ?_, ?_, ?_,Wf.mem0.add _,rfl,SlM.nil⟩ <;> simp (maxSteps:=2000000) (disch:=try exact SX) only[RV,reduceIte,Nat.reduceEqDiff]
   all_goals first | rfl | assumption | done
  ·rintro nq tq Nq hltq ⟨iq,o,rfl,hiq,gq8,gq51,gq52,gq53,w,wm,sm⟩
   simp only[ht] at hltq ⊢
   have ol:=sm.len
   have hsl2:=zER ((cs.take iq).map (·.id))
   rw[List.length_map,List.length_take] at hsl2
   by_cases hc:iq<cs.length
   ·have c1:decide ((iq:Int)<cs.length)=true:=DT
    have e1:IntKind.i64.wrap ((iq:Int)+1)=((iq+1:Nat):Int):=WI
    obtain⟨r,hiad,hr,hrl⟩:=hsl.iad iq hc
    have hts:spansOf ((cs.take (iq+1)).map (·.id))=addS (spansOf ((cs.take iq).map (·.id))) cs[iq].id:=by
     rw[take_snoc cs iq hc,List.map_append,List.map_cons,List.map_nil,zCC]
    generalize cs[iq]=c at *
    obtain⟨rfl,hok⟩:=hr
    have hspm:=(zDT (c:=(cs.take iq).map (·.id)) (fun x hx=>by
     obtain⟨y,hy,rfl⟩:=List.mem_map.1 hx
     exact hcm y (List.mem_of_mem_take hy))).2
    generalize spansOf ((cs.take iq).map (·.id))=sp at *
    have wX:∀ z r,Wf ((Nq.add z).upd Nq.size r):=fun z r=>(w.add z).upd _ _
    have gX:∀ z r j,j<Nq.size→((Nq.add z).upd Nq.size r).get j=Nq.get j:=fun z r j hj=>by
     exact zB0T
    rcases List.eq_nil_or_concat sp with e | ⟨o',s,e⟩
    ·subst e
     rw[zF8] at hts
     have w2:IntKind.i64.wrap (((0:Nat):Int) - 1) = -1:=by decide
     simp (maxSteps:=2000000) (disch:=try exact SX) only[RV,fillA,reduceIte,Nat.reduceEqDiff,Nat.reduceBEq,Nat.reduceAdd,Int.reduceLE,gq8,gq51,gq52,gq53,c1,hiad,ol,w2]
     refine⟨rows_lt sm.rl (by omega), ?_⟩
     refine app1 (bytes:=32) (x:=⟨c.id,1⟩) (wX _ _) (sm.keep fun j hj=>gX _ _ j (sm.lt j hj)) zDD ⟨rfl,hok,by show -9223372036854775808≤(1:Int)∧(1:Int)≤9223372036854775807;decide⟩ rfl (by omega) (by simp) (by simp) fun p2 M2 m2 wf2 le2 kp2 nw2 wm2 rl2 on2 oc2=>?_
     simp (maxSteps:=2000000) (disch:=try exact SX) only[RV,reduceIte,Nat.reduceEqDiff,gq8,gq51,gq52,gq53,wf2,e1]
     exact⟨hltq,cs.length - (iq+1),by omega,iq+1,p2,rfl,by omega,rfl,rfl,wm2.trans wm,by rw[hts];exact m2⟩
    ·rw[List.concat_eq_append] at e
     subst e
     rw[zDW] at hts
     have hsb:=Spn.may_le (hspm s (by simp))
     have hlen1:(o'++[s]).length=o'.length+1:=by simp
     have w2:IntKind.i64.wrap ((((o'++[s]).length:Nat):Int) - 1)=(o'.length:Int):=WI
     have c2:decide ((0:Int)≤(o'.length:Int))=true:=DT
     have w3:IntKind.i64.wrap (s.n+1)=s.n+1:=WI
     obtain⟨id,rw',r,hrow,lid,hg,hcs,hiad2,hr2',hrl2,hpt,hcell,hpart,hset⟩:=sm.atS (i:=o'.length) (by omega)
     have es:(o'++[s])[o'.length]'(by omega)=s:=by simp
     rw[es] at hr2'
     obtain⟨rfl,hsok⟩:=hr2'
     have hhas:=fun M=>zFH (fuel:=fuel) (d:=d+13) ⟨s.f,s.n+1⟩ c.id M
     have p4:rw'[o'.length*5+4]? = some (I64 s.n):=(hcell 4 (by decide)).trans rfl
     have p0:List.take 4 (List.drop (o'.length*5) rw')=idR s.f:=(take_at (k:=4) (r:=spR s) (fun o ho=>hcell o (by omega))).trans rfl
     have rlo:=rows_lt sm.rl (show Nq.size≤Nq.size+1+1 by omega)
     have wZ:∀ z r z' r',Wf ((((Nq.add z).upd Nq.size r).add z').upd (Nq.size+1) r'):=fun z r z' r'=>((wX z r).add z').upd _ _
     have gZ:∀ z r z' r' j,j<Nq.size→((((Nq.add z).upd Nq.size r).add z').upd (Nq.size+1) r').get j=Nq.get j:=fun z r z' r' j hj=>by
      exact zB0y
     have hone:(⟨c.id,1⟩:Spn).ok:=⟨hok,by show -9223372036854775808≤(1:Int)∧(1:Int)≤9223372036854775807;decide⟩
     by_cases hh:(⟨s.f,s.n+1⟩:Spn).has c.id=some s.n
     ·rw[if_pos hh] at hts
      simp only[hh,Option.getD_some,Option.isSome_some] at hhas
      simp (maxSteps:=2000000) (disch:=try exact SX) only[RV,fillA,reduceIte,Nat.reduceEqDiff,Nat.reduceBEq,Nat.reduceAdd,gq8,gq51,gq52,gq53,c1,e1,hiad,w,ol,w2,c2,hiad2,hg,p4,p0,w3,hhas]
      refine⟨hltq,cs.length - (iq+1),by omega,iq+1,o,rfl,by omega,rfl,rfl,wm, ?_⟩
      have key:=hset (spR ⟨s.f,s.n+1⟩) ⟨s.f,s.n+1⟩ ⟨rfl,hsok.1,by show -9223372036854775808≤s.n+1∧s.n+1≤9223372036854775807;omega⟩ rfl _ (get_upd_eq (wZ (.row false (zCD ⟨Eid.z,0⟩)) (.row false (zCD c)) (.row false (spR ⟨Eid.z,0⟩)) (.row false (spR ⟨s.f,s.n+1⟩))) (.row false (lay rw' (o'.length*5) (spR ⟨s.f,s.n+1⟩))) id (by simp only[upd_size,add_size];omega))
      have es2:(o'++[s]).set o'.length ⟨s.f,s.n+1⟩=o'++[⟨s.f,s.n+1⟩]:=by simp
      rw[es2,← hts] at key
      exact key
     ·rw[if_neg hh] at hts
      cases hsm:((⟨s.f,s.n+1⟩:Spn).has c.id).isSome with
      | false =>
       simp only[hsm] at hhas
       simp (maxSteps:=2000000) (disch:=try exact SX) only[RV,fillA,reduceIte,Nat.reduceEqDiff,Nat.reduceBEq,Nat.reduceAdd,gq8,gq51,gq52,gq53,c1,hiad,ol,w2,c2,hiad2,hg,p4,p0,w3,hhas]
       exact zB07
      | true =>
       have hne:decide ((((⟨s.f,s.n+1⟩:Spn).has c.id).getD 0)=s.n)=false:=decide_eq_false fun e=>hh (by
        obtain⟨x,hx⟩:=Option.isSome_iff_exists.1 hsm
        rw[hx] at e ⊢
        exact congrArg some e)
       simp only[hsm] at hhas
       simp (maxSteps:=2000000) (disch:=try exact SX) only[RV,fillA,reduceIte,Nat.reduceEqDiff,Nat.reduceBEq,Nat.reduceAdd,gq8,gq51,gq52,gq53,c1,hiad,ol,w2,c2,hiad2,hg,p4,p0,w3,hhas,hne]
       exact zB07
   ·obtain rfl:iq=cs.length:=by omega
    have c1:decide ((cs.length:Int)<cs.length)=false:=DF
    rw[List.take_length] at sm
    obtain⟨ro,hz,hs⟩:=sm.frz zDD.cel (k:=12) (by omega)
    simp (maxSteps:=2000000) (disch:=try exact SX) only[RV,reduceIte,Nat.reduceEqDiff,gq8,gq52,gq53,hz]
    exact zB0W
 ·have q1':=decide_eq_false q1
  rw[if_neg q1] at hr2
  simp only[q1,if_false]
  simp (maxSteps:=2000000) (disch:=try exact SX) only[RV,reduceIte,Nat.reduceEqDiff,h0,h1,hce,q1']
  exact zB04
variable {x : Eid}
theorem zLP {o:List Spn}{s:Spn}{x:Eid}(hs:s.may=true)(hx:x.may=true):addS (o++[s]) x=if s.n<64∧x=⟨s.f.hd,s.f.c+s.n⟩ then o++[⟨s.f,s.n+1⟩] else o++[s]++[⟨x,1⟩]:=by
 rw[zDW]
 have hb:=Spn.may_le hs
 have hxc:=(Eid.may_iff.1 hx).2
 have e:(⟨s.f,s.n+1⟩:Spn).has x=some s.n↔s.n<64∧x=⟨s.f.hd,s.f.c+s.n⟩:=by
  unfold Spn.has
  constructor
  ·intro h
   split at h
   ·rename_i hc
    obtain⟨h1,h2,h3,h4⟩:=hc
    have hm:=Spn.may_le h1
    have h5:x.c - s.f.c=s.n:=Option.some.inj h
    refine⟨by have:s.n+1≤64:=hm.2.2.2.1;omega, ?_⟩
    obtain⟨xh,xc⟩:=x
    have h2:xh=s.f.hd:=h2
    have h5:xc - s.f.c=s.n:=h5
    rw[h2,show xc=s.f.c+s.n by omega]
   ·cases h
  ·rintro⟨h1,rfl⟩
   have hm:(⟨s.f,s.n+1⟩:Spn).may=true:=by
    rw[Spn.may_iff] at hs ⊢
    refine⟨hs.1,by show 1≤s.n+1;omega,by show s.n+1≤64;omega,by have:s.f.c+s.n≤1099511627776:=hxc.2;show s.f.c+(s.n+1)≤_;omega⟩
   rw[if_pos ⟨hm,rfl,by show s.f.c≤s.f.c+s.n;omega,by show s.f.c+s.n<s.f.c+(s.n+1);omega⟩]
   show some (s.f.c+s.n - s.f.c)=some s.n
   congr 1
   omega
 by_cases h:(⟨s.f,s.n+1⟩:Spn).has x=some s.n
 ·rw[if_pos h,if_pos (e.1 h)]
 ·rw[if_neg h,if_neg (fun k=>h (e.2 k))]
theorem zMH {cs r:List AV}{p st o:Nat}{y:AV}(hsl:List.take st (List.drop p cs)=r)(hle:p+st≤cs.length)(ho:o<st):cs.take (p+o)++[y]++cs.drop (p+o+1)=lay cs p (r.set o y):=by
 have hrl:r.length=st:=by rw[← hsl,List.length_take,List.length_drop];omega
 have h1:cs=cs.take p++(r++cs.drop (p+st)):=by
  rw[← hsl,← List.drop_drop,List.take_append_drop,List.take_append_drop]
 have hA:(cs.take p).length=p:=by rw[List.length_take];omega
 unfold lay
 rw[List.length_set,hrl]
 have hd:cs.drop (p+o+1)=r.drop (o+1)++cs.drop (p+st):=by
  conv=>lhs;rw[h1]
  rw[List.drop_append,hA,List.drop_eq_nil_of_le (by omega),List.nil_append,show p+o+1 - p=o+1 by omega,List.drop_append_of_le_length (by omega)]
 have ht:cs.take (p+o)=cs.take p++r.take o:=by
  conv=>lhs;rw[h1]
  rw[List.take_append,hA,List.take_of_length_le (by omega),show p+o - p=o by omega,List.take_append_of_le_length (by omega)]
 rw[hd,ht,List.set_eq_take_append_cons_drop,if_pos (by omega)]
 simp
theorem zGP {cs:List CellV}(hC:Sl 5 zBB a cs)(hm:∀ c∈cs,c.id.may=true)(hl:cs.length≤100000)(hf:cs.length+100<fuel):∃ r,Sl 5 zGC r (spansOf (cs.map (·.id))) ∧ ∀ M,zCN fuel (d+1) 45 [a] M=some (r,M):=by
 have lc:=hC.len
 refine gc_ex tf45 rfl (fun M=>by simp only[icyL,fun M=>hC.icy M 12 (by omega)]) ?_
 refine call_gc tf45 rfl (by simp only[icyL,fun M=>hC.icy M 12 (by omega)]) (by simp [a45]) fun b' ht hx=>?_
 have h0:=hx 0 _ rfl
 clear hx
 simp only[a45,c45] at ht ⊢
 simp (disch:=try exact SX) only[RV]
 refine w_loop (I:=fun nq tq Nq => ∃ (iq:Nat) (o:AV),nq=cs.length - iq∧iq≤cs.length∧nth undefA tq 0=a∧nth undefA tq 3=o∧nth undefA tq 4=I64 iq∧Wf Nq∧SlM Nq 5 zGC o (spansOf ((cs.take iq).map (·.id)))) (n:=cs.length) (by omega) ?_ ?_
 ·exact zB0u
 ·rintro nq tq Nq hltq ⟨iq,o,rfl,hiq,gq0,gq3,gq4,w,sm⟩
  simp only[ht] at hltq ⊢
  have ol:=sm.len
  have hsl2:=zER ((cs.take iq).map (·.id))
  rw[List.length_map,List.length_take] at hsl2
  by_cases hc:iq<cs.length
  ·have c1:decide ((iq:Int)<cs.length)=true:=DT
   have e1:IntKind.i64.wrap ((iq:Int)+1)=((iq+1:Nat):Int):=WI
   obtain⟨r,hiad,hr,hrl⟩:=hC.iad iq hc
   have hts:spansOf ((cs.take (iq+1)).map (·.id))=addS (spansOf ((cs.take iq).map (·.id))) cs[iq].id:=by
    rw[take_snoc cs iq hc,List.map_append,List.map_cons,List.map_nil,zCC]
   have hcx:=hm cs[iq] (List.getElem_mem hc)
   generalize cs[iq]=c at *
   obtain⟨rfl,hok⟩:=hr
   have hspm:=(zDT (c:=(cs.take iq).map (·.id)) (fun x hx=>by
    obtain⟨y,hy,rfl⟩:=List.mem_map.1 hx
    exact hm y (List.mem_of_mem_take hy))).2
   generalize spansOf ((cs.take iq).map (·.id))=sp at *
   rcases List.eq_nil_or_concat sp with e | ⟨o',s,e⟩
   ·subst e
    rw[zF8] at hts
    have c2:decide ((0:Int)<((0:Nat):Int))=false:=by decide
    simp (disch:=try exact SX) only[RV,seval,fillA,gq0,gq3,gq4,lc,c1,hiad,ol,c2]
    refine⟨rows_lt sm.rl (by omega), ?_⟩
    refine app1 (bytes:=32) (x:=⟨c.id,1⟩) w sm zDD ⟨rfl,(show (⟨c.id,1⟩:Spn).ok from⟨hok,by show -9223372036854775808≤(1:Int)∧(1:Int)≤9223372036854775807;decide⟩)⟩ rfl (by omega) (by omega) (by omega) fun p2 M2 m2 wf2 le2 kp2 nw2 wm2 rl2 on2 oc2=>?_
    simp (disch:=try exact SX) only[RV,seval,gq0,gq3,gq4,wf2,e1]
    exact⟨hltq,cs.length - (iq+1),by omega,iq+1,p2,rfl,by omega,rfl,rfl,by rw[hts];exact m2⟩
   ·rw[List.concat_eq_append] at e
    subst e
    rw[zLP (hspm s (by simp)) hcx] at hts
    have hsb:=Spn.may_le (hspm s (by simp))
    have hlen1:(o'++[s]).length=o'.length+1:=by simp
    have w2:IntKind.i64.wrap (((o'++[s]).length:Int) - 1)=(o'.length:Int):=WI
    have c2:decide ((0:Int)<((o'++[s]).length:Int))=true:=DT
    have w3:IntKind.i64.wrap (s.n+1)=s.n+1:=WI
    have w4:IntKind.i64.wrap (s.f.c+s.n)=s.f.c+s.n:=WI
    obtain⟨id,rw',r,hrow,lid,hg,hcs,hiad2,hr2',hrl2,hpt,hcell,hpart,hset⟩:=sm.atS (i:=o'.length) (by omega)
    have es:(o'++[s])[o'.length]'(by omega)=s:=by simp
    rw[es] at hr2'
    obtain⟨rfl,hsok⟩:=hr2'
    have p4:rw'[o'.length*5+4]? = some (I64 s.n):=(hcell 4 (by decide)).trans rfl
    have p3:rw'[o'.length*5+3]? = some (I64 s.f.c):=(hcell 3 (by decide)).trans rfl
    have p0:List.take 3 (List.drop (o'.length*5) rw')=hdR s.f.hd:=(take_at (k:=3) (r:=spR s) (fun o ho=>hcell o (by omega))).trans rfl
    have rlo:=rows_lt sm.rl (Nat.le_refl Nq.size)
    have hone:(⟨c.id,1⟩:Spn).ok:=⟨hok,by show -9223372036854775808≤(1:Int)∧(1:Int)≤9223372036854775807;decide⟩
    by_cases h1:s.n<64
    ·have h1':=decide_eq_true h1
     cases h2:decide (c.id=⟨s.f.hd,s.f.c+s.n⟩) with
     | true =>
      rw[if_pos ⟨h1,of_decide_eq_true h2⟩] at hts
      simp (disch:=try exact SX) only[RV,seval,fillA,gq0,gq3,gq4,lc,c1,hiad,w,ol,c2,w2,hiad2,hg,p4,p3,p0,h1',h2,w4,↓pIdE,zA0,ETA,w3,e1]
      have key:=hset (spR ⟨s.f,s.n+1⟩) ⟨s.f,s.n+1⟩ ⟨rfl,hsok.1,by show -9223372036854775808≤s.n+1∧s.n+1≤9223372036854775807;omega⟩ rfl (Nq.upd id (.row false (lay rw' (o'.length*5) (spR ⟨s.f,s.n+1⟩)))) (get_upd_eq w _ _ lid)
      have es2:(o'++[s]).set o'.length ⟨s.f,s.n+1⟩=o'++[⟨s.f,s.n+1⟩]:=by simp
      rw[es2,← hts] at key
      have el:=zMH (y:=I64 (s.n+1)) (o:=4) (take_at (k:=5) (r:=spR s) (fun o ho=>hcell o ho)) (by omega) (by decide)
      refine⟨hltq,cs.length - (iq+1),by omega,iq+1,o,rfl,by omega,rfl,rfl, ?_⟩
      rw[el]
      exact key
     | false =>
      rw[if_neg (fun h=>absurd h.2 (of_decide_eq_false h2))] at hts
      simp (disch:=try exact SX) only[RV,seval,fillA,gq0,gq3,gq4,lc,c1,hiad,ol,c2,w2,hiad2,hg,p4,p3,p0,h1',h2,w4,↓pIdE,zA0,ETA]
      exact zB0b
    ·have h1':=decide_eq_false h1
     rw[if_neg (fun h=>h1 h.1)] at hts
     simp (disch:=try exact SX) only[RV,seval,fillA,gq0,gq3,gq4,lc,c1,hiad,ol,c2,w2,hiad2,hg,p4,h1']
     exact zB0b
  ·obtain rfl:iq=cs.length:=by omega
   have c1:decide ((cs.length:Int)<cs.length)=false:=DF
   rw[List.take_length] at sm
   obtain⟨r,hz,hsr⟩:=sm.frz zDD.cel (k:=12) (by omega)
   simp (disch:=try exact SX) only[RV,seval,gq0,gq3,gq4,lc,hz]
   exact⟨r,hsr,rfl⟩
def topC (cs:List CellV)(v:Lb):Int:=cs.foldl (fun m c=>if c.id.hd.lb.leq v=true then imax m c.id.c else m) 0
theorem zD2 (cs:List CellV)(v:Lb)(c:CellV):topC (cs++[c]) v=if c.id.hd.lb.leq v=true then imax (topC cs v) c.id.c else topC cs v:=by simp [topC]
theorem zET {cs:List CellV}{v:Lb}:0≤topC cs v ∧ ∀ c∈cs,c.id.hd.lb.leq v=true→c.id.c≤topC cs v:=by
 refine zAR (P:=fun cs=>0≤topC cs v ∧ ∀ c∈cs,c.id.hd.lb.leq v=true→c.id.c≤topC cs v) ⟨Int.le_refl 0,fun c h=>absurd h (by simp)⟩ (fun cs x ih=>?_) cs
 rw[zD2]
 unfold imax
 refine⟨?_,fun c hc hq=>?_⟩
 ·split
  ·split <;> omega
  ·exact ih.1
 ·rcases List.mem_append.1 hc with hc | hc
  ·have:=ih.2 c hc hq
   split
   ·split <;> omega
   ·exact this
  ·rw[List.mem_singleton] at hc
   subst hc
   rw[if_pos hq]
   split <;> omega
def topH (l:List Op)(h:Hd):Int:=topC (zAF (elsR (textOf l))) h.lb
def zD9 (l:List Op)(h:Hd):Int:=if zA1 [] l=true then (if h.may=true then (if 1099511627776≤topH l h then 9 else 0) else 8) else 8
def zCM (l:List Op)(h:Hd):Int:=if zD9 l h=0 then topH l h+1 else 0
theorem zOX (x:Hd):∀ y∈hdR x,Fz y:=fun y hy=>by
 exact zB0N
theorem zLL {h:Hd}(hS:Sl 17 isOp a l)(hl:l.length≤200)(hf:3200000<fuel)(M:Mem):zCN fuel (d+19) 18 [a,hdA h] M=some (.tup [I64 (zCM l h),I64 (zD9 l h)],M):=by
 obtain⟨rt,⟨r3,rfl,hr3⟩,htx⟩:=zIQ (fuel:=fuel) (d:=d+3) hS (by omega) (by omega)
 have hch:=fun M=>@zBT fuel (d+16) h M
 apply w3_eq
 refine call_gc tf18 rfl (by simp only[icyL,fun M=>hS.icy M 12 (by omega),fz_icyA (zOX h) (show 1<12 by omega)]) (by simp [a18]) fun b' ht hx=>?_
 obtain⟨h0,h1⟩:=hx2 hx
 clear hx
 simp only[a18,c18] at ht ⊢
 unfold zCM zD9
 cases q1:zA1 [] l with
 | false =>
  rw[q1] at htx
  simp (disch:=try exact SX) only[RV,reduceIte,Nat.reduceEqDiff,Int.reduceEq,h0,h1,htx,zAC]
  rfl
 | true =>
  rw[q1] at htx hr3
  simp only[if_true] at hr3
  have hT:=zAI q1
  have htl:=zDU l
  have hel:=zDM hT.ok.1
  cases q2:h.may with
  | false =>
   rw[q2] at hch
   simp (disch:=try exact SX) only[RV,reduceIte,Nat.reduceEqDiff,Int.reduceEq,h0,h1,htx,hch,zA4,zAC]
   rfl
  | true =>
   rw[q2] at hch
   obtain⟨r4,hr4,hal⟩:=zJT (fuel:=fuel) (d:=d+10) hr3 hT.ok.1 (by omega) (by omega)
   have lr4:=hr4.len
   have hcl:=zBO (elsR (textOf l))
   unfold topH
   generalize zAF (elsR (textOf l))=cs at *
   simp (disch:=try exact SX) only[RV,reduceIte,Nat.reduceEqDiff,h0,h1,htx,hch,hal,zA4,lr4]
   refine w_loop (I:=fun n t N => ∃ (i:Nat),n=cs.length - i∧i≤cs.length∧nth undefA t 3 = .ptr 0 0∧nth undefA t 9=I64 (topC (cs.take i) h.lb)∧nth undefA t 26=r4∧nth undefA t 27=I64 cs.length∧nth undefA t 28=I64 i∧Wf N∧1≤N.size∧N.get 0=some (.row false (hdR h))) (n:=cs.length) (by omega) ?_ ?_
   ·refine⟨0,rfl,Nat.zero_le _, ?_, ?_, ?_, ?_, ?_,Wf.mem0.add _,Nat.le_refl 1,by simp (disch:=try exact SX) only[RV]⟩ <;> simp (disch:=try exact SX) only[RV,reduceIte,Nat.reduceEqDiff]
    all_goals first | rfl | assumption | done
   ·rintro n t N hlt ⟨i,rfl,hi,g3,g9,g26,g27,g28,w,le,m0⟩
    simp only[ht] at hlt ⊢
    have l0:0<N.size:=by omega
    by_cases hc:i<cs.length
    ·have q3:decide ((i:Int)<cs.length)=true:=DT
     have w1:IntKind.i64.wrap ((i:Int)+1)=((i+1:Nat):Int):=WI
     obtain⟨r,hiad,hr,hrl⟩:=hr4.iad i hc
     have hts:=zD2 (cs.take i) h.lb cs[i]
     rw[← take_snoc cs i hc] at hts
     generalize cs[i]=c at *
     obtain⟨rfl,hok⟩:=hr
     have hle:=fun M=>zCK (fuel:=fuel) (d:=d+17) c.id.hd.lb h.lb M
     have gY:∀ z r,((N.add z).upd N.size r).get 0=some (.row false (hdR h)):=fun z r=>by
      rw[get_upd_ne (w.add _) _ _ _ (by omega),get_add w _ _ l0];exact m0
     cases q4:c.id.hd.lb.leq h.lb with
     | true =>
      rw[q4,if_pos rfl] at hts
      simp only[q4] at hle
      simp (disch:=try exact SX) only[RV,reduceIte,Nat.reduceEqDiff,Nat.reduceAdd,Nat.reduceLeDiff,g3,g9,g26,g27,g28,q3,hiad,w,m0,hle,w1,pB_max2,BMM]
      exact⟨hlt,cs.length - (i+1),by omega,i+1,rfl,by omega,by rw[hts],rfl⟩
     | false =>
      rw[q4,if_neg (by decide)] at hts
      simp only[q4] at hle
      simp (disch:=try exact SX) only[RV,reduceIte,Nat.reduceEqDiff,Nat.reduceAdd,Nat.reduceLeDiff,g3,g9,g26,g27,g28,q3,hiad,w,m0,hle,w1]
      exact⟨hlt,cs.length - (i+1),by omega,i+1,rfl,by omega,by rw[hts],rfl⟩
    ·obtain rfl:i=cs.length:=by omega
     have q3:decide ((cs.length:Int)<cs.length)=false:=DF
     rw[List.take_length] at g9
     have htp:=(zET (cs:=cs) (v:=h.lb)).1
     by_cases q5:1099511627776≤topC cs h.lb
     ·have q5':=decide_eq_true q5
      rw[if_pos q5]
      simp (disch:=try exact SX) only[RV,reduceIte,Nat.reduceEqDiff,Int.reduceEq,g9,g27,g28,q5']
     ·have q5':=decide_eq_false q5
      have w2:IntKind.i64.wrap (topC cs h.lb+1)=topC cs h.lb+1:=WI
      rw[if_neg q5]
      simp (disch:=try exact SX) only[RV,reduceIte,Nat.reduceEqDiff,g9,g27,g28,q5',w2]
theorem zHO {cs:List CellV}{v:Lb}:topC cs v=0 ∨ ∃ c∈cs,c.id.hd.lb.leq v=true∧c.id.c=topC cs v:=by
 refine zAR (P:=fun cs=>topC cs v=0 ∨ ∃ c∈cs,c.id.hd.lb.leq v=true∧c.id.c=topC cs v) (.inl rfl) (fun cs x ih=>?_) cs
 rw[zD2]
 have ih':∀ t,t=topC cs v→t=0 ∨ ∃ c∈cs++[x],c.id.hd.lb.leq v=true∧c.id.c=t:=fun t ht=>by
  subst ht
  rcases ih with h | ⟨c,h1,h2,h3⟩
  ·exact .inl h
  ·exact .inr ⟨c,List.mem_append_left _ h1,h2,h3⟩
 unfold imax
 by_cases hq:x.id.hd.lb.leq v=true
 ·rw[if_pos hq]
  split
  ·exact .inr ⟨x,by simp,hq,rfl⟩
  ·exact ih' _ rfl
 ·rw[if_neg hq];exact ih' _ rfl
theorem zN2 {cs cs':List CellV}{v:Lb}(h:∀ c,c∈cs↔c∈cs'):topC cs v=topC cs' v:=by
 have a1:=zET (cs:=cs) (v:=v)
 have a2:=zET (cs:=cs') (v:=v)
 have b1:topC cs v≤topC cs' v:=by
  rcases zHO (cs:=cs) (v:=v) with e | ⟨c,h1,h2,h3⟩
  ·rw[e];exact a2.1
  ·rw[← h3];exact a2.2 c ((h c).1 h1) h2
 have b2:topC cs' v≤topC cs v:=by
  rcases zHO (cs:=cs') (v:=v) with e | ⟨c,h1,h2,h3⟩
  ·rw[e];exact a1.1
  ·rw[← h3];exact a1.2 c ((h c).2 h1) h2
 omega
theorem zN3 {l:List Op}(h:zA1 [] l=true)(v:Lb):topC (zAF (zB4 l)) v=topC (zAF (elsR (textOf l))) v:=by
 refine zN2 fun c=>?_
 unfold zAF
 rw[List.mem_map,List.mem_map]
 constructor
 ·rintro⟨x,hx,rfl⟩;exact⟨x,(zDS h x).1 hx,rfl⟩
 ·rintro⟨x,hx,rfl⟩;exact⟨x,(zDS h x).2 hx,rfl⟩
theorem zJF (hS:Sl 17 isOp a l)(hh:zA1 [] l=true)(hv:v.ok)(hl:l.length≤200)(hf:100000<fuel)(M:Mem):zCN fuel (d+5) 42 [a,lbA v] M=some (I64 (topC (zAF (elsR (textOf l))) v),M):=by
 have hrn:=zE5 hh
 obtain⟨ro,hro,hon⟩:=zCO (fuel:=fuel) (d:=d) hS hrn (by omega) (by omega)
 have hom:=zDR hrn
 have lro:=hro.len
 rw[← zN3 hh]
 generalize zB4 l=E at *
 apply w3_eq
 refine call_gc tf42 rfl (by simp only[icyL,fun M=>hS.icy M 12 (by omega),fz_icyA (zA8 v) (show 1<12 by omega)]) (by simp [a42]) fun b' ht hx=>?_
 obtain⟨h0,h1⟩:=hx2 hx
 clear hx
 simp only[a42,c42] at ht ⊢
 simp (disch:=try exact SX) only[RV,seval,h0,h1,hon]
 refine w_loop (I:=fun nq tq Nq => ∃ (iq:Nat),nq=E.length - iq∧iq≤E.length∧nth undefA tq 0=a∧nth undefA tq 3 = .ptr 0 0∧nth undefA tq 5=I64 (topC (zAF (E.take iq)) v)∧nth undefA tq 6=ro∧nth undefA tq 7=I64 iq∧Wf Nq∧Nq.get 0=some (.row false (lbR v))) (n:=E.length) (by omega) ?_ ?_
 ·exact zB0i
 ·rintro nq tq Nq hltq ⟨iq,rfl,hiq,gq0,gq3,gq5,gq6,gq7,w,g⟩
  simp only[ht] at hltq ⊢
  have l0:=Mem.get_lt g
  by_cases hc:iq<E.length
  ·have c1:decide ((iq:Int)<E.length)=true:=DT
   have w1:IntKind.i64.wrap ((iq:Int)+1)=((iq+1:Nat):Int):=WI
   obtain⟨r9,hiad,hr9,_⟩:=hro.iad iq hc
   have hsn:topC (zAF (E.take (iq+1))) v=if E[iq].id.hd.lb.leq v=true then imax (topC (zAF (E.take iq)) v) E[iq].id.c else topC (zAF (E.take iq)) v:=by
    rw[take_snoc E iq hc]
    unfold zAF
    rw[List.map_append,List.map_cons,List.map_nil,zD2]
   generalize E[iq]=x at *
   obtain⟨rfl,hok,_⟩:=hr9
   have hle:=fun M=>zB6 (fuel:=fuel) (d:=d+2) x.id.hd.lb v hok.1.1 hv (by omega) M
   generalize topC (zAF (E.take iq)) v=t at *
   cases q2:x.id.hd.lb.leq v with
   | false =>
    rw[q2] at hle hsn
    rw[if_neg (by decide)] at hsn
    simp (disch:=try exact SX) only[RV,seval,gq0,gq3,gq5,gq6,gq7,lro,c1,w1,hiad,g,hle]
    exact⟨hltq,E.length - (iq+1),by omega,iq+1,rfl,by omega,by rw[hsn],rfl,w⟩
   | true =>
    rw[q2] at hle hsn
    rw[if_pos rfl] at hsn
    unfold imax at hsn
    by_cases h3:t<x.id.c
    ·have h3':=decide_eq_true h3
     rw[if_pos h3] at hsn
     exact zB0q
    ·have h3':=decide_eq_false h3
     rw[if_neg h3] at hsn
     exact zB0q
  ·obtain rfl:iq=E.length:=by omega
   have c1:decide ((E.length:Int)<E.length)=false:=DF
   rw[List.take_length] at gq5
   simp (disch:=try exact SX) only[RV,seval,gq5,gq6,gq7,lro]
theorem zAG (x:Hd):∀ y∈hdR x,Fz y:=fun y hy=>by
 exact zB0N
def edE (l:List Op)(h:Hd)(s:Int):Int:=if zA1 [] l=true∧h.may=true then (if s<1∨16777152≤s then 2 else 0) else 8
theorem ed_z {h:Hd}{s:Int}(e:edE l h s=0):zA1 [] l=true∧h.may=true∧1≤s∧s<16777152:=by
 unfold edE at e
 split at e
 ·rename_i h1
  split at e
  ·cases e
  ·exact⟨h1.1,h1.2,by omega,by omega⟩
 ·cases e
theorem zD6 {h:Hd}{s:Int}(hS:Sl 17 isOp a l)(hl:l.length≤10000)(hf:l.length+400<fuel)(M:Mem):zCN fuel (d+15) 15 [a,hdA h,I64 s] M=some (I64 (edE l h s),M):=by
 have hck:=fun M=>zBH (fuel:=fuel) (d:=d) hS hl hf M
 have hch:=fun M=>@zBT fuel (d+12) h M
 apply w3_eq
 refine call_gc tf15 rfl (by simp only[icyL,fun M=>hS.icy M 12 (by omega),fz_icyA (zAG h) (show 1<12 by omega),icy12]) (by simp [a15]) fun b' ht hx=>?_
 obtain⟨h0,h1,h2⟩:=hx3 hx
 clear hx
 simp only[a15,c15] at ht ⊢
 unfold edE
 cases q1:zA1 [] l <;> cases q2:h.may <;> rw[q1] at hck <;> rw[q2] at hch
 ·simp (disch:=try exact SX) only[RV,reduceIte,Nat.reduceEqDiff,Nat.reduceBEq,Nat.reduceAdd,Int.reduceEq,h0,h1,hck,hch,zAC,pB_max2,BMM,IMX]
  rfl
 ·exact zB0x
 ·exact zB0x
 ·by_cases q3:s<1
  ·have q3':=decide_eq_true q3
   simp (disch:=try exact SX) only[RV,reduceIte,Nat.reduceEqDiff,Nat.reduceBEq,Nat.reduceAdd,h0,h1,h2,hck,hch,zA4,pB_max2,BMM,IMX,q3']
   rw[if_pos (Or.inl q3)]
  ·have q3':=decide_eq_false q3
   by_cases q4:16777152≤s
   ·have q4':=decide_eq_true q4
    simp (disch:=try exact SX) only[RV,reduceIte,Nat.reduceEqDiff,Nat.reduceBEq,Nat.reduceAdd,h0,h1,h2,hck,hch,zA4,pB_max2,BMM,IMX,q3',q4']
    rw[if_pos (Or.inr q4)]
   ·have q4':=decide_eq_false q4
    simp (disch:=try exact SX) only[RV,reduceIte,Nat.reduceEqDiff,Nat.reduceBEq,Nat.reduceAdd,h0,h1,h2,hck,hch,zA4,pB_max2,BMM,IMX,q3',q4']
    rw[if_neg (by omega)]
end Go.Proofs.YtginjhihkleaoaaGreat
namespace Go.Ax
open Go
variable {P : Program} {call : Tg → List AV → Mem → Option (AV × Mem)} {t : List AV} {M : Mem}
abbrev zOp6:Value:=.agg #[(.int .u8 0),(.int .u8 0),(.int .u32 0),(.int .u8 0),(.int .i64 0),(.int .u8 0),(.int .u32 0),(.int .u8 0),(.int .i64 0),(.int .i64 0),(.int .u8 0),(.int .u32 0),(.int .u8 0),(.int .i64 0),(.int .u8 0),(.int .u32 0),(.slice none 0 0)]
def bldO (P:Program)(call:Tg→List AV→Mem→Option (AV × Mem))(t:List AV)(M:Mem)(x0 x1 x2 x3 x4 x5:Operand)(a b c d e f:List AV):OR:=match a,b,c,d,e,f with
 | [a],[b1,b2,b3],[c],[d1,d2,d3,d4,d5],[e1,e2,e3,e4],[f]=>some (.agg [a,b1,b2,b3,c,d1,d2,d3,d4,d5,e1,e2,e3,e4,.sc (.int .u8 0),.sc (.int .u32 0),f],M)
 | _,_,_,_,_,_=>execOpA P call t M (.build zOp6 [(0,1,x0),(1,3,x1),(4,1,x2),(5,5,x3),(10,4,x4),(16,1,x5)])
theorem zOO (x0 x1 x2 x3 x4 x5:Operand):execOpA P call t M (.build (.agg #[(.int .u8 0),(.int .u8 0),(.int .u32 0),(.int .u8 0),(.int .i64 0),(.int .u8 0),(.int .u32 0),(.int .u8 0),(.int .i64 0),(.int .i64 0),(.int .u8 0),(.int .u32 0),(.int .u8 0),(.int .i64 0),(.int .u8 0),(.int .u32 0),(.slice none 0 0)]) [(0,1,x0),(1,3,x1),(4,1,x2),(5,5,x3),(10,4,x4),(16,1,x5)])=bldO P call t M x0 x1 x2 x3 x4 x5 (cellsA (evalA t x0)) (cellsA (evalA t x1)) (cellsA (evalA t x2)) (cellsA (evalA t x3)) (cellsA (evalA t x4)) (cellsA (evalA t x5)):=by
 unfold bldO
 split
 ·rename_i h0 h1 h2 h3 h4 h5
  rw[x_build]
  simp only[fillA,h0,h1,h2,h3,h4,h5]
  rfl
 ·rfl
theorem zNS (x0 x1 x2 x3 x4 x5:Operand)(a b1 b2 b3 c d1 d2 d3 d4 d5 e1 e2 e3 e4 f:AV):bldO P call t M x0 x1 x2 x3 x4 x5 [a] [b1,b2,b3] [c] [d1,d2,d3,d4,d5] [e1,e2,e3,e4] [f]=some (.agg [a,b1,b2,b3,c,d1,d2,d3,d4,d5,e1,e2,e3,e4,.sc (.int .u8 0),.sc (.int .u32 0),f],M):=rfl
end Go.Ax
namespace Go.Proofs.YtginjhihkleaoaaGreat
open Go Go.Ax
variable {fuel : Nat} {M : Mem} {Q : AV → Mem → Prop} {d : Nat} {l : List Op} {a : AV} {v : Lb}
def inE (l:List Op)(h:Hd)(s k:Int)(t:List UInt8):Int:=if edE l h s=0 then (if ofE t=0 then (if zEV l h.lb k=0 then (if (ofM t).length=0 then 2 else (if zD9 l h=0 then (if 1099511627776<zCM l h+(ofM t).length - 1 then 9 else 0) else zD9 l h)) else 2) else ofE t) else edE l h s
def opZ:Op:=⟨0,Hd.z,0,⟨Eid.z,0⟩,Eid.z,Lb.z,[]⟩
def inO (l:List Op)(h:Hd)(s k:Int)(t:List UInt8):Op:=if inE l h s k t=0 then zP0 h s (zCM l h) (zKN l h.lb k) (ofM t) else opZ
def inK (l:List Op)(h:Hd)(s k:Int)(t:List UInt8)(r:AV):Prop:=∃ ra,r = .tup [.agg (opR (inO l h s k t) ra),I64 (inE l h s k t)]∧Sl 1 zA3 ra (inO l h s k t).rs
theorem zB8 {h:Hd}{s k:Int}{t:List UInt8}{e:Int}(he:inE l h s k t=e)(hn:e≠0):inK l h s k t (.tup [.agg (opR opZ NIL),I64 e]):=by
 refine⟨NIL, ?_, ?_⟩
 ·unfold inO;rw[he,if_neg hn]
 ·unfold inO;rw[he,if_neg hn];exact .inl ⟨rfl,rfl⟩
theorem zNK {t:List UInt8}:ofE t=0∨ofE t=3∨ofE t=4:=by
 unfold ofE
 split
 ·exact .inr (.inl rfl)
 ·split
  ·exact .inr (.inr rfl)
  ·exact .inl rfl
theorem zMK (l:List Op)(h:Hd)(hn:zD9 l h=0):1≤zCM l h∧zCM l h≤1099511627776:=by
 have h0:=(zET (cs:=zAF (elsR (textOf l))) (v:=h.lb)).1
 have h0:0≤topH l h:=h0
 have hn':=hn
 unfold zD9 at hn
 unfold zCM
 rw[if_pos hn']
 split at hn
 ·split at hn
  ·split at hn
   ·cases hn
   ·omega
  ·cases hn
 ·cases hn
theorem zH5 {h:Hd}{s k:Int}{t:List UInt8}(hS:Sl 17 isOp a l)(ht1:t.length≤2000)(hl:l.length≤200)(hf:3200000<fuel)(hd:∀ o∈l,o.rs.length≤1000000000):∃ r,inK l h s k t r ∧ ∀ M,zCN fuel (d+21) 6 [a,hdA h,I64 s,I64 k,STR t] M=some (r,M):=by
 have hask:=fun M=>zD6 (fuel:=fuel) (d:=d+5) (h:=h) (s:=s) hS (by omega) (by omega) M
 obtain⟨ro,hro,hof⟩:=zHK (fuel:=fuel) (d:=d+17) t (by omega) (by omega)
 have hlf:=fun M=>zMI (fuel:=fuel) (d:=d+1) (v:=h.lb) (k:=k) hS hl (by omega) hd M
 have hnx:=fun M=>zLL (fuel:=fuel) (d:=d+1) (h:=h) hS hl (by omega) M
 have lro:=hro.len
 have oro:=hro.one
 refine gc_ex tf6 rfl (fun M=>by simp only[icyL,fun M=>hS.icy M 12 (by omega),fz_icyA (zAG h) (show 1<12 by omega),icy12]) ?_
 refine call_gc tf6 rfl (by simp only[icyL,fun M=>hS.icy M 12 (by omega),fz_icyA (zAG h) (show 1<12 by omega),icy12]) (by simp [a6]) fun b' ht hx=>?_
 obtain⟨h0,h1,h2⟩:=hx3 hx
 have h3:=hx 3 _ rfl
 have h4:=hx 4 _ rfl
 clear hx
 simp only[a6,c6] at ht ⊢
 by_cases q1:edE l h s=0
 ·have q1':=decide_eq_true q1
  rcases zNK (t:=t) with q2 | q2 | q2
  ·have hk:=zHB q2
   rw[q2] at hof
   by_cases q3:zEV l h.lb k=0
   ·have q3':=decide_eq_true q3
    rw[q3] at hlf
    by_cases q4:(ofM t).length=0
    ·have q4':decide (((ofM t).length:Int)=0)=true:=DT
     have he:inE l h s k t=2:=by unfold inE;rw[if_pos q1,if_pos q2,if_pos q3,if_pos q4]
     have:=zB8 he (by decide)
     simp (disch:=try exact SX) only[RV,seval,fillA,h0,h1,h2,h3,h4,hask,q1',hof,hlf,lro,q4']
     exact⟨_,this,rfl⟩
    ·have q4':decide (((ofM t).length:Int)=0)=false:=DF
     by_cases q5:zD9 l h=0
     ·have q5':=decide_eq_true q5
      have nb:=zMK l h q5
      rw[q5] at hnx
      have w1:IntKind.i64.wrap (zCM l h+((ofM t).length:Int))=zCM l h+(ofM t).length:=WI
      have w2:IntKind.i64.wrap (zCM l h+((ofM t).length:Int) - 1)=zCM l h+(ofM t).length - 1:=WI
      by_cases q6:1099511627776<zCM l h+(ofM t).length - 1
      ·have q6':=decide_eq_true q6
       have he:inE l h s k t=9:=by unfold inE;rw[if_pos q1,if_pos q2,if_pos q3,if_neg q4,if_pos q5,if_pos q6]
       have:=zB8 he (by decide)
       simp (disch:=try exact SX) only[RV,seval,h0,h1,h2,h3,h4,hask,q1',hof,hlf,lro,q4']
       simp (disch:=try exact SX) only[RV,seval,fillA,lro,hnx,w1,w2,q6']
       exact⟨_,this,rfl⟩
      ·have q6':=decide_eq_false q6
       have he:inE l h s k t=0:=by unfold inE;rw[if_pos q1,if_pos q2,if_pos q3,if_neg q4,if_pos q5,if_neg q6]
       unfold inK inO
       rw[he,if_pos rfl]
       simp (disch:=try exact SX) only[RV,seval,h0,h1,h2,h3,h4,hask,q1',hof,hlf,lro,q4']
       simp (disch:=try exact SX) only[RV,seval,fillA,h2,hro.fz.cells,hro.fz.frz,lro,hnx,w1,w2,q6',↓zOO,zNS]
       exact⟨_,⟨ro,rfl,hro⟩,rfl⟩
     ·have q5':=decide_eq_false q5
      have he:inE l h s k t=zD9 l h:=by unfold inE;rw[if_pos q1,if_pos q2,if_pos q3,if_neg q4,if_neg q5]
      have:=zB8 he q5
      simp (disch:=try exact SX) only[RV,seval,h0,h1,h2,h3,h4,hask,q1',hof,hlf,lro,q4']
      simp (disch:=try exact SX) only[RV,seval,fillA,hnx,q5']
      exact⟨_,this,rfl⟩
   ·have q3':=decide_eq_false q3
    have he:inE l h s k t=2:=by unfold inE;rw[if_pos q1,if_pos q2,if_neg q3]
    have:=zB8 he (by decide)
    simp (disch:=try exact SX) only[RV,seval,fillA,h0,h1,h2,h3,h4,hask,q1',hof,hlf,q3']
    exact⟨_,this,rfl⟩
  all_goals
   rw[q2] at hof
   have he:inE l h s k t=ofE t:=by unfold inE;rw[if_pos q1,if_neg (by rw[q2];decide)]
   rw[q2] at he
   have:=zB8 he (by decide)
   simp (disch:=try exact SX) only[RV,seval,fillA,h0,h1,h2,h4,hask,q1',hof]
   exact⟨_,this,rfl⟩
 ·have q1':=decide_eq_false q1
  have he:inE l h s k t=edE l h s:=by unfold inE;rw[if_neg q1]
  have:=zB8 he q1
  simp (disch:=try exact SX) only[RV,seval,fillA,h0,h1,h2,hask,q1']
  exact⟨_,this,rfl⟩
end Go.Proofs.YtginjhihkleaoaaGreat
namespace Go.Ax
open Go
variable {P : Program} {call : Tg → List AV → Mem → Option (AV × Mem)} {t : List AV} {M : Mem}
def bldI (P:Program)(call:Tg→List AV→Mem→Option (AV × Mem))(t:List AV)(M:Mem)(x0 x1 x2 x3 x4:Operand)(a b c d e:List AV):OR:=match a,b,c,d,e with
 | [a],[b1,b2,b3],[c],[d1,d2,d3,d4,d5],[e1]=>some (.agg [a,b1,b2,b3,c,d1,d2,d3,d4,d5,.sc (.int .u8 0),.sc (.int .u32 0),.sc (.int .u8 0),.sc (.int .i64 0),.sc (.int .u8 0),.sc (.int .u32 0),e1],M)
 | _,_,_,_,_=>execOpA P call t M (.build (.agg #[(.int .u8 0),(.int .u8 0),(.int .u32 0),(.int .u8 0),(.int .i64 0),(.int .u8 0),(.int .u32 0),(.int .u8 0),(.int .i64 0),(.int .i64 0),(.int .u8 0),(.int .u32 0),(.int .u8 0),(.int .i64 0),(.int .u8 0),(.int .u32 0),(.slice none 0 0)]) [(0,1,x0),(1,3,x1),(4,1,x2),(5,5,x3),(16,1,x4)])
theorem zJX (x0 x1 x2 x3 x4:Operand):execOpA P call t M (.build (.agg #[(.int .u8 0),(.int .u8 0),(.int .u32 0),(.int .u8 0),(.int .i64 0),(.int .u8 0),(.int .u32 0),(.int .u8 0),(.int .i64 0),(.int .i64 0),(.int .u8 0),(.int .u32 0),(.int .u8 0),(.int .i64 0),(.int .u8 0),(.int .u32 0),(.slice none 0 0)]) [(0,1,x0),(1,3,x1),(4,1,x2),(5,5,x3),(16,1,x4)])=bldI P call t M x0 x1 x2 x3 x4 (cellsA (evalA t x0)) (cellsA (evalA t x1)) (cellsA (evalA t x2)) (cellsA (evalA t x3)) (cellsA (evalA t x4)):=by
 unfold bldI
 split
 ·rename_i h0 h1 h2 h3 h4
  rw[x_build]
  simp only[fillA,h0,h1,h2,h3,h4]
  rfl
 ·rfl
theorem zHW (x0 x1 x2 x3 x4:Operand)(a b1 b2 b3 c d1 d2 d3 d4 d5 e1:AV):bldI P call t M x0 x1 x2 x3 x4 [a] [b1,b2,b3] [c] [d1,d2,d3,d4,d5] [e1]=some (.agg [a,b1,b2,b3,c,d1,d2,d3,d4,d5,.sc (.int .u8 0),.sc (.int .u32 0),.sc (.int .u8 0),.sc (.int .i64 0),.sc (.int .u8 0),.sc (.int .u32 0),e1],M):=rfl
end Go.Ax
namespace Go.Proofs.YtginjhihkleaoaaGreat
open Go Go.Ax
variable {fuel : Nat} {M : Mem} {Q : AV → Mem → Prop} {d : Nat} {l : List Op} {a : AV} {v : Lb}
theorem zC6 {h:Hd}{s:Int}(hS:Sl 17 isOp a l)(hl:l.length≤200)(hf:100000<fuel)(M:Mem):zCN fuel (d+8) 19 [a,hdA h,I64 s] M=some (I64 (edE l h s),M):=by
 have hck:=fun M=>zJE (fuel:=fuel) (d:=d) hS (by omega) (by omega) M
 have hch:=fun M=>@zDA fuel (d+5) h M
 apply w3_eq
 refine call_gc tf19 rfl (by simp only[icyL,fun M=>hS.icy M 12 (by omega),fz_icyA (zAG h) (show 1<12 by omega),icy12]) (by simp [a19]) fun b' ht hx=>?_
 obtain⟨h0,h1,h2⟩:=hx3 hx
 clear hx
 simp only[a19,c19] at ht ⊢
 unfold edE
 cases q1:zA1 [] l <;> cases q2:h.may <;> rw[q1] at hck <;> rw[q2] at hch
 ·exact zB0X
 ·exact zB0X
 ·simp (maxSteps:=2000000) (disch:=try exact SX) only[RV,reduceIte,Nat.reduceEqDiff,h0,h1,hck,hch]
  rfl
 ·by_cases q3:s<1
  ·have q3':=decide_eq_true q3
   simp (maxSteps:=2000000) (disch:=try exact SX) only[RV,reduceIte,Nat.reduceEqDiff,h0,h1,h2,hck,hch,q3']
   rw[if_pos (Or.inl q3)]
  ·have q3':=decide_eq_false q3
   by_cases q4:16777152≤s
   ·have q4':=decide_eq_true q4
    simp (maxSteps:=2000000) (disch:=try exact SX) only[RV,reduceIte,Nat.reduceEqDiff,h0,h1,h2,hck,hch,q3',q4']
    rw[if_pos (Or.inr q4)]
   ·have q4':=decide_eq_false q4
    simp (maxSteps:=2000000) (disch:=try exact SX) only[RV,reduceIte,Nat.reduceEqDiff,h0,h1,h2,hck,hch,q3',q4']
    rw[if_neg (by omega)]
theorem zI5 {h:Hd}(e:h.may=true):h.lb.may=true:=by
 unfold Hd.may at e
 simp only[Bool.and_eq_true] at e
 exact e.1
theorem zPA {h:Hd}(e1:zA1 [] l=true)(e2:h.may=true):zBY l h.lb=0:=by
 unfold zBY
 rw[e1,zI5 e2]
 rfl
theorem zEI {h:Hd}{s k:Int}{t:List UInt8}(he0:edE l h s=0)(hS:Sl 17 isOp a l)(hho:h.ok)(ht1:t.length≤2000)(hl:l.length≤200)(hf:100000<fuel):∃ r,inK l h s k t r ∧ ∀ M,zCN fuel (d+6) 20 [a,hdA h,I64 s,I64 k,STR t] M=some (r,M):=by
 obtain⟨e1,e2,e3,e4⟩:=ed_z he0
 have hon:=zPA e1 e2
 obtain⟨ro,hro,hof⟩:=zOE (fuel:=fuel) (d:=d+1) t (by omega) (by omega)
 obtain⟨rs,hrs,hse⟩:=zEH (fuel:=fuel) (d:=d) (v:=h.lb) hS e1 hho.1 (zI5 e2) hl hf
 have htp:=fun M=>zJF (fuel:=fuel) (d:=d) (v:=h.lb) hS e1 hho.1 hl hf M
 have hvl:=zDV e1 h.lb
 have lro:=hro.len
 have oro:=hro.one
 have lrs:=hrs.len
 refine gc_ex tf20 rfl (fun M=>by simp only[icyL,fun M=>hS.icy M 12 (by omega),fz_icyA (zAG h) (show 1<12 by omega),icy12]) ?_
 refine call_gc tf20 rfl (by simp only[icyL,fun M=>hS.icy M 12 (by omega),fz_icyA (zAG h) (show 1<12 by omega),icy12]) (by simp [a20]) fun b' ht hx=>?_
 obtain⟨h0,h1,h2⟩:=hx3 hx
 have h3:=hx 3 _ rfl
 have h4:=hx 4 _ rfl
 clear hx
 simp only[a20,c20] at ht ⊢
 rcases zNK (t:=t) with q2 | q2 | q2
 ·rw[q2] at hof
  by_cases q3:(ofM t).length=0
  ·have q3':decide (((ofM t).length:Int)=0)=true:=DT
   have he:inE l h s k t=2:=by
    unfold inE;rw[if_pos he0,if_pos q2]
    by_cases q4:zEV l h.lb k=0
    ·rw[if_pos q4,if_pos q3]
    ·rw[if_neg q4]
   have:=zB8 he (by decide)
   simp (maxSteps:=2000000) (disch:=try exact SX) only[RV,fillA,reduceIte,Nat.reduceEqDiff,Nat.reduceAdd,Nat.reduceSub,h0,h1,h4,hof,lro,q3',hse]
   exact⟨_,this,rfl⟩
  have q3':decide (((ofM t).length:Int)=0)=false:=DF
  by_cases q4:k<0
  ·have q4':=decide_eq_true q4
   have he:inE l h s k t=2:=by
    unfold inE zEV;rw[if_pos he0,if_pos q2,if_pos hon,if_pos (Or.inl q4)];rfl
   have:=zB8 he (by decide)
   simp (maxSteps:=2000000) (disch:=try exact SX) only[RV,fillA,reduceIte,Nat.reduceEqDiff,Nat.reduceAdd,Nat.reduceSub,h0,h1,h3,h4,hof,lro,q3',hse,q4']
   exact⟨_,this,rfl⟩
  have q4':=decide_eq_false q4
  by_cases q5:((zAM l h.lb).length:Int)<k
  ·have q5':=decide_eq_true q5
   have he:inE l h s k t=2:=by
    unfold inE zEV;rw[if_pos he0,if_pos q2,if_pos hon,if_pos (Or.inr q5)];rfl
   have:=zB8 he (by decide)
   simp (maxSteps:=2000000) (disch:=try exact SX) only[RV,fillA,reduceIte,Nat.reduceEqDiff,Nat.reduceAdd,Nat.reduceSub,h0,h1,h3,h4,hof,lro,q3',hse,q4',lrs,q5']
   exact⟨_,this,rfl⟩
  have q5':=decide_eq_false q5
  have hle:zEV l h.lb k=0:=by unfold zEV;rw[if_pos hon,if_neg (by omega)]
  have htop:topC (zAF (elsR (textOf l))) h.lb=topH l h:=rfl
  rw[htop] at htp
  have ht0:0≤topH l h:=zET.1
  have hnn:zD9 l h=if 1099511627776≤topH l h then 9 else 0:=by unfold zD9;rw[if_pos e1,if_pos e2]
  have htb:topH l h≤1099511627776:=by
   rcases zHO (cs:=zAF (elsR (textOf l))) (v:=h.lb) with hz | ⟨c,hc,_,hce⟩
   ·rw[htop] at hz;omega
   ·rw[htop] at hce
    rw[← hce]
    have hT:=zAI e1
    unfold zAF at hc
    obtain⟨x,hx,rfl⟩:=List.mem_map.1 hc
    have hm:=zFE hT.ok.1 x hx
    have hmi:=(El.may_iff.1 hm).1
    exact(Eid.may_iff.1 hmi).2.2
  have hm64:=(zHB q2).2.1
  have w0:IntKind.i64.wrap (topH l h+1)=topH l h+1:=WI
  have w1:IntKind.i64.wrap (topH l h+1+((ofM t).length:Int))=topH l h+1+(ofM t).length:=WI
  have w2:IntKind.i64.wrap (topH l h+1+((ofM t).length:Int) - 1)=topH l h+1+(ofM t).length - 1:=WI
  have w3:IntKind.i64.wrap (topH l h+(ofM t).length)=topH l h+(ofM t).length:=WI
  have q3n:¬(ofM t).length=0:=q3
  by_cases q6:1099511627776<topH l h+1+(ofM t).length - 1
  ·have q6':=decide_eq_true q6
   have he:inE l h s k t=9:=by
    unfold inE
    rw[if_pos he0,if_pos q2,if_pos hle,if_neg q3n,hnn]
    by_cases q7:1099511627776≤topH l h
    ·rw[if_pos q7,if_neg (by decide)]
    ·have hn0:zD9 l h=0:=by rw[hnn,if_neg q7]
     rw[if_neg q7,if_pos rfl]
     unfold zCM
     rw[if_pos hn0,if_pos q6]
   have:=zB8 he (by decide)
   simp (maxSteps:=2000000) (disch:=try exact SX) only[RV,fillA,reduceIte,Nat.reduceEqDiff,Nat.reduceAdd,Nat.reduceSub,h0,h1,h3,h4,hof,lro,q3',hse,q4',lrs,q5',htp,w0,w1,w2,q6']
   exact⟨_,this,rfl⟩
  have q6':=decide_eq_false q6
  have q7:¬1099511627776≤topH l h:=by omega
  have hn0:zD9 l h=0:=by rw[hnn,if_neg q7]
  have hnN:zCM l h=topH l h+1:=by unfold zCM;rw[if_pos hn0]
  have he:inE l h s k t=0:=by
   unfold inE
   rw[if_pos he0,if_pos q2,if_pos hle,if_neg q3n,if_pos hn0,hnN,if_neg q6]
  have hO:inO l h s k t=zP0 h s (topH l h+1) (zKN l h.lb k) (ofM t):=by unfold inO;rw[if_pos he,hnN]
  unfold inK
  rw[hO,he]
  unfold zKN
  simp only[hle,true_and]
  by_cases q8:0<k
  ·have q8':=decide_eq_true q8
   obtain⟨m,rfl⟩:∃ m:Nat,k=(m:Int)+1:=⟨(k - 1).toNat,by omega⟩
   have hm:m<(zAM l h.lb).length:=by omega
   have w5:IntKind.i64.wrap ((m:Int)+1 - 1)=(m:Int):=WI
   have w6:IntKind.i64.wrap (m:Int)=(m:Int):=WI
   obtain⟨r,hiad,⟨rfl,hok⟩,hrl⟩:=hrs.iad m hm
   have e:(((zAM l h.lb)[((m:Int)+1 - 1).toNat]?).map (·.id)).getD Eid.z=(zAM l h.lb)[m].id:=by
    rw[show ((m:Int)+1 - 1).toNat=m by omega,List.getElem?_eq_getElem hm]
    rfl
   simp only[q8,if_true,e]
   generalize (zAM l h.lb)[m]=c at *
   simp (maxSteps:=2000000) (disch:=try exact SX) only[RV,fillA,reduceIte,Nat.reduceEqDiff,Nat.reduceBEq,Nat.reduceAdd,h0,h1,h2,h3,h4,hof,hro.fz.cells,lro,q3',hse,q4',lrs,q5',htp,w0,w1,w2,q6',↓zJX,zHW]
   simp (maxSteps:=2000000) (disch:=try exact SX) only[RV,reduceIte,Nat.reduceEqDiff,Nat.reduceAdd,Nat.reduceSub,h3,hro.fz.frz,q8',w5,hiad]
   exact⟨_,⟨ro,rfl,hro⟩,rfl⟩
  ·have q8':=decide_eq_false q8
   simp only[q8,if_false]
   simp (maxSteps:=2000000) (disch:=try exact SX) only[RV,fillA,reduceIte,Nat.reduceEqDiff,Nat.reduceBEq,Nat.reduceAdd,h0,h1,h2,h3,h4,hof,hro.fz.cells,lro,q3',hse,q4',lrs,q5',htp,w0,w1,w2,q6',↓zJX,zHW]
   simp (maxSteps:=2000000) (disch:=try exact SX) only[RV,reduceIte,Nat.reduceEqDiff,Nat.reduceAdd,Nat.reduceSub,hro.fz.frz,q8']
   exact⟨_,⟨ro,rfl,hro⟩,rfl⟩
 all_goals
  rw[q2] at hof
  have he:inE l h s k t=ofE t:=by unfold inE;rw[if_pos he0,if_neg (by rw[q2];decide)]
  rw[q2] at he
  have:=zB8 he (by decide)
  simp (maxSteps:=2000000) (disch:=try exact SX) only[RV,fillA,reduceIte,Nat.reduceEqDiff,Nat.reduceAdd,Nat.reduceSub,Int.reduceEq,h1,h4,hof]
  exact⟨_,this,rfl⟩
def espE (l:List Op)(v:Lb)(k m:Int):Int:=if 64<m then 4 else vspE l v k m
def espK (l:List Op)(v:Lb)(k m:Int)(r:AV):Prop:=∃ r1,r = .tup [r1,I64 (espE l v k m)]∧Sl 5 zGC r1 (if espE l v k m=0 then spansOf ((midC l v k m).map (·.id)) else [])
theorem zEZ {h:Hd}{k m:Int}(hS:Sl 17 isOp a l)(hl:l.length≤200)(hf:3200000<fuel)(hd:∀ o∈l,o.rs.length≤1000000000):∃ r,espK l h.lb k m r ∧ ∀ M,zCN fuel (d+20) 21 [a,hdA h,I64 k,I64 m] M=some (r,M):=by
 obtain⟨rv,⟨r1,rfl,hr1⟩,hsp⟩:=zJM (fuel:=fuel) (d:=d) (v:=h.lb) (k:=k) (m:=m) hS hl hf hd
 refine gc_ex tf21 rfl (fun M=>by simp only[icyL,fun M=>hS.icy M 12 (by omega),fz_icyA (zAG h) (show 1<12 by omega),icy12]) ?_
 refine call_gc tf21 rfl (by simp only[icyL,fun M=>hS.icy M 12 (by omega),fz_icyA (zAG h) (show 1<12 by omega),icy12]) (by simp [a21]) fun b' ht hx=>?_
 obtain⟨h0,h1,h2⟩:=hx3 hx
 have h3:=hx 3 _ rfl
 clear hx
 simp only[a21,c21] at ht ⊢
 unfold espK espE
 by_cases q1:64<m
 ·have q1':=decide_eq_true q1
  simp only[q1,if_true]
  simp (disch:=try exact SX) only[RV,seval,h1,h3,q1']
  exact zB04
 ·have q1':=decide_eq_false q1
  simp only[q1,if_false]
  simp (disch:=try exact SX) only[RV,seval,h0,h1,h2,h3,q1',hsp,hr1.fz.frz]
  exact⟨_,⟨r1,rfl,hr1⟩,rfl⟩
theorem zOT {bh bs i:Nat}{h:Hd}{s:Int}{x:Spn}(wf:Wf M)(hw:M.wm≤M.size)(m1:M.get bh=some (.row false (hdR h)))(m2:M.get bs=some (.row false [I64 s]))(hs:1≤s∧s≤16777216)(hi:i≤100000)(k:∀ N,Kept M N→Q (.agg (opR ⟨2,h,s+i,x,Eid.z,Lb.z,[]⟩ NIL)) N):W3 (zCN fuel (d+1) 23 [I64 i,spA x,.ptr bh 0,.ptr bs 0] M) Q:=by
 have l1:=Mem.get_lt m1
 have l2:=Mem.get_lt m2
 have w1:IntKind.i64.wrap (s+(i:Int))=s+i:=WI
 have kk:=fun p q r=>(((Kept.refl wf).add p).add q).upd hw (Nat.le_succ M.size) r
 refine call_0 tf23 rfl (by simp [a23]) fun b' ht hx=>?_
 obtain⟨h0,h1,h2⟩:=hx3 hx
 have h3:=hx 3 _ rfl
 clear hx
 simp only[a23,c23] at ht ⊢
 simp (disch:=try exact SX) only[RV,seval,h0,h1,h2,h3,m1,m2,w1,↓zJW,zHV]
 exact k _ (kk _ _ _)
theorem zLW {bh bs:Nat}{h:Hd}{s:Int}{sp:List Spn}(hS:Sl 5 zGC a sp)(hl:sp.length≤64)(hf:100<fuel)(hho:h.ok)(wf:Wf M)(hw:M.wm≤M.size)(m1:M.get bh=some (.row false (hdR h)))(m2:M.get bs=some (.row false [I64 s]))(hs:1≤s∧s≤16777216)
  (k:∀ o N,Wf N→M.size≤N.size→(∀ j,j<M.size→N.get j=M.get j)→SlM N 17 isOp o (zAQ 2 h s Lb.z sp)→N.wm=M.wm→Q o N):W3 (zCN fuel (d+2) 22 [a,.fn 23 [] [.ptr bh 0,.ptr bs 0]] M) Q:=by
 have la:=hS.len
 have l1:=Mem.get_lt m1
 have l2:=Mem.get_lt m2
 have hol:=zB5 2 h s Lb.z sp
 refine call_0 tf22 rfl (by simp [a22]) fun b' ht hx=>?_
 obtain⟨h0,h1⟩:=hx2 hx
 clear hx
 simp only[a22,c22] at ht ⊢
 simp (disch:=try exact SX) only[RV,seval,h0,la]
 refine w_loop (I:=fun n t N => ∃ (i:Nat) (o:AV),n=sp.length - i∧i≤sp.length∧nth undefA t 1 = .fn 23 [] [.ptr bh 0,.ptr bs 0]∧nth undefA t 4=o∧nth undefA t 7=a∧nth undefA t 8=I64 sp.length∧nth undefA t 9=I64 i∧Wf N∧M.size≤N.size∧(∀ j,j<M.size→N.get j=M.get j)∧N.wm=M.wm∧SlM N 17 isOp o ((zAQ 2 h s Lb.z sp).take i)∧(∀ j,rowOf o=some j→M.size≤j)) (n:=sp.length) (by omega) ?_ ?_
 ·exact zB09
 ·rintro n t N hlt ⟨i,o,rfl,hi,g1,g4,g7,g8,g9,w,le,kp,wm,sm,nr⟩
  simp only[ht] at hlt ⊢
  have hll:((zAQ 2 h s Lb.z sp).take i).length≤64:=by rw[List.length_take];omega
  by_cases hc:i<sp.length
  ·have q1:decide ((i:Int)<sp.length)=true:=DT
   have w1:IntKind.i64.wrap ((i:Int)+1)=((i+1:Nat):Int):=WI
   obtain⟨r,hiad,hr,hrl⟩:=hS.iad i hc
   have hts:=take_snoc (zAQ 2 h s Lb.z sp) i (by omega)
   rw[zBC] at hts
   generalize sp[i]=x at *
   obtain⟨rfl,hok⟩:=hr
   have hwN:N.wm≤N.size:=by rw[wm];exact Nat.le_trans hw le
   have kX:=((Kept.refl w).add (.row false (spR ⟨Eid.z,0⟩))).upd hwN (Nat.le_refl _) (.row false (spR x))
   simp (disch:=try exact SX) only[RV,seval,g1,g4,g7,g8,g9,q1,hiad]
   refine zOT (d:=d) (x:=x) kX.wf (by rw[kX.wm];exact Nat.le_trans hwN kX.le) ((kX.get bh (by omega)).trans ((kp bh l1).trans m1)) ((kX.get bs (by omega)).trans ((kp bs l2).trans m2)) hs (by omega) fun N2 k2=>?_
   have w2:=k2.wf
   have k3:=kX.trans k2
   have le2:=k2.le
   simp only[upd_size,add_size] at le2
   have smX:SlM N2 17 isOp o ((zAQ 2 h s Lb.z sp).take i):=sm.keep fun j hj=>k3.get j (sm.lt j hj)
   simp (disch:=try exact SX) only[RV,seval,fillA]
   refine⟨rows_lt smX.rl (by omega), ?_⟩
   have hook:(⟨2,h,s+i,x,Eid.z,Lb.z,[]⟩:Op).ok:=⟨by show (0:Int)≤2∧(2:Int)≤255;decide,hho,by show -9223372036854775808≤s+(i:Int)∧s+(i:Int)≤9223372036854775807;omega,hok,Eid.z_ok,Lb.z_ok,fun _ h=>by cases h⟩
   refine app1 (bytes:=112) (x:=⟨2,h,s+i,x,Eid.z,Lb.z,[]⟩) w2 smX zDJ ⟨NIL,rfl,.inl ⟨rfl,rfl⟩,hook⟩ rfl (by omega) (by omega) (by omega) fun p2 M2 m2' wf2 le3 kp2 nw2 wm2 rl2 on2 oc2=>?_
   exact zB0a
  ·exact zB0f
def zH1 (sp:List Spn)(h:Hd):Bool:=sp.all fun x=>decide (x.f.hd.lb=h.lb)
def delE (l:List Op)(h:Hd)(s k m:Int):Int:=if edE l h s=0 then (if espE l h.lb k m=0 then (if zH1 (spansOf ((midC l h.lb k m).map (·.id))) h=true then 0 else 230) else espE l h.lb k m) else edE l h s
def delK (l:List Op)(h:Hd)(s k m:Int)(r:AV):Prop:=∃ r1,r = .tup [r1,I64 (delE l h s k m)]∧Sl 17 isOp r1 (if delE l h s k m=0 then zAQ 2 h s Lb.z (spansOf ((midC l h.lb k m).map (·.id))) else [])
theorem zK8 {k m:Int}(e:espE l v k m=0):m≤64∧vspE l v k m=0:=by
 unfold espE at e
 split at e
 ·cases e
 ·exact⟨by omega,e⟩
theorem zEB {k m:Int}(hm:m≤64):(spansOf ((midC l v k m).map (·.id))).length≤64:=by
 have h1:=zER ((midC l v k m).map (·.id))
 rw[List.length_map] at h1
 unfold midC at h1 ⊢
 rw[List.length_take] at h1
 omega
theorem zIZ {h:Hd}{s k m:Int}(hS:Sl 17 isOp a l)(hho:h.ok)(hl:l.length≤200)(hf:3200000<fuel)(hd:∀ o∈l,o.rs.length≤1000000000):∃ r,delK l h s k m r ∧ ∀ M,zCN fuel (d+21) 8 [a,hdA h,I64 s,I64 k,I64 m] M=some (r,M):=by
 have hask:=fun M=>zD6 (fuel:=fuel) (d:=d+5) (h:=h) (s:=s) hS (by omega) (by omega) M
 obtain⟨rv,⟨r1,rfl,hr1⟩,hsp⟩:=zEZ (fuel:=fuel) (d:=d) (h:=h) (k:=k) (m:=m) hS hl hf hd
 refine gc_ex tf8 rfl (fun M=>by simp only[icyL,fun M=>hS.icy M 12 (by omega),fz_icyA (zAG h) (show 1<12 by omega),icy12]) ?_
 refine call_gc tf8 rfl (by simp only[icyL,fun M=>hS.icy M 12 (by omega),fz_icyA (zAG h) (show 1<12 by omega),icy12]) (by simp [a8]) fun b' ht hx=>?_
 obtain⟨h0,h1,h2⟩:=hx3 hx
 have h3:=hx 3 _ rfl
 have h4:=hx 4 _ rfl
 clear hx
 simp only[a8,c8] at ht ⊢
 unfold delK delE
 by_cases q1:edE l h s=0
 ·obtain⟨e1,e2,e3,e4⟩:=ed_z q1
  have q1':=decide_eq_true q1
  simp only[q1,if_true]
  rw[q1] at hask
  by_cases q2:espE l h.lb k m=0
  ·obtain⟨f1,f2⟩:=zK8 q2
   have hnl:=zEB (l:=l) (v:=h.lb) (k:=k) f1
   rw[q2] at hr1 hsp
   simp only[if_true] at hr1
   simp only[q2,if_true]
   generalize spansOf ((midC l h.lb k m).map (·.id))=sp at *
   have lr1:=hr1.len
   simp (disch:=try exact SX) only[RV,seval,h0,h1,h2,h3,h4,hask,hsp,lr1]
   refine w_loop (I:=fun nq tq Nq => ∃ (iq:Nat) (_x:Nat),nq=sp.length - iq∧iq≤sp.length∧nth undefA tq 6 = .ptr 0 0∧nth undefA tq 7 = .ptr 1 0∧nth undefA tq 13=r1∧nth undefA tq 35=r1∧nth undefA tq 36=I64 sp.length∧nth undefA tq 37=I64 iq∧Wf Nq∧2≤Nq.size∧Nq.wm=0∧Nq.get 0=some (.row false (hdR h))∧Nq.get 1=some (.row false [I64 s])∧(∀ j (hj:j<sp.length),j<iq→sp[j].f.hd.lb=h.lb)) (n:=sp.length) (by omega) ?_ ?_
   ·refine⟨0,0,rfl,Nat.zero_le _, ?_, ?_, ?_, ?_, ?_, ?_,(Wf.mem0.add _).add _,Nat.le_refl 2,rfl,by simp (disch:=try exact SX) only[RV],by simp (disch:=try exact SX) only[RV],(fun j _ h=>absurd h (by omega))⟩ <;> simp (disch:=try exact SX) only[RV,seval]
    all_goals first | rfl | assumption | done
   ·rintro nq tq Nq hltq ⟨iq,_x,rfl,hiq,gq6,gq7,gq13,gq35,gq36,gq37,w,le,wm,m0,m1,ha⟩
    simp only[ht] at hltq ⊢
    have l0:0<Nq.size:=by omega
    have l1:1<Nq.size:=by omega
    by_cases hc:iq<sp.length
    ·have c1:decide ((iq:Int)<sp.length)=true:=DT
     have w1:IntKind.i64.wrap ((iq:Int)+1)=((iq+1:Nat):Int):=WI
     obtain⟨r,hiad,hr,hrl⟩:=hr1.iad iq hc
     have hx:sp[iq]∈sp:=List.getElem_mem hc
     have hsnoc:sp[iq].f.hd.lb=h.lb → ∀ j (hj:j<sp.length),j<iq+1→sp[j].f.hd.lb=h.lb:=fun e j hj h=>by
      exact zB0v
     generalize sp[iq]=x at *
     obtain⟨rfl,hok⟩:=hr
     by_cases q3:x.f.hd.lb=h.lb
     ·have q3':=decide_eq_true q3
      simp (disch:=try exact SX) only[RV,seval,gq6,gq7,gq13,gq35,gq36,gq37,c1,hiad,w,m0,↓pLbN,zAO,ETA,q3',w1]
      exact⟨hltq,sp.length - (iq+1),by omega,iq+1,0,rfl,by omega,rfl,by omega,wm,m1,hsnoc q3⟩
     ·have q3':=decide_eq_false q3
      have qa:zH1 sp h=false:=by
       rw[← Bool.not_eq_true]
       intro hh
       exact q3 (of_decide_eq_true (List.all_eq_true.1 hh x hx))
      have e8:((230:Int)=0)=False:=by decide
      simp only[qa,Bool.false_eq_true,if_false,e8]
      simp (disch:=try exact SX) only[RV,seval,gq6,gq35,gq36,gq37,c1,hiad,m0,↓pLbN,zAO,ETA,q3']
      exact zB04
    ·obtain rfl:iq=sp.length:=by omega
     have qa:zH1 sp h=true:=List.all_eq_true.2 fun x hx=>by
      obtain⟨j,hj,rfl⟩:=List.getElem_of_mem hx
      exact decide_eq_true (ha j hj hj)
     simp only[qa,if_true]
     simp (disch:=try exact SX) only[RV,seval,gq6,gq7,gq13,gq36,gq37]
     refine zLW (d:=d+18) hr1 hnl (by omega) hho w (by omega) m0 m1 ⟨e3,by omega⟩ fun o N2 w2 le2 k2 sm2 wm2=>?_
     obtain⟨ro,hz,hs⟩:=sm2.frz zDJ.cel (k:=12) (by omega)
     simp (disch:=try exact SX) only[RV,seval,hz]
     exact zB0W
  ·have q2':=decide_eq_false q2
   rw[if_neg q2] at hr1
   simp only[q2,if_false]
   simp (disch:=try exact SX) only[RV,seval,h0,h1,h2,h3,h4,hask,hsp,q2']
   exact zB04
 ·have q1':=decide_eq_false q1
  exact zB10
def zOS (l:List Op)(v:Lb)(k m:Int)(r:AV):Prop:=∃ r1,r = .tup [r1,I64 (espE l v k m)]∧Sl 5 zBB r1 (if espE l v k m=0 then midC l v k m else [])
theorem zDH {k m:Int}(hh:zA1 [] l=true)(hvm:v.may=true)(hS:Sl 17 isOp a l)(hv:v.ok)(hl:l.length≤200)(hf:100000<fuel):∃ r,zOS l v k m r ∧ ∀ M,zCN fuel (d+6) 44 [a,lbA v,I64 k,I64 m] M=some (r,M):=by
 obtain⟨r2,hr2,hse⟩:=zEH (fuel:=fuel) (d:=d) hS hh hv hvm hl hf
 have hvl:=zDV hh v
 have lr2:=hr2.len
 have q1:zBY l v=0:=by unfold zBY;rw[hh,hvm];rfl
 refine gc_ex tf44 rfl (fun M=>by simp only[icyL,fun M=>hS.icy M 12 (by omega),fz_icyA (zA8 v) (show 1<12 by omega),icy12]) ?_
 refine call_gc tf44 rfl (by simp only[icyL,fun M=>hS.icy M 12 (by omega),fz_icyA (zA8 v) (show 1<12 by omega),icy12]) (by simp [a44]) fun b' ht hx=>?_
 obtain⟨h0,h1,h2⟩:=hx3 hx
 have h3:=hx 3 _ rfl
 clear hx
 simp only[a44,c44] at ht ⊢
 unfold zOS espE vspE
 simp only[q1,if_true]
 by_cases q0:64<m
 ·have q0':=decide_eq_true q0
  simp only[q0,if_true]
  simp (disch:=try exact SX) only[RV,seval,h1,h3,q0']
  exact zB04
 have q0':=decide_eq_false q0
 simp only[q0,if_false]
 by_cases q2:k<0
 ·have q2':=decide_eq_true q2
  simp only[q2,true_or,if_true]
  simp (disch:=try exact SX) only[RV,seval,h0,h1,h2,h3,hse,q0',q2']
  exact zB04
 have q2':=decide_eq_false q2
 by_cases q3:((zAM l v).length:Int)<k
 ·have q3':=decide_eq_true q3
  simp only[q3,true_or,or_true,if_true]
  simp (disch:=try exact SX) only[RV,seval,h0,h1,h2,h3,hse,q0',q2',q3',lr2]
  exact zB04
 have q3':=decide_eq_false q3
 by_cases q4:m<1
 ·have q4':=decide_eq_true q4
  simp only[q4,true_or,or_true,if_true]
  simp (disch:=try exact SX) only[RV,seval,h0,h1,h2,h3,hse,q0',q2',q3',q4',lr2]
  exact zB04
 have q4':=decide_eq_false q4
 obtain⟨k,rfl⟩:∃ n:Nat,k=n:=⟨k.toNat,by omega⟩
 have w0:IntKind.i64.wrap (((zAM l v).length:Int) - k)=(zAM l v).length - k:=WI
 by_cases q5:((zAM l v).length:Int) - k<m
 ·have q5':=decide_eq_true q5
  simp only[q5,or_true,if_true]
  simp (disch:=try exact SX) only[RV,seval,h0,h1,h2,h3,hse,q0',q2',q3',q4',q5',w0,lr2]
  exact zB04
 have q5':=decide_eq_false q5
 obtain⟨m,rfl⟩:∃ n:Nat,m=n:=⟨m.toNat,by omega⟩
 have q6:¬((k:Int)<0∨((zAM l v).length:Int)<k∨(m:Int)<1∨(zAM l v).length - (k:Int)<m):=by omega
 simp only[q6,if_false,if_true]
 unfold midC
 simp only[Int.toNat_natCast]
 have w1:IntKind.i64.wrap ((k:Int)+m)=((k+m:Nat):Int):=WI
 obtain⟨sa,hsa,hsl⟩:=zNQ hr2 (i:=k) (j:=k+m) (by omega) (by omega)
 rw[Nat.add_sub_cancel_left] at hsl
 simp (disch:=try exact SX) only[RV,seval,h0,h1,h2,h3,hse,hr2.fz.rows,q0',q2',q3',q4',q5',w0,w1,lr2,hsa,hsl.fz.frz]
 exact⟨_,⟨sa,rfl,hsl⟩,rfl⟩
theorem zKS {k m:Int}(hh:zA1 [] l=true):∀ c∈midC l v k m,c.id.may=true:=fun c hc=>by
 unfold midC at hc
 obtain⟨x,x1,x2,_⟩:=zLK (List.mem_of_mem_drop (List.mem_of_mem_take hc))
 rw[← x2]
 exact(zK3 hh x x1).2.2
theorem zH2 {cs:List CellV}{h:Hd}(hm:∀ c∈cs,c.id.may=true):zH1 (spansOf (cs.map (·.id))) h=true ↔ ∀ c∈cs,c.id.hd.lb=h.lb:=by
 obtain⟨s1,s2⟩:=zDT (c:=cs.map (·.id)) (fun x hx=>by
  obtain⟨y,hy,rfl⟩:=List.mem_map.1 hx
  exact hm y hy)
 unfold zH1
 rw[List.all_eq_true]
 constructor
 ·intro hA c hc
  have:c.id∈(spansOf (cs.map (·.id))).flatMap Spn.ids:=by rw[s1];exact List.mem_map.2 ⟨c,hc,rfl⟩
  obtain⟨s,hs,hx⟩:=List.mem_flatMap.1 this
  rw[zD8 hx]
  exact of_decide_eq_true (hA s hs)
 ·intro hA s hs
  have hb:=Spn.may_le (s2 s hs)
  have hx:s.at 0∈s.ids:=by
   unfold Spn.ids
   exact List.mem_map.2 ⟨0,List.mem_range.2 (by omega),rfl⟩
  have:s.at 0∈cs.map (·.id):=by rw[← s1];exact List.mem_flatMap.2 ⟨s,hs,hx⟩
  obtain⟨c,hc,hce⟩:=List.mem_map.1 this
  have:=hA c hc
  rw[hce] at this
  exact decide_eq_true this
theorem zIC {k m:Int}(hm:m≤64):(midC l v k m).length≤64:=by
 unfold midC
 rw[List.length_take]
 omega
theorem zEW {h:Hd}{s k m:Int}(he0:edE l h s=0)(hS:Sl 17 isOp a l)(hho:h.ok)(hl:l.length≤200)(hf:100000<fuel):∃ r,delK l h s k m r ∧ ∀ M,zCN fuel (d+7) 24 [a,hdA h,I64 s,I64 k,I64 m] M=some (r,M):=by
 obtain⟨e1,e2,e3,e4⟩:=ed_z he0
 obtain⟨rv,⟨r1,rfl,hr1⟩,hsp⟩:=zDH (fuel:=fuel) (d:=d) (v:=h.lb) (k:=k) (m:=m) e1 (zI5 e2) hS hho.1 hl hf
 refine gc_ex tf24 rfl (fun M=>by simp only[icyL,fun M=>hS.icy M 12 (by omega),fz_icyA (zAG h) (show 1<12 by omega),icy12]) ?_
 refine call_gc tf24 rfl (by simp only[icyL,fun M=>hS.icy M 12 (by omega),fz_icyA (zAG h) (show 1<12 by omega),icy12]) (by simp [a24]) fun b' ht hx=>?_
 obtain⟨h0,h1,h2⟩:=hx3 hx
 have h3:=hx 3 _ rfl
 have h4:=hx 4 _ rfl
 clear hx
 simp only[a24,c24] at ht ⊢
 unfold delK delE
 simp only[he0,if_true]
 by_cases q2:espE l h.lb k m=0
 ·obtain⟨f1,f2⟩:=zK8 q2
  have hnl:=zEB (l:=l) (v:=h.lb) (k:=k) f1
  have hml:=zIC (l:=l) (v:=h.lb) (k:=k) f1
  have hmm:=zKS (l:=l) (v:=h.lb) (k:=k) (m:=m) e1
  have hab:=zH2 (h:=h) hmm
  rw[q2] at hr1 hsp
  simp only[if_true] at hr1
  simp only[q2,if_true]
  generalize midC l h.lb k m=cs at *
  have lr1:=hr1.len
  obtain⟨r3,hr3,hof⟩:=zGP (fuel:=fuel) (d:=d+5) hr1 hmm (by omega) (by omega)
  have lr3:=hr3.len
  generalize spansOf (cs.map (·.id))=sp at *
  simp (disch:=try exact SX) only[RV,seval,h0,h1,h3,h4,hsp]
  refine w_loop (I:=fun nq tq Nq => ∃ (iq:Nat) (_x:Nat),nq=cs.length - iq∧iq≤cs.length∧nth undefA tq 2=I64 s∧nth undefA tq 6 = .ptr 0 0∧nth undefA tq 12=r1∧nth undefA tq 14=I64 iq∧Wf Nq∧Nq.wm=0∧Nq.get 0=some (.row false (hdR h))∧(∀ j (hj:j<cs.length),j<iq→cs[j].id.hd.lb=h.lb)) (n:=cs.length) (by omega) ?_ ?_
  ·refine⟨0,0,rfl,Nat.zero_le _, ?_, ?_, ?_, ?_,Wf.mem0.add _,rfl,by simp (disch:=try exact SX) only[RV],(fun j _ h=>absurd h (by omega))⟩ <;> simp (disch:=try exact SX) only[RV,seval,h2]
   all_goals first | rfl | assumption | done
  ·rintro nq tq Nq hltq ⟨iq,_x,rfl,hiq,gq2,gq6,gq12,gq14,w,wm,m0,ha⟩
   simp only[ht] at hltq ⊢
   have l0:=Mem.get_lt m0
   by_cases hc:iq<cs.length
   ·have c1:decide ((iq:Int)<cs.length)=true:=DT
    have w1:IntKind.i64.wrap ((iq:Int)+1)=((iq+1:Nat):Int):=WI
    obtain⟨r,hiad,hr,hrl⟩:=hr1.iad iq hc
    have hx:cs[iq]∈cs:=List.getElem_mem hc
    have hsnoc:cs[iq].id.hd.lb=h.lb → ∀ j (hj:j<cs.length),j<iq+1→cs[j].id.hd.lb=h.lb:=fun e j hj h=>by
     exact zB0v
    generalize cs[iq]=x at *
    obtain⟨rfl,hok⟩:=hr
    by_cases q3:x.id.hd.lb=h.lb
    ·have q3':=decide_eq_true q3
     simp (disch:=try exact SX) only[RV,seval,gq2,gq6,gq12,gq14,c1,hiad,lr1,w,m0,↓pLbN,zAO,ETA,q3',w1]
     exact⟨hltq,cs.length - (iq+1),by omega,iq+1,0,rfl,by omega,rfl,wm,hsnoc q3⟩
    ·have q3':=decide_eq_false q3
     have qa:zH1 sp h=false:=by
      rw[← Bool.not_eq_true]
      intro hh
      exact q3 (hab.1 hh x hx)
     have e8:((230:Int)=0)=False:=by decide
     simp only[qa,Bool.false_eq_true,if_false,e8]
     simp (disch:=try exact SX) only[RV,seval,gq6,gq12,gq14,c1,hiad,lr1,m0,↓pLbN,zAO,ETA,q3']
     exact zB04
   ·obtain rfl:iq=cs.length:=by omega
    have qa:zH1 sp h=true:=hab.2 fun x hx=>by
     obtain⟨j,hj,rfl⟩:=List.getElem_of_mem hx
     exact ha j hj hj
    simp only[qa,if_true]
    have hol:=zB5 2 h s Lb.z sp
    simp (disch:=try exact SX) only[RV,seval,gq12,gq14,lr1,hof]
    refine w_loop (I:=fun np tp Np => ∃ (ip:Nat) (o:AV),np=sp.length - ip∧ip≤sp.length∧nth undefA tp 2=I64 s∧nth undefA tp 6 = .ptr 0 0∧nth undefA tp 15=o∧nth undefA tp 16=r3∧nth undefA tp 17=I64 ip∧Wf Np∧1≤Np.size∧Np.get 0=some (.row false (hdR h))∧(∀ j,rowOf o=some j→1≤j)∧SlM Np 17 isOp o ((zAQ 2 h s Lb.z sp).take ip)) (n:=sp.length) (by omega) ?_ ?_
    ·refine⟨0,NIL,rfl,Nat.zero_le _, ?_, ?_, ?_, ?_, ?_,w,Nat.succ_le_of_lt l0,m0,(fun _ h=>by cases h),SlM.nil⟩ <;> simp (disch:=try exact SX) only[RV,seval,gq2,gq6]
     all_goals first | rfl | assumption | done
    ·rintro np tp Np hltp ⟨ip,o,rfl,hip,gp2,gp6,gp15,gp16,gp17,w',le',m0',nr,sm⟩
     simp only[hltq] at hltp ⊢
     have hll:((zAQ 2 h s Lb.z sp).take ip).length≤64:=by rw[List.length_take];omega
     by_cases hc2:ip<sp.length
     ·have q1:decide ((ip:Int)<sp.length)=true:=DT
      have w1:IntKind.i64.wrap ((ip:Int)+1)=((ip+1:Nat):Int):=WI
      have w2:IntKind.i64.wrap (s+(ip:Int))=s+ip:=WI
      obtain⟨r,hiad,hr,hrl⟩:=hr3.iad ip hc2
      have hts:=take_snoc (zAQ 2 h s Lb.z sp) ip (by omega)
      rw[zBC] at hts
      generalize sp[ip]=x at *
      obtain⟨rfl,hok⟩:=hr
      simp (disch:=try exact SX) only[RV,seval,fillA,gp2,gp6,gp15,gp16,gp17,lr3,q1,hiad,m0',w2,↓zJW,zHV]
      refine⟨rows_lt sm.rl (by omega), ?_⟩
      have hook:(⟨2,h,s+ip,x,Eid.z,Lb.z,[]⟩:Op).ok:=⟨by show (0:Int)≤2∧(2:Int)≤255;decide,hho,by show -9223372036854775808≤s+(ip:Int)∧s+(ip:Int)≤9223372036854775807;omega,hok,Eid.z_ok,Lb.z_ok,fun _ h=>by cases h⟩
      refine app1 (bytes:=112) (x:=⟨2,h,s+ip,x,Eid.z,Lb.z,[]⟩) w' sm zDJ ⟨NIL,rfl,.inl ⟨rfl,rfl⟩,hook⟩ rfl (by omega) (by omega) (by omega) fun p2 M2 m2' wf2 le3 kp2 nw2 wm2 rl2 on2 oc2=>?_
      simp (disch:=try exact SX) only[RV,seval,gp2,gp6,gp15,gp16,gp17,wf2,w1]
      refine⟨hltp,sp.length - (ip+1),by omega,ip+1,p2,rfl,by omega,rfl,rfl,by omega, ?_,fun j hj=>?_,by rw[hts];exact m2'⟩
      ·rw[kp2 0 (by omega) (fun h=>by have:=nr _ h;omega)];exact m0'
      ·rcases nw2 j hj with h | h
       ·exact nr j h
       ·omega
     ·obtain rfl:ip=sp.length:=by omega
      have q1:decide ((sp.length:Int)<sp.length)=false:=DF
      rw[List.take_of_length_le (by omega)] at sm
      obtain⟨ro,hz,hs⟩:=sm.frz zDJ.cel (k:=12) (by omega)
      simp (disch:=try exact SX) only[RV,seval,gp15,gp16,gp17,lr3,hz]
      exact zB0W
 ·have q2':=decide_eq_false q2
  rw[if_neg q2] at hr1
  simp only[q2,if_false]
  simp (disch:=try exact SX) only[RV,seval,h0,h1,h3,h4,hsp,q2']
  exact zB04
theorem zFS {h:Hd}{s k m:Int}(hS:Sl 17 isOp a l)(hho:h.ok)(hl:l.length≤200)(hf:100000<fuel):∃ r,delK l h s k m r ∧ ∀ M,zCN fuel (d+9) 9 [a,hdA h,I64 s,I64 k,I64 m] M=some (r,M):=by
 have hask:=fun M=>zC6 (fuel:=fuel) (d:=d) (h:=h) (s:=s) hS hl hf M
 by_cases q1:edE l h s=0
 ·obtain⟨r,⟨r1,hre,hr1⟩,hd⟩:=zEW (fuel:=fuel) (d:=d+1) (k:=k) (m:=m) q1 hS hho hl hf
  subst hre
  rw[q1] at hask
  refine gc_ex tf9 rfl (fun M=>by simp only[icyL,fun M=>hS.icy M 12 (by omega),fz_icyA (zAG h) (show 1<12 by omega),icy12]) ?_
  refine call_gc tf9 rfl (by simp only[icyL,fun M=>hS.icy M 12 (by omega),fz_icyA (zAG h) (show 1<12 by omega),icy12]) (by simp [a9]) fun b' ht hx=>?_
  obtain⟨h0,h1,h2⟩:=hx3 hx
  have h3:=hx 3 _ rfl
  have h4:=hx 4 _ rfl
  clear hx
  simp only[a9,c9] at ht ⊢
  simp (disch:=try exact SX) only[RV,seval,h0,h1,h2,h3,h4,hask,hd,hr1.fz.frz]
  exact⟨_,⟨r1,rfl,hr1⟩,rfl⟩
 ·have q1':=decide_eq_false q1
  refine gc_ex tf9 rfl (fun M=>by simp only[icyL,fun M=>hS.icy M 12 (by omega),fz_icyA (zAG h) (show 1<12 by omega),icy12]) ?_
  refine call_gc tf9 rfl (by simp only[icyL,fun M=>hS.icy M 12 (by omega),fz_icyA (zAG h) (show 1<12 by omega),icy12]) (by simp [a9]) fun b' ht hx=>?_
  obtain⟨h0,h1,h2⟩:=hx3 hx
  clear hx
  simp only[a9,c9] at ht ⊢
  unfold delK delE
  exact zB10
theorem zPF {bh bs bt i:Nat}{to:Lb}{h:Hd}{s:Int}{x:Spn}(wf:Wf M)(hw:M.wm≤M.size)(m1:M.get bh=some (.row false (hdR h)))(m2:M.get bs=some (.row false [I64 s]))(m3:M.get bt=some (.row false (lbR to)))(hs:1≤s∧s≤16777216)(hi:i≤100000)(k:∀ N,Kept M N→Q (.agg (opR ⟨3,h,s+i,x,Eid.z,to,[]⟩ NIL)) N):W3 (zCN fuel (d+1) 27 [I64 i,spA x,.ptr bh 0,.ptr bs 0,.ptr bt 0] M) Q:=by
 have l1:=Mem.get_lt m1
 have l2:=Mem.get_lt m2
 have l3:=Mem.get_lt m3
 have w1:IntKind.i64.wrap (s+(i:Int))=s+i:=WI
 have kk:=fun p q r=>(((Kept.refl wf).add p).add q).upd hw (Nat.le_succ M.size) r
 refine call_0 tf27 rfl (by simp [a27]) fun b' ht hx=>?_
 obtain⟨h0,h1,h2⟩:=hx3 hx
 have h3:=hx 3 _ rfl
 have h4:=hx 4 _ rfl
 clear hx
 simp only[a27,c27] at ht ⊢
 simp (disch:=try exact SX) only[RV,seval,h0,h1,h2,h3,h4,m1,m2,m3,w1,↓zH3,zFB]
 exact k _ (kk _ _ _)
theorem zLX {bh bs bt:Nat}{to:Lb}{h:Hd}{s:Int}{sp:List Spn}(hS:Sl 5 zGC a sp)(hl:sp.length≤64)(hf:100<fuel)(hho:h.ok)(hto:to.ok)(wf:Wf M)(hw:M.wm≤M.size)(m1:M.get bh=some (.row false (hdR h)))(m2:M.get bs=some (.row false [I64 s]))(m3:M.get bt=some (.row false (lbR to)))(hs:1≤s∧s≤16777216)
  (k:∀ o N,Wf N→M.size≤N.size→(∀ j,j<M.size→N.get j=M.get j)→SlM N 17 isOp o (zAQ 3 h s to sp)→N.wm=M.wm→Q o N):W3 (zCN fuel (d+2) 22 [a,.fn 27 [] [.ptr bh 0,.ptr bs 0,.ptr bt 0]] M) Q:=by
 have la:=hS.len
 have l1:=Mem.get_lt m1
 have l2:=Mem.get_lt m2
 have l3:=Mem.get_lt m3
 have hol:=zB5 3 h s to sp
 refine call_0 tf22 rfl (by simp [a22]) fun b' ht hx=>?_
 obtain⟨h0,h1⟩:=hx2 hx
 clear hx
 simp only[a22,c22] at ht ⊢
 simp (disch:=try exact SX) only[RV,seval,h0,la]
 refine w_loop (I:=fun n t N => ∃ (i:Nat) (o:AV),n=sp.length - i∧i≤sp.length∧nth undefA t 1 = .fn 27 [] [.ptr bh 0,.ptr bs 0,.ptr bt 0]∧nth undefA t 4=o∧nth undefA t 7=a∧nth undefA t 8=I64 sp.length∧nth undefA t 9=I64 i∧Wf N∧M.size≤N.size∧(∀ j,j<M.size→N.get j=M.get j)∧N.wm=M.wm∧SlM N 17 isOp o ((zAQ 3 h s to sp).take i)∧(∀ j,rowOf o=some j→M.size≤j)) (n:=sp.length) (by omega) ?_ ?_
 ·exact zB09
 ·rintro n t N hlt ⟨i,o,rfl,hi,g1,g4,g7,g8,g9,w,le,kp,wm,sm,nr⟩
  simp only[ht] at hlt ⊢
  have hll:((zAQ 3 h s to sp).take i).length≤64:=by rw[List.length_take];omega
  by_cases hc:i<sp.length
  ·have q1:decide ((i:Int)<sp.length)=true:=DT
   have w1:IntKind.i64.wrap ((i:Int)+1)=((i+1:Nat):Int):=WI
   obtain⟨r,hiad,hr,hrl⟩:=hS.iad i hc
   have hts:=take_snoc (zAQ 3 h s to sp) i (by omega)
   rw[zBC] at hts
   generalize sp[i]=x at *
   obtain⟨rfl,hok⟩:=hr
   have hwN:N.wm≤N.size:=by rw[wm];exact Nat.le_trans hw le
   have kX:=((Kept.refl w).add (.row false (spR ⟨Eid.z,0⟩))).upd hwN (Nat.le_refl _) (.row false (spR x))
   simp (disch:=try exact SX) only[RV,seval,g1,g4,g7,g8,g9,q1,hiad]
   refine zPF (d:=d) (x:=x) kX.wf (by rw[kX.wm];exact Nat.le_trans hwN kX.le) ((kX.get bh (by omega)).trans ((kp bh l1).trans m1)) ((kX.get bs (by omega)).trans ((kp bs l2).trans m2)) ((kX.get bt (by omega)).trans ((kp bt l3).trans m3)) hs (by omega) fun N2 k2=>?_
   have w2:=k2.wf
   have k3:=kX.trans k2
   have le2:=k2.le
   simp only[upd_size,add_size] at le2
   have smX:SlM N2 17 isOp o ((zAQ 3 h s to sp).take i):=sm.keep fun j hj=>k3.get j (sm.lt j hj)
   simp (disch:=try exact SX) only[RV,seval,fillA]
   refine⟨rows_lt smX.rl (by omega), ?_⟩
   have hook:(⟨3,h,s+i,x,Eid.z,to,[]⟩:Op).ok:=⟨by show (0:Int)≤3∧(3:Int)≤255;decide,hho,by show -9223372036854775808≤s+(i:Int)∧s+(i:Int)≤9223372036854775807;omega,hok,Eid.z_ok,hto,fun _ h=>by cases h⟩
   refine app1 (bytes:=112) (x:=⟨3,h,s+i,x,Eid.z,to,[]⟩) w2 smX zDJ ⟨NIL,rfl,.inl ⟨rfl,rfl⟩,hook⟩ rfl (by omega) (by omega) (by omega) fun p2 M2 m2' wf2 le3 kp2 nw2 wm2 rl2 on2 oc2=>?_
   exact zB0a
  ·exact zB0f
def rsE (l:List Op)(h:Hd)(s k m:Int)(to:Lb):Int:=if edE l h s=0 then (if to.may=true then (if espE l h.lb k m=0 then (if h.lb.leq to=true then (if (zAQ 3 h s to (spansOf ((midC l h.lb k m).map (·.id)))).all (fun o=>chfB l o)=true then 0 else 230) else 2) else espE l h.lb k m) else 8) else edE l h s
def rsK (l:List Op)(h:Hd)(s k m:Int)(to:Lb)(r:AV):Prop:=∃ r1,r = .tup [r1,I64 (rsE l h s k m to)]∧Sl 17 isOp r1 (if rsE l h s k m to=0 then zAQ 3 h s to (spansOf ((midC l h.lb k m).map (·.id))) else [])
theorem zL7 {h:Hd}{s k m:Int}{to:Lb}(hS:Sl 17 isOp a l)(hho:h.ok)(hto:to.ok)(hl:l.length≤200)(hf:3200000<fuel)(hd:∀ o∈l,o.rs.length≤1000000000):∃ r,rsK l h s k m to r ∧ ∀ M,zCN fuel (d+21) 10 [a,hdA h,I64 s,I64 k,I64 m,lbA to] M=some (r,M):=by
 have hask:=fun M=>zD6 (fuel:=fuel) (d:=d+5) (h:=h) (s:=s) hS (by omega) (by omega) M
 have hlc:=fun M=>@zBR fuel (d+19) to M
 have hlq:=fun M=>@zCK fuel (d+19) h.lb to M
 obtain⟨rv,⟨r1,rfl,hr1⟩,hsp⟩:=zEZ (fuel:=fuel) (d:=d) (h:=h) (k:=k) (m:=m) hS hl hf hd
 refine gc_ex tf10 rfl (fun M=>by simp only[icyL,fun M=>hS.icy M 12 (by omega),fz_icyA (zAG h) (show 1<12 by omega),fz_icyA (zA8 to) (show 1<12 by omega),icy12]) ?_
 refine call_gc tf10 rfl (by simp only[icyL,fun M=>hS.icy M 12 (by omega),fz_icyA (zAG h) (show 1<12 by omega),fz_icyA (zA8 to) (show 1<12 by omega),icy12]) (by simp [a10]) fun b' ht hx=>?_
 obtain⟨h0,h1,h2⟩:=hx3 hx
 have h3:=hx 3 _ rfl
 have h4:=hx 4 _ rfl
 have h5:=hx 5 _ rfl
 clear hx
 simp only[a10,c10] at ht ⊢
 unfold rsK rsE
 by_cases q1:edE l h s=0
 ·obtain⟨e1,e2,e3,e4⟩:=ed_z q1
  simp only[q1,if_true]
  rw[q1] at hask
  cases q2:to.may with
  | false =>
   rw[q2] at hlc
   have e8:((8:Int)=0)=False:=by decide
   simp only[Bool.false_eq_true,if_false,e8]
   simp (disch:=try exact SX) only[RV,seval,h0,h1,h2,h5,hask,hlc,zAC]
   exact zB04
  | true =>
   rw[q2] at hlc
   simp only[if_true]
   by_cases q3:espE l h.lb k m=0
   ·obtain⟨f1,f2⟩:=zK8 q3
    have hnl:=zEB (l:=l) (v:=h.lb) (k:=k) f1
    rw[q3] at hr1 hsp
    simp only[if_true] at hr1
    simp only[q3,if_true]
    generalize spansOf ((midC l h.lb k m).map (·.id))=sp at *
    have lr1:=hr1.len
    cases q4:h.lb.leq to with
    | false =>
     rw[q4] at hlq
     have e2':((2:Int)=0)=False:=by decide
     simp only[Bool.false_eq_true,if_false,e2']
     simp (disch:=try exact SX) only[RV,seval,h0,h1,h2,h3,h4,h5,hask,hlc,hsp,hlq,zA4]
     exact zB04
    | true =>
     rw[q4] at hlq
     simp only[if_true]
     simp (disch:=try exact SX) only[RV,seval,h0,h1,h2,h3,h4,h5,hask,hlc,hsp,hlq,zA4]
     refine zLX (d:=d+18) (bh:=0) (bs:=1) (bt:=2) (to:=to) hr1 hnl (by omega) hho hto (((Wf.mem0.add _).add _).add _) (Nat.zero_le _) (by simp (disch:=try exact SX) only[RV]) (by simp (disch:=try exact SX) only[RV]) (by simp (disch:=try exact SX) only[RV]) ⟨e3,by omega⟩ fun o N2 w2 le2 k2 sm2 wm2=>?_
     have hol:=zB5 3 h s to sp
     have lo:=sm2.len
     generalize zAQ 3 h s to sp=L at *
     simp (disch:=try exact SX) only[RV,seval,lo]
     refine w_loop (I:=fun nq tq Nq => ∃ (iq:Nat) (_x:Nat),nq=L.length - iq∧iq≤L.length∧nth undefA tq 0=a∧nth undefA tq 17=I64 0∧nth undefA tq 18=o∧nth undefA tq 58=o∧nth undefA tq 59=I64 L.length∧nth undefA tq 60=I64 iq∧Wf Nq∧SlM Nq 17 isOp o L∧(∀ j (hj:j<L.length),j<iq→chfB l L[j]=true)) (n:=L.length) (by omega) ?_ ?_
     ·refine⟨0,0,rfl,Nat.zero_le _, ?_, ?_, ?_, ?_, ?_, ?_,w2,sm2,(fun j _ h=>absurd h (by omega))⟩ <;> simp (disch:=try exact SX) only[RV,seval,h0]
      all_goals first | rfl | assumption | done
     ·rintro nq tq Nq hltq ⟨iq,_x,rfl,hiq,gq0,gq17,gq18,gq58,gq59,gq60,w,sm,ha⟩
      simp only[ht] at hltq ⊢
      by_cases hc:iq<L.length
      ·have c1:decide ((iq:Int)<L.length)=true:=DT
       have w1:IntKind.i64.wrap ((iq:Int)+1)=((iq+1:Nat):Int):=WI
       obtain⟨id,cs,r,hrow,lid,hg,hcs,hiad,hr,hrl,hpt,_⟩:=sm.atS hc
       have hx:L[iq]∈L:=List.getElem_mem hc
       have hsnoc:chfB l L[iq]=true → ∀ j (hj:j<L.length),j<iq+1→chfB l L[j]=true:=fun e j hj h=>by
        exact zB0v
       generalize L[iq]=x at *
       obtain⟨ra,rfl,hra,hok⟩:=hr
       have ora:=hra.one
       simp (disch:=try exact SX) only[RV,seval,gq0,gq58,gq59,gq60,c1,hiad,hg,hpt]
       have kX:∀ z r,Wf ((Nq.add z).upd Nq.size r):=fun z r=>(w.add z).upd _ _
       refine zHX (d:=d+10) (.inl hS) (by omega) (by omega) hra hok (kX _ _) fun N3 k3=>?_
       have w3:=k3.wf
       have sm3:SlM N3 17 isOp o L:=sm.keep fun j hj=>by
        have:=sm.lt j hj
        rw[k3.get j (by simp only[upd_size,add_size];omega),get_upd_ne (w.add _) _ _ _ (by omega),get_add w _ _ this]
       cases qb:chfB l x with
       | true =>
        simp (disch:=try exact SX) only[RV,seval,gq0,gq17,gq18,gq58,gq59,gq60,w3,w1]
        exact⟨hltq,L.length - (iq+1),by omega,iq+1,0,rfl,by omega,rfl,sm3,hsnoc qb⟩
       | false =>
        have qa:L.all (fun o=>chfB l o)=false:=by
         rw[← Bool.not_eq_true]
         intro hh
         have:=List.all_eq_true.1 hh x hx
         rw[qb] at this
         cases this
        have e8:((230:Int)=0)=False:=by decide
        simp only[qa,Bool.false_eq_true,if_false,e8]
        simp (disch:=try exact SX) only[RV,seval,gq17,gq18]
        exact zB04
      ·obtain rfl:iq=L.length:=by omega
       have qa:L.all (fun o=>chfB l o)=true:=List.all_eq_true.2 fun x hx=>by
        obtain⟨j,hj,rfl⟩:=List.getElem_of_mem hx
        exact ha j hj hj
       simp only[qa,if_true]
       obtain⟨ro,hz,hs⟩:=sm.frz zDJ.cel (k:=12) (by omega)
       simp (disch:=try exact SX) only[RV,seval,gq17,gq18,gq59,gq60,hz]
       exact zB0W
   ·have q3':=decide_eq_false q3
    rw[if_neg q3] at hr1
    simp only[q3,if_false]
    simp (disch:=try exact SX) only[RV,seval,h0,h1,h2,h3,h4,h5,hask,hlc,hsp,zA4,q3']
    exact zB04
 ·have q1':=decide_eq_false q1
  exact zB0V
theorem zIW {o:Op}(hh:zA1 [] l=true)(hm:o.may=true):chfB l o=zAL l o:=by
 have e:chfE l o=0:=by
  unfold chfE
  rw[zB0 hh,if_pos rfl,hm]
  rfl
 unfold chfB
 rw[e]
 rfl
theorem zFU {h:Hd}{s k m:Int}{to:Lb}(he0:edE l h s=0)(htm:to.may=true)(hS:Sl 17 isOp a l)(hho:h.ok)(hto:to.ok)(hl:l.length≤200)(hf:100000<fuel):∃ r,rsK l h s k m to r ∧ ∀ M,zCN fuel (d+7) 30 [a,hdA h,I64 s,I64 k,I64 m,lbA to] M=some (r,M):=by
 obtain⟨e1,e2,e3,e4⟩:=ed_z he0
 obtain⟨rv,⟨r1,rfl,hr1⟩,hsp⟩:=zDH (fuel:=fuel) (d:=d) (v:=h.lb) (k:=k) (m:=m) e1 (zI5 e2) hS hho.1 hl hf
 have hlq:=fun M=>zB6 (fuel:=fuel) (d:=d+4) h.lb to hho.1 hto (by omega) M
 have hmo:=zBI e1
 refine gc_ex tf30 rfl (fun M=>by simp only[icyL,fun M=>hS.icy M 12 (by omega),fz_icyA (zAG h) (show 1<12 by omega),fz_icyA (zA8 to) (show 1<12 by omega),icy12]) ?_
 refine call_gc tf30 rfl (by simp only[icyL,fun M=>hS.icy M 12 (by omega),fz_icyA (zAG h) (show 1<12 by omega),fz_icyA (zA8 to) (show 1<12 by omega),icy12]) (by simp [a30]) fun b' ht hx=>?_
 obtain⟨h0,h1,h2⟩:=hx3 hx
 have h3:=hx 3 _ rfl
 have h4:=hx 4 _ rfl
 have h5:=hx 5 _ rfl
 clear hx
 simp only[a30,c30] at ht ⊢
 unfold rsK rsE
 simp only[he0,htm,if_true]
 by_cases q2:espE l h.lb k m=0
 ·obtain⟨f1,f2⟩:=zK8 q2
  have hnl:=zEB (l:=l) (v:=h.lb) (k:=k) f1
  have hml:=zIC (l:=l) (v:=h.lb) (k:=k) f1
  have hmm:=zKS (l:=l) (v:=h.lb) (k:=k) (m:=m) e1
  rw[q2] at hr1 hsp
  simp only[if_true] at hr1
  simp only[q2,if_true]
  generalize midC l h.lb k m=cs at *
  have lr1:=hr1.len
  obtain⟨r3,hr3,hof⟩:=zGP (fuel:=fuel) (d:=d+5) hr1 hmm (by omega) (by omega)
  have hsm:=(zDT (c:=cs.map (·.id)) (fun x hx=>by
   obtain⟨y,hy,rfl⟩:=List.mem_map.1 hx
   exact hmm y hy)).2
  have lr3:=hr3.len
  generalize spansOf (cs.map (·.id))=sp at *
  cases q4:h.lb.leq to with
  | false =>
   rw[q4] at hlq
   have e2':((2:Int)=0)=False:=by decide
   simp only[Bool.false_eq_true,if_false,e2']
   simp (disch:=try exact SX) only[RV,seval,h0,h1,h3,h4,h5,hsp,hlq]
   exact zB04
  | true =>
   rw[q4] at hlq
   simp only[if_true]
   have hol:=zB5 3 h s to sp
   have hmay:∀ i (hi:i<sp.length),(⟨3,h,s+i,sp[i],Eid.z,to,[]⟩:Op).may=true:=fun i hi=>zP8 (.inr ⟨rfl,htm⟩) e2 ⟨by omega,by omega⟩ (hsm _ (List.getElem_mem hi))
   simp (disch:=try exact SX) only[RV,seval,h0,h1,h3,h4,h5,hsp,hlq,hof]
   refine w_loop (I:=fun nq tq Nq => ∃ (iq:Nat) (o:AV),nq=sp.length - iq∧iq≤sp.length∧nth undefA tq 0=a∧nth undefA tq 2=I64 s∧nth undefA tq 7 = .ptr 0 0∧nth undefA tq 11 = .ptr 1 0∧nth undefA tq 16=o∧nth undefA tq 17=r3∧nth undefA tq 18=I64 iq∧Wf Nq∧2≤Nq.size∧Nq.get 0=some (.row false (hdR h))∧Nq.get 1=some (.row false (lbR to))∧(∀ j,rowOf o=some j→2≤j)∧(∀ j (hj:j<sp.length),j<iq→chfB l ⟨3,h,s+j,sp[j],Eid.z,to,[]⟩=true)∧SlM Nq 17 isOp o ((zAQ 3 h s to sp).take iq)) (n:=sp.length) (by omega) ?_ ?_
   ·refine⟨0,NIL,rfl,Nat.zero_le _, ?_, ?_, ?_, ?_, ?_, ?_, ?_,(Wf.mem0.add _).add _,Nat.le_refl 2,by simp (disch:=try exact SX) only[RV],by simp (disch:=try exact SX) only[RV],(fun _ h=>by cases h),(fun j _ h=>absurd h (by omega)),SlM.nil⟩ <;> simp (disch:=try exact SX) only[RV,seval,h0,h2]
    all_goals first | rfl | assumption | done
   ·rintro nq tq Nq hltq ⟨iq,o,rfl,hiq,gq0,gq2,gq7,gq11,gq16,gq17,gq18,w,le,m0,m1,nr,ha,sm⟩
    simp only[ht] at hltq ⊢
    have l0:0<Nq.size:=by omega
    have l1:1<Nq.size:=by omega
    have hll:((zAQ 3 h s to sp).take iq).length≤64:=by rw[List.length_take];omega
    by_cases hc2:iq<sp.length
    ·have q1:decide ((iq:Int)<sp.length)=true:=DT
     have w1:IntKind.i64.wrap ((iq:Int)+1)=((iq+1:Nat):Int):=WI
     have w2:IntKind.i64.wrap (s+(iq:Int))=s+iq:=WI
     obtain⟨r,hiad,hr,hrl⟩:=hr3.iad iq hc2
     have hts:=take_snoc (zAQ 3 h s to sp) iq (by omega)
     rw[zBC] at hts
     have hmx:=hmay iq hc2
     have hsnoc:chfB l ⟨3,h,s+iq,sp[iq],Eid.z,to,[]⟩=true → ∀ j (hj:j<sp.length),j<iq+1→chfB l ⟨3,h,s+j,sp[j],Eid.z,to,[]⟩=true:=fun e j hj hji=>by
      by_cases hjq:j=iq
      ·subst hjq;exact e
      ·exact ha j hj (by omega)
     have hall:chfB l ⟨3,h,s+iq,sp[iq],Eid.z,to,[]⟩=false→(zAQ 3 h s to sp).all (fun o=>chfB l o)=false:=fun e=>by
      rw[← Bool.not_eq_true]
      intro hh
      have:=List.all_eq_true.1 hh ((zAQ 3 h s to sp)[iq]'(by omega)) (List.getElem_mem _)
      rw[zBC,e] at this
      cases this
     generalize sp[iq]=x at *
     obtain⟨rfl,hok⟩:=hr
     have hook:(⟨3,h,s+iq,x,Eid.z,to,[]⟩:Op).ok:=⟨by show (0:Int)≤3∧(3:Int)≤255;decide,hho,by show -9223372036854775808≤s+(iq:Int)∧s+(iq:Int)≤9223372036854775807;omega,hok,Eid.z_ok,hto,fun _ h=>by cases h⟩
     have hri:=fun M=>zDG (fuel:=fuel) (d:=d+1) (ra:=NIL) (o:=⟨3,h,s+iq,x,Eid.z,to,[]⟩) hS (.inl ⟨rfl,rfl⟩) hook hmo hmx (by omega) (by omega) M
     rw[zIW e1 hmx] at hsnoc hall
     have rlo:=rows_lt sm.rl (Nat.le_refl Nq.size)
     have rlo2:=rows_lt sm.rl (show Nq.size≤Nq.size+1 by omega)
     cases qr:zAL l ⟨3,h,s+iq,x,Eid.z,to,[]⟩ with
     | true =>
      rw[qr] at hri
      simp (disch:=try exact SX) only[RV,seval,fillA,gq0,gq2,gq7,gq11,gq16,gq17,gq18,lr3,q1,hiad,m0,m1,w2,↓zH3,zFB,hri]
      have gX:∀ z r j,j<Nq.size→((Nq.add z).upd Nq.size r).get j=Nq.get j:=fun z r j hj=>by
       exact zB0T
      refine⟨rows_lt sm.rl (by omega), ?_⟩
      refine app1 (bytes:=112) (x:=⟨3,h,s+iq,x,Eid.z,to,[]⟩) ((w.add _).upd _ _) (sm.keep fun j hj=>gX _ _ j (sm.lt j hj)) zDJ ⟨NIL,rfl,.inl ⟨rfl,rfl⟩,hook⟩ rfl (by omega) (by omega) (by omega) fun p2 M2 m2' wf2 le3 kp2 nw2 wm2 rl2 on2 oc2=>?_
      simp only[upd_size,add_size] at le3 kp2 nw2
      simp (disch:=try exact SX) only[RV,seval,gq0,gq2,gq7,gq11,gq16,gq17,gq18,wf2,w1]
      refine⟨hltq,sp.length - (iq+1),by omega,iq+1,p2,rfl,by omega,rfl,rfl,by omega, ?_, ?_,fun j hj=>?_,hsnoc qr,by rw[hts];exact m2'⟩
      ·rw[kp2 0 (by omega) (fun h=>by have:=nr _ h;omega),gX _ _ 0 (by omega)];exact m0
      ·rw[kp2 1 (by omega) (fun h=>by have:=nr _ h;omega),gX _ _ 1 (by omega)];exact m1
      ·rcases nw2 j hj with h | h
       ·exact nr j h
       ·omega
     | false =>
      rw[qr] at hri
      have qa:=hall qr
      have e8:((230:Int)=0)=False:=by decide
      simp only[qa,Bool.false_eq_true,if_false,e8]
      simp (disch:=try exact SX) only[RV,seval,gq0,gq2,gq7,gq11,gq17,gq18,lr3,q1,hiad,m0,m1,w2,↓zH3,zFB,hri]
      exact zB04
    ·obtain rfl:iq=sp.length:=by omega
     have q1:decide ((sp.length:Int)<sp.length)=false:=DF
     rw[List.take_of_length_le (by omega)] at sm
     have qa:(zAQ 3 h s to sp).all (fun o=>chfB l o)=true:=List.all_eq_true.2 fun x hx=>by
      obtain⟨j,hj,rfl⟩:=List.getElem_of_mem hx
      rw[zBC]
      exact ha j (by omega) (by omega)
     simp only[qa,if_true]
     obtain⟨ro,hz,hs⟩:=sm.frz zDJ.cel (k:=12) (by omega)
     simp (disch:=try exact SX) only[RV,seval,gq16,gq17,gq18,lr3,hz]
     exact zB0W
 ·have q2':=decide_eq_false q2
  rw[if_neg q2] at hr1
  simp only[q2,if_false]
  simp (disch:=try exact SX) only[RV,seval,h0,h1,h3,h4,h5,hsp,q2']
  exact zB04
theorem zLB {a b:AV}{l m:List Int}(ha:Sl 1 zA3 a l)(hb:Sl 1 zA3 b m)(hf:l.length<fuel)(hl:l.length≤1000000000)(M:Mem) :
  zCN fuel (d+1) 31 [a,b] M=some (BL (decide (l=m)),M):=by
 have hla:=ha.len
 have hlb:=hb.len
 apply w3_eq
 refine call_gc tf31 rfl (by simp (disch:=try exact SX) only[icyL,ha.fz.icy,hb.fz.icy]) (by simp [a31]) fun b' ht hx=>?_
 obtain⟨h0,h1⟩:=hx2 hx
 clear hx
 simp only[a31,c31] at ht ⊢
 by_cases hll:l.length=m.length
 ·have q1:decide ((l.length:Int)=m.length)=true:=by simp;omega
  simp (disch:=try exact SX) only[RV,seval,h0,h1,hla,hlb,q1]
  refine w_loop (I:=fun n t N => ∃ (i:Nat),n=l.length - i∧i≤l.length∧nth undefA t 0=a∧nth undefA t 1=b∧nth undefA t 5=I64 i∧l.take i=m.take i) (n:=l.length) (by omega) ?_ ?_
  ·refine⟨0,rfl,Nat.zero_le _, ?_, ?_, ?_,rfl⟩ <;> simp (disch:=try exact SX) only[RV,seval,h0,h1]
   all_goals first | rfl | assumption | done
  ·rintro n t N hlt ⟨i,rfl,hi,g0,g1,g5,tk⟩
   simp only[ht] at hlt ⊢
   by_cases hlt':i<l.length
   ·have hc':decide ((i:Int)<l.length)=true:=by simp;omega
    have hmt:i<m.length:=by omega
    have w1:IntKind.i64.wrap ((i:Int)+1)=((i+1:Nat):Int):=WI
    obtain⟨r,hr,rfl,_⟩:=ha.iad i hlt'
    obtain⟨r2,hr2,rfl,_⟩:=hb.iad i hmt
    by_cases he:l[i]=m[i]
    ·have q2:decide (l[i]=m[i])=true:=by simp [he]
     simp (disch:=try exact SX) only[RV,seval,g0,g1,g5,hla,hc',hr,hr2,w1,q2]
     exact zB0l
    ·have q2:decide (l[i]=m[i])=false:=by simp [he]
     simp (disch:=try exact SX) only[RV,seval,g0,g1,g5,hla,hc',hr,hr2,q2]
     exact zB0H
   ·have hc':decide ((i:Int)<l.length)=false:=by simp;omega
    simp (disch:=try exact SX) only[RV,seval,g0,g5,hla,hc']
    exact zB0h
 ·exact zB0e
def opEq (o p:Op):Bool:=decide (o.kd=p.kd)&&decide (o.hd=p.hd)&&decide (o.sr=p.sr)&&decide (o.sp=p.sp)&&decide (o.af=p.af)&&decide (o.to=p.to)&&decide (o.rs=p.rs)
theorem zII (o p:Op):opEq o p=true↔o=p:=by
 obtain⟨a1,a2,a3,a4,a5,a6,a7⟩:=o
 obtain⟨b1,b2,b3,b4,b5,b6,b7⟩:=p
 simp [opEq,and_assoc]
theorem zF3 {o p:Op}{ra rb:AV}(hR:Sl 1 zA3 ra o.rs)(hP:Sl 1 zA3 rb p.rs)(hl:o.rs.length≤1000000000)(hf:o.rs.length<fuel)(M:Mem):zCN fuel (d+2) 12 [.agg (opR o ra),.agg (opR p rb)] M=some (BL (opEq o p),M):=by
 have hs:=fun M=>zLB (fuel:=fuel) (d:=d) hR hP hf hl M
 apply w3_eq
 refine call_gc tf12 rfl (by simp only[icyL,zCH hR.fz,zCH hP.fz]) (by simp [a12]) fun b' ht hx=>?_
 obtain⟨h0,h1⟩:=hx2 hx
 clear hx
 simp only[a12,c12] at ht ⊢
 unfold opEq
 cases q1:decide (o.kd=p.kd)
 ·simp (disch:=try exact SX) only[RV,seval,h0,h1,q1,Bool.false_and,sc_ex]
 cases q2:decide (o.hd=p.hd)
 ·simp (disch:=try exact SX) only[RV,seval,h0,h1,↓pHdE,zAD,ETA,q1,q2,Bool.false_and,sc_ex]
 cases q3:decide (o.sr=p.sr)
 ·simp (disch:=try exact SX) only[RV,seval,h0,h1,↓pHdE,zAD,ETA,q1,q2,q3,Bool.false_and,sc_ex]
 cases q4:decide (o.sp=p.sp)
 ·simp (disch:=try exact SX) only[RV,seval,h0,h1,↓pHdE,zAD,↓pSpE,zBD,ETA,q1,q2,q3,q4,Bool.false_and,sc_ex]
 cases q5:decide (o.af=p.af)
 ·simp (disch:=try exact SX) only[RV,seval,h0,h1,↓pIdE,zA0,↓pHdE,zAD,↓pSpE,zBD,ETA,q1,q2,q3,q4,q5,Bool.false_and,sc_ex]
 cases q6:decide (o.to=p.to)
 ·simp (disch:=try exact SX) only[RV,seval,h0,h1,↓pIdE,zA0,↓pHdE,zAD,↓pLbE,zA6,↓pSpE,zBD,ETA,q1,q2,q3,q4,q5,q6,Bool.false_and,sc_ex]
 ·simp (disch:=try exact SX) only[RV,seval,h0,h1,↓pIdE,zA0,↓pHdE,zAD,↓pLbE,zA6,↓pSpE,zBD,ETA,q1,q2,q3,q4,q5,q6,hs,sc_ex]
def zKY (l m:List Op):Bool:=eqL opEq l m
theorem zED {l m:List Op}:zKY l m=true↔l=m:=eqL_eq zII
theorem zCR {a b:AV}{l m:List Op}(h1':Sl 17 isOp a l)(h2':Sl 17 isOp b m)(hl:l.length≤1000000)(hc:∀ o∈l,o.rs.length≤1000000000∧o.rs.length<fuel)(hf:l.length<fuel)(M:Mem):zCN fuel (d+3) 13 [a,b] M=some (BL (zKY l m),M):=by
 have la:=h1'.len
 have lb:=h2'.len
 apply w3_eq
 refine call_gc tf13 rfl (by simp (disch:=try exact SX) only[icyL,h1'.fz.icy,h2'.fz.icy]) (by simp [a13]) fun b' ht hx=>?_
 obtain⟨h0,h1⟩:=hx2 hx
 clear hx
 simp only[a13,c13] at ht ⊢
 by_cases q:l.length=m.length
 ·have q0:decide ((l.length:Int)=m.length)=true:=DT
  simp (disch:=try exact SX) only[RV,seval,h0,h1,la,lb,q0]
  refine w_loop (I:=fun n t N => ∃ (i:Nat),n=l.length - i∧i≤l.length∧nth undefA t 0=a∧nth undefA t 1=b∧nth undefA t 5=I64 i∧N=mem0∧(∀ j (x1:j<l.length) (x2:j<m.length),j<i→opEq l[j] m[j]=true)) (n:=l.length) (by omega) ?_ ?_
  ·refine⟨0,rfl,Nat.zero_le _, ?_, ?_, ?_,rfl,(fun _ _ _ h=>absurd h (by omega))⟩ <;> simp (disch:=try exact SX) only[RV,seval,h0,h1]
   all_goals first | rfl | assumption | done
  ·rintro n t N hlt ⟨i,rfl,hi,g0,g1,g5,hm,hj⟩
   simp only[ht] at hlt ⊢
   subst hm
   by_cases hc':i<l.length
   ·have q1:decide ((i:Int)<l.length)=true:=DT
    have hc2:i<m.length:=by omega
    obtain⟨r1,i1,⟨ra,hr1,s1,_⟩,hl1⟩:=h1'.iad i hc'
    obtain⟨r2,i2,⟨rb,hr2,s2,_⟩,hl2⟩:=h2'.iad i hc2
    have hcr:=hc l[i] (List.getElem_mem hc')
    have hp:=fun M=>zF3 (fuel:=fuel) (d:=d) s1 s2 hcr.1 hcr.2 M
    have w1:IntKind.i64.wrap ((i:Int)+1)=((i+1:Nat):Int):=WI
    subst hr1 hr2
    cases q2:opEq l[i] m[i] with
    | true =>
     rw[q2] at hp
     simp (disch:=try exact SX) only[RV,seval,g0,g1,g5,la,q1,i1,i2,w1,hp]
     exact⟨hlt,l.length - (i+1),by omega,i+1,rfl,by omega,rfl,fun j x1 x2 hj'=>by
      rcases Nat.lt_succ_iff_lt_or_eq.1 hj' with h | rfl
      ·exact hj j x1 x2 h
      ·exact q2⟩
    | false =>
     rw[q2] at hp
     have e:zKY l m=false:=eqL_at hc' hc2 q2
     simp (disch:=try exact SX) only[RV,seval,g0,g1,g5,la,q1,i1,i2,hp,e,sc_ex]
   ·obtain rfl:i=l.length:=by omega
    have e:zKY l m=true:=eqL_all q fun j x1 x2 _=>hj j x1 x2 x1
    simp (disch:=try exact SX) only[RV,seval,g0,g5,la,e,sc_ex]
 ·have q0:decide ((l.length:Int)=m.length)=false:=DF
  have e:zKY l m=false:=eqL_ne q
  simp (disch:=try exact SX) only[RV,seval,h0,h1,la,lb,q0,e,sc_ex]
def wO (o:Op):Int:=imax (imin (imax o.sp.n 0) 100) (imin (o.rs.length:Int) 1000)
def sumW (l:List Op):Int:=(l.map wO).sum
def zGA (l:List Op)(many:Int):Bool:=decide (many<l.length) || decide (300<sumW (l.take 300))
theorem zIS (o:Op):0≤wO o∧wO o≤1000∧((o.rs.length:Int)≤wO o∨1000≤wO o):=by
 unfold wO imax imin
 repeat' split
 all_goals omega
theorem sumW_snoc (l:List Op)(o:Op):sumW (l++[o])=sumW l+wO o:=by unfold sumW;simp
theorem zFY:∀ (l:List Op),0≤sumW l∧sumW l≤1000*l.length
 | []=>by simp [sumW]
 | o::l=>by
  have h1:=zFY l
  have h2:=zIS o
  unfold sumW at *
  simp only[List.map_cons,List.sum_cons,List.length_cons]
  omega
theorem zIP:∀ (l:List Op) (o:Op),o∈l→wO o≤sumW l
 | [],_,h=>by cases h
 | p::l,o,h=>by
  have h1:=zFY l
  have h2:=zIS p
  rcases List.mem_cons.1 h with rfl | h
  ·unfold sumW at *;simp only[List.map_cons,List.sum_cons];omega
  ·have:=zIP l o h
   unfold sumW at *;simp only[List.map_cons,List.sum_cons];omega
theorem zH8 {many:Int}(hm:many≤300)(h:zGA l many=false):(l.length:Int)≤many ∧ ∀ o∈l,o.rs.length≤300:=by
 unfold zGA at h
 simp only[Bool.or_eq_false_iff,decide_eq_false_iff_not] at h
 refine⟨by omega,fun o ho=>?_⟩
 have ht:l.take 300=l:=List.take_of_length_le (by omega)
 rw[ht] at h
 have:=zIP l o ho
 have:=zIS o
 omega
theorem zKE {many:Int}(hS:Sl 17 isOp a l)(hf:400<fuel)(M:Mem):zCN fuel (d+1) 4 [a,I64 many] M=some (BL (zGA l many),M):=by
 have ll:=hS.len
 apply w3_eq
 refine call_gc tf4 rfl (by simp only[icyL,fun M=>hS.icy M 12 (by omega),icy12]) (by simp [a4]) fun b' ht hx=>?_
 obtain⟨h0,h1⟩:=hx2 hx
 clear hx
 simp only[a4,c4] at ht ⊢
 unfold zGA
 simp (disch:=try exact SX) only[RV]
 refine w_loop (I:=fun n t N => ∃ (i:Nat),n=300 - i∧i≤300∧nth undefA t 0=a∧nth undefA t 1=I64 many∧nth undefA t 5=I64 (sumW (l.take i))∧nth undefA t 6=I64 i∧N=mem0∧i≤l.length) (n:=300) (by omega) ?_ ?_
 ·refine⟨0,rfl,Nat.zero_le _, ?_, ?_, ?_, ?_,rfl,Nat.zero_le _⟩ <;> simp (disch:=try exact SX) only[RV,reduceIte,Nat.reduceEqDiff,h0,h1]
  all_goals first | rfl | assumption | done
 ·rintro n t N hlt ⟨i,rfl,hi,g0,g1,g5,g6,hm,hil⟩
  simp only[ht] at hlt ⊢
  subst hm
  by_cases hc:i<l.length
  ·have q1:decide ((i:Int)<l.length)=true:=DT
   by_cases hc3:i<300
   ·have q2:decide ((i:Int)<300)=true:=DT
    have w1:IntKind.i64.wrap ((i:Int)+1)=((i+1:Nat):Int):=WI
    obtain⟨r,hiad,hr,hrl⟩:=hS.iad i hc
    have hsn:=sumW_snoc (l.take i) l[i]
    rw[← take_snoc l i hc] at hsn
    have hps:=zFY (l.take i)
    rw[List.length_take] at hps
    have hwo:=zIS l[i]
    generalize l[i]=e at *
    obtain⟨ra,rfl,hra,hok⟩:=hr
    have lra:=hra.len
    have w2:IntKind.i64.wrap (sumW (l.take i)+wO e)=sumW (l.take (i+1)):=by rw[hsn];exact wrap_i64 (by omega) (by omega)
    simp (disch:=try exact SX) only[RV,reduceIte,Nat.reduceEqDiff,Nat.reduceBEq,Nat.reduceAdd,g0,g1,g5,g6,ll,q1,q2,w1,hiad,lra,pB_max2,BMM]
    refine⟨hlt,300 - (i+1),by omega,i+1,rfl,by omega, ?_,rfl,by omega⟩
    show AV.sc (.int .i64 (IntKind.i64.wrap (sumW (l.take i)+wO e)))=I64 _
    rw[w2]
   ·have q2:decide ((i:Int)<300)=false:=DF
    obtain rfl:i=300:=by omega
    cases q3:decide (many<(l.length:Int))
    all_goals simp (disch:=try exact SX) only[RV,reduceIte,Nat.reduceEqDiff,Nat.reduceSub,g0,g1,g5,g6,ll,q1,q2,q3]
  ·have q1:decide ((i:Int)<l.length)=false:=DF
   obtain rfl:i=l.length:=by omega
   have et:l.take 300=l.take l.length:=by rw[List.take_of_length_le (Nat.le_refl _),List.take_of_length_le (by omega)]
   rw[et]
   cases q3:decide (many<(l.length:Int))
   all_goals simp (disch:=try exact SX) only[RV,reduceIte,Nat.reduceEqDiff,g0,g1,g5,g6,ll,q3]
theorem zOJ {o:Op}{ra:AV}(hS:Sl 1 zA3 ra o.rs)(hl:o.rs.length≤1000000000)(wf:Wf M)(hw:M.wm≤M.size)(k:∀ a' N,Wf N→M.size≤N.size→(∀ j,j<M.size→N.get j=M.get j)→SlM N 1 zA3 a' o.rs→(∀ id,rowOf a'=some id→M.size≤id)→N.wm=M.wm→Q (.agg (opR o a')) N) :
  W3 (zCN fuel (d+1) 14 [.agg (opR o ra)] M) Q:=by
 have hwf:=wf
 refine call_0 tf14 rfl (by simp [a14]) fun b' ht hx=>?_
 have h0:=hx 0 _ rfl
 clear hx
 simp only[a14,c14] at ht ⊢
 simp (disch:=try exact SX) only[RV,seval,h0,hS.fz.rows]
 refine w3_app (by simp (disch:=try exact SX) only[RV,wf]) SlM.nil zBQ.cel hS (by omega) (by simp;omega) (by simp;omega) fun a' N m' w' le' sz' kp' nw' wm' rl' on' oc'=>?_
 simp only[add_size] at le' kp' nw'
 rw[List.nil_append] at m'
 have g0:N.get M.size=some (.row false (opR o ra)):=by rw[kp' _ (by omega) (by simp [rowOf])];simp (disch:=try exact SX) only[RV]
 have g1:N.get (M.size+1)=some (.row false (opR ⟨0,Hd.z,0,⟨Eid.z,0⟩,Eid.z,Lb.z,[]⟩ NIL)):=by rw[kp' _ (by omega) (by simp [rowOf])];simp (disch:=try exact SX) only[RV]
 have nr:∀ id,rowOf a'=some id→M.size+2≤id:=fun id h=>by
  rcases nw' id h with h' | h'
  ·cases h'
  ·omega
 have z0:M.size<N.size:=by omega
 have z1:M.size+1<N.size:=by omega
 simp (disch:=try exact SX) only[RV,seval,g0,g1,oc']
 refine k a' _ ((w'.upd _ _).upd _ _) (by simp only[upd_size];omega) (fun j hj=>?_) (m'.keep fun j hj=>?_) (fun id h=>by have:=nr id h;omega) wm'
 ·rw[get_upd_ne (w'.upd _ _) _ _ _ (by omega),get_upd_ne w' _ _ _ (by omega),kp' j (by omega) (by simp [rowOf]),get_add (wf.add _) _ _ (by rw[add_size];omega),get_add wf _ _ hj]
 ·have:=nr j hj
  rw[get_upd_ne (w'.upd _ _) _ _ _ (by omega),get_upd_ne w' _ _ _ (by omega)]
theorem zHH (hS:Sl 17 isOp a l)(hl:l.length≤100000)(hd:∀ o∈l,o.rs.length≤1000000000)(hf:l.length+100<fuel):∃ r,Sl 17 isOp r l ∧ ∀ M,zCN fuel (d+2) 5 [a] M=some (r,M):=by
 have ll:=hS.len
 refine gc_ex tf5 rfl (fun M=>by simp only[icyL,fun M=>hS.icy M 12 (by omega)]) ?_
 refine call_gc tf5 rfl (by simp only[icyL,fun M=>hS.icy M 12 (by omega)]) (by simp [a5]) fun b' ht hx=>?_
 have h0:=hx 0 _ rfl
 clear hx
 simp only[a5,c5] at ht ⊢
 simp (disch:=try exact SX) only[RV]
 refine w_loop (I:=fun n t N => ∃ (i:Nat) (out:AV),n=l.length - i∧i≤l.length∧nth undefA t 0=a∧nth undefA t 3=out∧nth undefA t 4=I64 i∧Wf N∧N.wm=0∧opK.NN N 0 out (l.take i)) (n:=l.length) (by omega) ?_ ?_
 ·refine⟨0,NIL,rfl,Nat.zero_le _, ?_, ?_, ?_,Wf.mem0,rfl,NK.NN.nil _ _⟩ <;> simp (disch:=try exact SX) only[RV,seval,h0]
  all_goals first | rfl | assumption | done
 ·rintro n t N hlt ⟨i,out,rfl,hi,g0,g3,g4,w,wm,hN⟩
  simp only[ht] at hlt ⊢
  by_cases hc:i<l.length
  ·have q3:decide ((i:Int)<l.length)=true:=DT
   have w1:IntKind.i64.wrap ((i:Int)+1)=((i+1:Nat):Int):=WI
   obtain⟨r,hiad,hr,hrl⟩:=hS.iad i hc
   have hsn:=take_snoc l i hc
   have hlo:=hd l[i] (List.getElem_mem hc)
   generalize l[i]=e at *
   obtain⟨ra,rfl,hra,hok⟩:=hr
   simp (disch:=try exact SX) only[RV,seval,g0,g3,g4,ll,q3,hiad]
   refine zOJ (d:=d) hra hlo w (by omega) fun a' N2 w2 le2 kp2 sm2 nw2 wm2=>?_
   have oa2:=sm2.one
   have ca2:=sm2.cells
   have rr2:=hN.rows (show N.size≤N2.size+1 by omega)
   have hli:(l.take i).length≤i:=by rw[List.length_take];omega
   simp (disch:=try exact SX) only[RV,seval,fillA,rr2]
   refine NK.NN.app (K:=opK) (B:=0) (l:=l.take i) (x:=e) (ra:=a') w2 (hN.keep fun j a b=>kp2 j b) ⟨rfl,oa2,ca2⟩ ⟨sm2,fun j hj=>Nat.zero_le _,hok⟩ (fun j hj hj2=>by have h1:=hN.lt j hj;have h2:=nw2 j hj2;omega) (by omega) (by omega) (by omega) fun o' M' hN' w' le' kp' nw' wm'=>?_
   simp (disch:=try exact SX) only[RV,seval,g0,g3,g4,w1]
   exact⟨hlt,l.length - (i+1),by omega,i+1,o',rfl,by omega,rfl,rfl,w',by rw[wm',wm2];exact wm,by rw[hsn];exact hN'⟩
  ·obtain rfl:i=l.length:=by omega
   have q3:decide ((l.length:Int)<l.length)=false:=DF
   rw[List.take_length] at hN
   obtain⟨o',hz,hs⟩:=hN.frz (k:=11) (by omega)
   have hz:=hz N (fun _ _=>rfl)
   simp (disch:=try exact SX) only[RV,seval,g0,g3,g4,ll,hz]
   exact⟨o',zNM hs,rfl⟩
theorem zFT {h:Hd}{s k:Int}{t:List UInt8}(hS:Sl 17 isOp a l)(hho:h.ok)(ht1:t.length≤2000)(hl:l.length≤200)(hf:100000<fuel):∃ r,inK l h s k t r ∧ ∀ M,zCN fuel (d+9) 7 [a,hdA h,I64 s,I64 k,STR t] M=some (r,M):=by
 have hask:=fun M=>zC6 (fuel:=fuel) (d:=d) (h:=h) (s:=s) hS hl hf M
 by_cases q1:edE l h s=0
 ·obtain⟨r,⟨ra,hre,hr1⟩,hd⟩:=zEI (fuel:=fuel) (d:=d+2) (k:=k) (t:=t) q1 hS hho ht1 hl hf
  subst hre
  rw[q1] at hask
  have or1:=hr1.one
  refine gc_ex tf7 rfl (fun M=>by simp only[icyL,fun M=>hS.icy M 12 (by omega),fz_icyA (zAG h) (show 1<12 by omega),icy12]) ?_
  refine call_gc tf7 rfl (by simp only[icyL,fun M=>hS.icy M 12 (by omega),fz_icyA (zAG h) (show 1<12 by omega),icy12]) (by simp [a7]) fun b' ht hx=>?_
  obtain⟨h0,h1,h2⟩:=hx3 hx
  have h3:=hx 3 _ rfl
  have h4:=hx 4 _ rfl
  clear hx
  simp only[a7,c7] at ht ⊢
  simp (disch:=try exact SX) only[RV,seval,h0,h1,h2,h3,h4,hask,hd,hr1.fz.frz]
  exact⟨_,⟨ra,rfl,hr1⟩,rfl⟩
 ·have q1':=decide_eq_false q1
  have he:inE l h s k t=edE l h s:=by unfold inE;rw[if_neg q1]
  have:=zB8 he q1
  refine gc_ex tf7 rfl (fun M=>by simp only[icyL,fun M=>hS.icy M 12 (by omega),fz_icyA (zAG h) (show 1<12 by omega),icy12]) ?_
  refine call_gc tf7 rfl (by simp only[icyL,fun M=>hS.icy M 12 (by omega),fz_icyA (zAG h) (show 1<12 by omega),icy12]) (by simp [a7]) fun b' ht hx=>?_
  obtain⟨h0,h1,h2⟩:=hx3 hx
  clear hx
  simp only[a7,c7] at ht ⊢
  simp (disch:=try exact SX) only[RV,seval,fillA,h0,h1,h2,hask,q1']
  exact⟨_,this,rfl⟩
theorem zGQ {h:Hd}{s k m:Int}{to:Lb}(hS:Sl 17 isOp a l)(hho:h.ok)(hto:to.ok)(hl:l.length≤200)(hf:100000<fuel):∃ r,rsK l h s k m to r ∧ ∀ M,zCN fuel (d+9) 11 [a,hdA h,I64 s,I64 k,I64 m,lbA to] M=some (r,M):=by
 have hask:=fun M=>zC6 (fuel:=fuel) (d:=d) (h:=h) (s:=s) hS hl hf M
 have hmy:=fun M=>@zEG fuel (d+7) to M
 by_cases q1:edE l h s=0
 ·rw[q1] at hask
  cases q2:to.may with
  | true =>
   rw[q2] at hmy
   obtain⟨r,⟨r1,hre,hr1⟩,hd⟩:=zFU (fuel:=fuel) (d:=d+1) (k:=k) (m:=m) q1 q2 hS hho hto hl hf
   subst hre
   refine gc_ex tf11 rfl (fun M=>by simp only[icyL,fun M=>hS.icy M 12 (by omega),fz_icyA (zAG h) (show 1<12 by omega),fz_icyA (zA8 to) (show 1<12 by omega),icy12]) ?_
   refine call_gc tf11 rfl (by simp only[icyL,fun M=>hS.icy M 12 (by omega),fz_icyA (zAG h) (show 1<12 by omega),fz_icyA (zA8 to) (show 1<12 by omega),icy12]) (by simp [a11]) fun b' ht hx=>?_
   obtain⟨h0,h1,h2⟩:=hx3 hx
   have h3:=hx 3 _ rfl
   have h4:=hx 4 _ rfl
   have h5:=hx 5 _ rfl
   clear hx
   simp only[a11,c11] at ht ⊢
   simp (disch:=try exact SX) only[RV,seval,h0,h1,h2,h3,h4,h5,hask,hmy,hd,hr1.fz.frz]
   exact⟨_,⟨r1,rfl,hr1⟩,rfl⟩
  | false =>
   rw[q2] at hmy
   refine gc_ex tf11 rfl (fun M=>by simp only[icyL,fun M=>hS.icy M 12 (by omega),fz_icyA (zAG h) (show 1<12 by omega),fz_icyA (zA8 to) (show 1<12 by omega),icy12]) ?_
   refine call_gc tf11 rfl (by simp only[icyL,fun M=>hS.icy M 12 (by omega),fz_icyA (zAG h) (show 1<12 by omega),fz_icyA (zA8 to) (show 1<12 by omega),icy12]) (by simp [a11]) fun b' ht hx=>?_
   obtain⟨h0,h1,h2⟩:=hx3 hx
   have h5:=hx 5 _ rfl
   clear hx
   simp only[a11,c11] at ht ⊢
   unfold rsK rsE
   have e8:((8:Int)=0)=False:=by decide
   simp only[q1,q2,if_true,Bool.false_eq_true,if_false,e8]
   simp (disch:=try exact SX) only[RV,seval,h0,h1,h2,h5,hask,hmy]
   exact zB04
 ·have q1':=decide_eq_false q1
  refine gc_ex tf11 rfl (fun M=>by simp only[icyL,fun M=>hS.icy M 12 (by omega),fz_icyA (zAG h) (show 1<12 by omega),fz_icyA (zA8 to) (show 1<12 by omega),icy12]) ?_
  refine call_gc tf11 rfl (by simp only[icyL,fun M=>hS.icy M 12 (by omega),fz_icyA (zAG h) (show 1<12 by omega),fz_icyA (zA8 to) (show 1<12 by omega),icy12]) (by simp [a11]) fun b' ht hx=>?_
  obtain⟨h0,h1,h2⟩:=hx3 hx
  have h5:=hx 5 _ rfl
  clear hx
  simp only[a11,c11] at ht ⊢
  unfold rsK rsE
  exact zB0V
theorem zJ4 {s k m:Int}{h:Hd}{t:List UInt8}{to:Lb}(hS:Sl 17 isOp a l)(hho:h.ok)(hto:to.ok)(M:Mem):zCN 4000000 61 3 [a,hdA h,I64 s,I64 k,I64 m,STR t,lbA to] M=some (BL true,M):=by
 have hgr:=fun M=>zKE (fuel:=4000000) (d:=59) (many:=20) hS (by omega) M
 have ln:=fun t x r=>pLenS (P:=Tryz.prog) (t:=t) Tryz.underlying9 x r
 apply w3_eq
 refine call_gc tf3 rfl (by simp only[icyL,fun M=>hS.icy M 12 (by omega),fz_icyA (zA8 to) (show 1<12 by omega),fz_icyA (zAG h) (show 1<12 by omega),icy12]) (by simp [a3]) fun b' ht hx=>?_
 obtain⟨h0,h1,h2⟩:=hx3 hx
 have h3:=hx 3 _ rfl
 have h4:=hx 4 _ rfl
 have h5:=hx 5 _ rfl
 have h6:=hx 6 _ rfl
 clear hx
 simp only[a3,c3] at ht ⊢
 cases q1:zGA l 20 with
 | true =>
  rw[q1] at hgr
  simp (disch:=try exact SX) only[RV,seval,h0,h1,h6,hgr]
 | false =>
  rw[q1] at hgr
  by_cases q2:1000<t.length
  ·have q2':decide ((1000:Int)<t.length)=true:=DT
   simp (disch:=try exact SX) only[RV,seval,h0,h1,h5,h6,hgr,ln,str_size,q2']
  ·have q2':decide ((1000:Int)<t.length)=false:=DF
   obtain⟨hl25,hrs⟩:=zH8 (by omega) q1
   have hrs2:∀ o∈l,o.rs.length≤1000000000:=fun o ho=>by have:=hrs o ho;omega
   obtain⟨own,hown,hownr⟩:=zHH (fuel:=4000000) (d:=58) hS (by omega) hrs2 (by omega)
   obtain⟨_,⟨ra,rfl,hra⟩,hi1⟩:=zH5 (fuel:=4000000) (d:=39) (h:=h) (s:=s) (k:=k) (t:=t) hown (by omega) (by omega) (by omega) hrs2
   obtain⟨_,⟨rb,rfl,hrb⟩,hi2⟩:=zFT (fuel:=4000000) (d:=51) (h:=h) (s:=s) (k:=k) (t:=t) hS hho (by omega) (by omega) (by omega)
   obtain⟨_,⟨rc,rfl,hrc⟩,hd1⟩:=zIZ (fuel:=4000000) (d:=39) (h:=h) (s:=s) (k:=k) (m:=m) hown hho (by omega) (by omega) hrs2
   obtain⟨_,⟨rd,rfl,hrd⟩,hd2⟩:=zFS (fuel:=4000000) (d:=51) (h:=h) (s:=s) (k:=k) (m:=m) hS hho (by omega) (by omega)
   obtain⟨_,⟨rx,rfl,hrx⟩,hx1⟩:=zL7 (fuel:=4000000) (d:=39) (h:=h) (s:=s) (k:=k) (m:=m) (to:=to) hown hho hto (by omega) (by omega) hrs2
   obtain⟨_,⟨ry,rfl,hry⟩,hx2⟩:=zGQ (fuel:=4000000) (d:=51) (h:=h) (s:=s) (k:=k) (m:=m) (to:=to) hS hho hto (by omega) (by omega)
   have bi:(inO l h s k t).rs.length≤64:=by
    unfold inO
    split
    ·rename_i q
     unfold inE at q
     split at q
     ·split at q
      ·rename_i q3
       exact(zHB q3).2.1
      ·rename_i q3 q4;exact absurd q q4
     ·rename_i q3;exact absurd q q3
    ·exact Nat.zero_le _
   have bd:∀ (kd:Int) (b:Bool) (sp:List Spn) (to:Lb),∀ o∈(if b then zAQ kd h s to sp else []),o.rs.length≤0:=fun kd b sp to o ho=>by
    split at ho
    ·obtain⟨_,_,_,_,rfl⟩:=zKZ ho
     exact Nat.le_refl 0
    ·cases ho
   have bl:∀ (kd:Int) (p:Prop) [Decidable p] (hp:p→espE l h.lb k m=0) (to:Lb),(if p then zAQ kd h s to (spansOf ((midC l h.lb k m).map (·.id))) else []).length≤64:=fun kd p _ hp to=>by
    split
    ·rename_i q
     rw[zB5]
     exact zEB (zK8 (hp q)).1
    ·exact Nat.zero_le _
   have b1:=bl 2 (delE l h s k m=0) (fun q=>by
    unfold delE at q
    split at q
    ·split at q
     ·assumption
     ·rename_i q3;exact absurd q q3
    ·rename_i q3;exact absurd q q3) Lb.z
   have b2:=bl 3 (rsE l h s k m to=0) (fun q=>by
    unfold rsE at q
    split at q
    ·split at q
     ·split at q
      ·assumption
      ·rename_i q3;exact absurd q q3
     ·cases q
    ·rename_i q3;exact absurd q q3) to
   have c1:∀ o∈(if delE l h s k m=0 then zAQ 2 h s Lb.z (spansOf ((midC l h.lb k m).map (·.id))) else []),o.rs.length≤0:=fun o ho=>bd 2 (decide (delE l h s k m=0)) _ Lb.z o (by simpa using ho)
   have c2:∀ o∈(if rsE l h s k m to=0 then zAQ 3 h s to (spansOf ((midC l h.lb k m).map (·.id))) else []),o.rs.length≤0:=fun o ho=>bd 3 (decide (rsE l h s k m to=0)) _ to o (by simpa using ho)
   generalize (if delE l h s k m=0 then zAQ 2 h s Lb.z (spansOf ((midC l h.lb k m).map (·.id))) else [])=X1 at *
   generalize (if rsE l h s k m to=0 then zAQ 3 h s to (spansOf ((midC l h.lb k m).map (·.id))) else [])=X2 at *
   generalize inO l h s k t=X0 at *
   have hs0:=fun M=>zF3 (fuel:=4000000) (d:=58) (o:=X0) (p:=X0) hra hrb (by omega) (by omega) M
   rw[(zII X0 X0).2 rfl] at hs0
   have hs1:=fun M=>zCR (fuel:=4000000) (d:=57) hrc hrd (by omega) (fun o ho=>by have:=c1 o ho;omega) (by omega) M
   rw[zED.2 rfl] at hs1
   have hs2:=fun M=>zCR (fuel:=4000000) (d:=57) hrx hry (by omega) (fun o ho=>by have:=c2 o ho;omega) (by omega) M
   rw[zED.2 rfl] at hs2
   have hso:=fun M=>zCR (fuel:=4000000) (d:=57) hown hS (by omega) (fun o ho=>by have:=hrs o ho;omega) (by omega) M
   rw[zED.2 rfl] at hso
   have ora:=hra.one
   have orb:=hrb.one
   clear bd bl b1 b2 c1 c2 bi hrs hrs2
   simp (disch:=try exact SX) only[RV,seval,h0,h1,h2,h3,h4,h5,h6,hgr,ln,str_size,q2',hownr,hi1,hi2]
   clear hi1 hi2 hgr hownr
   simp (disch:=try exact SX) only[RV,seval,h0,h2,h3,h4,hd1,hd2]
   clear hd1 hd2
   simp (disch:=try exact SX) only[RV,seval,h0,h2,h3,h4,hx1,hx2]
   clear hx1 hx2
   simp (disch:=try exact SX) only[RV,seval,hs0,hs1]
   simp (maxSteps:=20000000) (disch:=try exact SX) only[RV,seval,h0,hs2,hso]
abbrev gLb:GT:=.ag [.int .u8,.int .u32]
abbrev gHd:GT:=.ag [gLb,.int .u8]
abbrev gId:GT:=.ag [gHd,.int .i64]
abbrev gSp:GT:=.ag [gId,.int .i64]
abbrev gOp:GT:=.ag [.int .u8,gHd,.int .i64,gSp,gId,gLb,.sl (.int .i32)]
theorem zBW {n:Int}(h:(Lit.int .u8 n).wf=true):0≤n∧n≤255:=by
 simp [Lit.wf,IntKind.min,IntKind.max,IntKind.signed,IntKind.bits] at h
 omega
theorem zCP {n:Int}(h:(Lit.int .u32 n).wf=true):0≤n∧n<4294967296:=by
 simp [Lit.wf,IntKind.min,IntKind.max,IntKind.signed,IntKind.bits] at h
 omega
theorem zFW {n:Int}(h:(Lit.int .i64 n).wf=true):i64R n:=by
 simp [Lit.wf,IntKind.min,IntKind.max,IntKind.signed,IntKind.bits] at h
 unfold i64R
 omega
def zKI (r:List AV)(x:Int):Prop:=zA3 r x∧(-2147483648≤x∧x≤2147483647)
theorem zP6 (r:List AV)(h:Is (.int .i32) r):∃ x,zKI r x:=by
 simp only[Is] at h
 obtain⟨n,rfl,hw⟩:=h
 refine⟨n,rfl, ?_⟩
 simp [Lit.wf,IntKind.min,IntKind.max,IntKind.signed,IntKind.bits] at hw
 omega
theorem zHS:∀ {rows:List (List AV)} {l:List Int},All2 zKI rows l→All2 zA3 rows l∧i32s l
 | _,_,.nil=>⟨.nil,fun x h=>by cases h⟩
 | _,_,.cons a t=>by
  obtain⟨h1,h2⟩:=zHS t
  refine⟨.cons a.1 h1,fun x h=>?_⟩
  rcases List.mem_cons.1 h with rfl | h
  ·exact a.2
  ·exact h2 x h
theorem zPJ {a:AV}{l:List Int}(h:Sl 1 zKI a l):Sl 1 zA3 a l∧i32s l:=by
 rcases h with⟨rfl,rfl⟩ | ⟨rows,cap,rfl,hA,hr⟩
 ·exact⟨.inl ⟨rfl,rfl⟩,fun x h=>by cases h⟩
 ·obtain⟨h1,h2⟩:=zHS hA
  exact⟨.inr ⟨rows,cap,rfl,h1,hr⟩,h2⟩
theorem zMM {r:List AV}(h:Is (.sl (.int .i32)) r):∃ a l,r=[a]∧Sl 1 zA3 a l∧i32s l:=by
 obtain⟨a,l,e,hs⟩:=Is.slice zP6 h
 obtain⟨h1,h2⟩:=zPJ hs
 exact⟨a,l,e,h1,h2⟩
theorem of_lb (r:List AV)(h:Is gLb r):∃ x,isLb r x:=by
 simp only[Is,IsL] at h
 obtain⟨_,_,rfl,⟨n1,rfl,w1⟩,_,_,rfl,⟨n2,rfl,w2⟩,rfl⟩:=h
 exact⟨⟨n1,n2⟩,rfl,(zBW w1).1,(zBW w1).2,(zCP w2).1,(zCP w2).2⟩
theorem of_op (r:List AV)(h:Is gOp r):∃ x,isOp r x:=by
 simp only[Is,IsL] at h
 obtain⟨_,_,rfl,⟨n1,rfl,w1⟩,_,_,rfl,⟨_,_,rfl,⟨_,_,rfl,⟨n2,rfl,w2⟩,_,_,rfl,⟨n3,rfl,w3⟩,rfl⟩,_,_,rfl,⟨n4,rfl,w4⟩,rfl⟩,_,_,rfl,⟨n5,rfl,w5⟩,_,_,rfl,⟨_,_,rfl,⟨_,_,rfl,⟨_,_,rfl,⟨_,_,rfl,⟨n6,rfl,w6⟩,_,_,rfl,⟨n7,rfl,w7⟩,rfl⟩,_,_,rfl,⟨n8,rfl,w8⟩,rfl⟩,_,_,rfl,⟨n9,rfl,w9⟩,rfl⟩,_,_,rfl,⟨n10,rfl,w10⟩,rfl⟩,_,_,rfl,⟨_,_,rfl,⟨_,_,rfl,⟨_,_,rfl,⟨n11,rfl,w11⟩,_,_,rfl,⟨n12,rfl,w12⟩,rfl⟩,_,_,rfl,⟨n13,rfl,w13⟩,rfl⟩,_,_,rfl,⟨n14,rfl,w14⟩,rfl⟩,_,_,rfl,⟨_,_,rfl,⟨n15,rfl,w15⟩,_,_,rfl,⟨n16,rfl,w16⟩,rfl⟩,_,_,rfl,hr,rfl⟩:=h
 have r1:0≤n1∧n1≤255:=by exact zBW w1
 have r2:0≤n2∧n2≤255:=by exact zBW w2
 have r3:0≤n3∧n3<4294967296:=by exact zCP w3
 have r4:0≤n4∧n4≤255:=by exact zBW w4
 have r5:i64R n5:=by exact zFW w5
 have r6:0≤n6∧n6≤255:=by exact zBW w6
 have r7:0≤n7∧n7<4294967296:=by exact zCP w7
 have r8:0≤n8∧n8≤255:=by exact zBW w8
 have r9:i64R n9:=by exact zFW w9
 have r10:i64R n10:=by exact zFW w10
 have r11:0≤n11∧n11≤255:=by exact zBW w11
 have r12:0≤n12∧n12<4294967296:=by exact zCP w12
 have r13:0≤n13∧n13≤255:=by exact zBW w13
 have r14:i64R n14:=by exact zFW w14
 have r15:0≤n15∧n15≤255:=by exact zBW w15
 have r16:0≤n16∧n16<4294967296:=by exact zCP w16
 obtain⟨ra,l,e,hs,hi⟩:=zMM (r:=_) (by simp only[Is];exact hr)
 subst e
 exact⟨⟨n1,⟨⟨n2,n3⟩,n4⟩,n5,⟨⟨⟨⟨n6,n7⟩,n8⟩,n9⟩,n10⟩,⟨⟨⟨n11,n12⟩,n13⟩,n14⟩,⟨n15,n16⟩,l⟩,ra,rfl,hs,r1,⟨⟨r2.1,r2.2,r3.1,r3.2⟩,r4⟩,r5,⟨⟨⟨⟨r6.1,r6.2,r7.1,r7.2⟩,r8⟩,r9⟩,r10⟩,⟨⟨⟨r11.1,r11.2,r12.1,r12.2⟩,r13⟩,r14⟩,⟨r15.1,r15.2,r16.1,r16.2⟩,hi⟩
end Go.Proofs.YtginjhihkleaoaaGreat
namespace Go.Proofs.YtginjhihkleaoaaGreat.editorTells
open Go Go.Ax
theorem of_hd (r:List AV)(h:Is gHd r):∃ x:Hd,r=hdR x∧x.ok:=by
 simp only[Is,IsL] at h
 obtain⟨_,_,rfl,⟨_,_,rfl,⟨n1,rfl,w1⟩,_,_,rfl,⟨n2,rfl,w2⟩,rfl⟩,_,_,rfl,⟨n3,rfl,w3⟩,rfl⟩:=h
 have r1:=zBW w1
 have r2:=zCP w2
 have r3:=zBW w3
 exact⟨⟨⟨n1,n2⟩,n3⟩,rfl,⟨r1.1,r1.2,r2.1,r2.2⟩,r3.1,r3.2⟩
theorem of_int (a:AV)(h:IsA (.int .i64) a):∃ n,a=I64 n:=by
 have h:Is (.int .i64) [a]:=h
 simp only[Is] at h
 obtain⟨n,hn,_⟩:=h
 exact⟨n,by simpa using hn⟩
theorem zP7 (a:AV)(h:IsA .str a):∃ l:List UInt8,a=STR l:=by
 have h:Is .str [a]:=h
 simp only[Is] at h
 obtain⟨s,hs,_⟩:=h
 simp only[List.cons.injEq,and_true] at hs
 exact⟨s.data.toList,hs⟩
theorem run_args (a0 a1 a2 a3 a4 a5 a6:AV)(h0:IsA (.sl gOp) a0)(h1:IsA gHd a1)(h2:IsA (.int .i64) a2)(h3:IsA (.int .i64) a3)(h4:IsA (.int .i64) a4)(h5:IsA .str a5)(h6:IsA gLb a6):zCN 4000000 61 3 [a0,a1,a2,a3,a4,a5,a6] mem0=some (BL true,mem0):=by
 obtain⟨a,l,ha,hl⟩:=Is.slice of_op h0
 obtain rfl:a0=a:=by simpa using ha
 obtain⟨c1,rfl,h1⟩:=h1
 obtain⟨h,rfl,hh⟩:=of_hd c1 h1
 obtain⟨s,rfl⟩:=of_int a2 h2
 obtain⟨k,rfl⟩:=of_int a3 h3
 obtain⟨m,rfl⟩:=of_int a4 h4
 obtain⟨t,rfl⟩:=zP7 a5 h5
 obtain⟨c6,rfl,h6⟩:=h6
 obtain⟨v,rfl,hv⟩:=of_lb c6 h6
 exact zJ4 hl hh hv mem0
end Go.Proofs.YtginjhihkleaoaaGreat.editorTells
