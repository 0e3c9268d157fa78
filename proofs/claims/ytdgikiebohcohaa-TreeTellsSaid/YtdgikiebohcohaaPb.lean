/-
  Texts joined: TpD TpE RiZ RkB RlA SbP TrG TrH TrI RlB SwN RlC RiB RiC RiD TwC RlD TpG RlG TrJ TrK.
-/
import Derived.Test.YtdgikiebohcohaaEg
import Derived.Test.YtdgikiebohcohaaPa
set_option linter.unusedSimpArgs false
set_option linter.unusedVariables false
set_option maxHeartbeats 64000000
set_option maxRecDepth 100000
namespace Go.Proofs.Ytdgikiebohcohaa
open Go Go.Ax
def Rn.elR (r:Rn):List El:=(List.range r.sp.n.toNat).map fun (i:Nat)=>⟨r.sp.at i,r.afAt i,r.rs.getD i 0⟩
def elsR (l:List Rn):List El:=l.flatMap Rn.elR
theorem zF1 (l m:List Rn):elsR (l++m)=elsR l++elsR m:=by simp [elsR]
theorem zDA (l:List Rn)(r:Rn):elsR (l++[r])=elsR l++r.elR:=by simp [elsR]
theorem zb3 (r:Rn):prs r.elR=r.els:=by simp [prs,Rn.elR,Rn.els,Function.comp_def]
theorem zHR (l:List Rn):prs (elsR l)=elsL l:=by
 induction l with
 | nil=>rfl
 | cons r l ih =>
  have:elsR (r::l)=r.elR++elsR l:=by simp [elsR]
  rw[this]
  unfold prs at *
  rw[List.map_append,ih]
  have:=zb3 r
  unfold prs at this
  rw[this]
  simp [elsL]
theorem zBH (r:Rn):r.elR.length=r.sp.n.toNat:=by simp [Rn.elR]
theorem zBY (r:Rn)(i:Nat)(h:i<r.elR.length):r.elR[i]=⟨r.sp.at i,r.afAt i,r.rs.getD i 0⟩:=by simp [Rn.elR]
def goes (q:Rn)(x:El):Bool:=decide (q.sp.n<64)&&decide (x.af=q.sp.at (q.sp.n - 1))&&decide (x.id=q.sp.at q.sp.n)
def one (x:El):Rn:=⟨⟨x.id,1⟩,x.af,[x.ch]⟩
def more (q:Rn)(x:El):Rn:=⟨⟨q.sp.f,q.sp.n+1⟩,q.af,q.rs++[x.ch]⟩
def addX (out:List Rn)(x:El):List Rn :=
 match out.getLast? with
 | none=>out++[one x]
 | some q=>if goes q x then out.set (out.length - 1) (more q x) else out++[one x]
theorem zPX {α:Type}(o:List α)(q x:α):(o++[q]).set ((o++[q]).length - 1) x=o++[x]:=by simp
theorem zFW (x:El):addX [] x=[one x]:=rfl
theorem zCY (o:List Rn)(q:Rn)(x:El):addX (o++[q]) x=if goes q x then o++[more q x] else o++[q]++[one x]:=by
 unfold addX
 rw[List.getLast?_concat]
 simp only[zPX]
theorem zRM (o:List Rn)(q r:Rn):addR (o++[q]) r=if zM5 q r=true then (if r.cutE (room q)=0 then o++[zDW q (r.fst (room q))]++[r.snd (room q)] else if zFN q r=0 then o++[zDW q r] else o++[q]++[r]) else o++[q]++[r]:=by
 unfold addR
 rw[List.getLast?_concat]
 simp only[zPX]
def zBO (E:List El):List Rn:=E.foldl addX []
theorem at_at (s:Spn)(a b n:Int):(⟨s.at a,n⟩:Spn).at b=s.at (a+b):=by
 simp only[Spn.at]
 rw[Int.add_assoc]
theorem zUS {r:Rn}{k:Nat}(hk:0<k):(r.snd k).elR=r.elR.drop k:=by
 apply List.ext_getElem
 ·rw[List.length_drop,zBH,zBH]
  simp only[Rn.snd];omega
 ·intro i h1 h2
  rw[List.getElem_drop,zBY,zBY]
  have e1:(r.snd k).sp.at i=r.sp.at ((k+i:Nat):Int):=by
   simp only[Rn.snd,at_at];congr 1
  have e2:(r.snd k).afAt i=r.afAt ((k+i:Nat):Int):=by
   unfold Rn.afAt
   rw[if_pos (show (0:Int)<((k+i:Nat):Int) by omega)]
   by_cases h:(0:Int)<i
   ·rw[if_pos h]
    simp only[Rn.snd,at_at];congr 1;omega
   ·rw[if_neg h]
    simp only[Rn.snd];congr 1;omega
  have e3:(r.snd k).rs.getD i 0=r.rs.getD (k+i) 0:=by
   simp only[Rn.snd,Int.toNat_natCast,List.getD_eq_getElem?_getD,List.getElem?_drop]
  rw[e1,e2,e3]
theorem zSU {r:Rn}{k:Nat}(hk:(k:Int)≤r.sp.n):(r.fst k).elR=r.elR.take k:=by
 apply List.ext_getElem
 ·rw[List.length_take,zBH,zBH]
  simp only[Rn.fst];omega
 ·intro i h1 h2
  rw[List.length_take,zBH] at h2
  rw[List.getElem_take,zBY,zBY]
  have e3:(r.fst k).rs.getD i 0=r.rs.getD i 0:=by
   simp only[Rn.fst,Int.toNat_natCast,List.getD_eq_getElem?_getD]
   rw[List.getElem?_take_of_lt (by omega)]
  rw[e3]
  rfl
theorem zGM {α:Type}(l:List α)(i:Nat)(h:i<l.length):l.drop i=l[i]::l.drop (i+1):=List.drop_eq_getElem_cons h
theorem feed {q r:Rn}(o:List Rn)(n:Nat)(hn:r.sp.n=n)(hl:r.rs.length=n)(k:Nat):∀ (j:Nat),j+k≤n→q.sp.n+j+k≤64→0≤q.sp.n→(∀ i:Nat,j≤i→i<j+k→r.sp.at i=q.sp.at (q.sp.n+i)∧r.afAt i=q.sp.at (q.sp.n+i - 1)) →
  ((r.elR.drop j).take k).foldl addX (o++[⟨⟨q.sp.f,q.sp.n+j⟩,q.af,q.rs++r.rs.take j⟩])=o++[⟨⟨q.sp.f,q.sp.n+(j+k:Nat)⟩,q.af,q.rs++r.rs.take (j+k)⟩]:=by
 induction k with
 | zero=>intro j _ _ _ _;simp
 | succ k ih =>
  intro j h1 h2 h3 h4
  have hj:j<r.elR.length:=by rw[zBH];omega
  have hjr:j<r.rs.length:=by omega
  rw[zGM _ _ hj,List.take_succ_cons,List.foldl_cons,zCY,zBY]
  have hg:goes (⟨⟨q.sp.f,q.sp.n+j⟩,q.af,q.rs++r.rs.take j⟩:Rn) ⟨r.sp.at j,r.afAt j,r.rs.getD j 0⟩=true:=by
   unfold goes
   simp only[Bool.and_eq_true,decide_eq_true_eq]
   exact⟨⟨by omega,(h4 j (by omega) (by omega)).2⟩,(h4 j (by omega) (by omega)).1⟩
  rw[if_pos hg]
  have hm:more (⟨⟨q.sp.f,q.sp.n+j⟩,q.af,q.rs++r.rs.take j⟩:Rn) ⟨r.sp.at j,r.afAt j,r.rs.getD j 0⟩=⟨⟨q.sp.f,q.sp.n+(j+1:Nat)⟩,q.af,q.rs++r.rs.take (j+1)⟩:=by
   unfold more
   have e:r.rs.getD j 0=r.rs[j]:=by rw[List.getD_eq_getElem?_getD,List.getElem?_eq_getElem hjr];rfl
   rw[e,zB4 _ _ hjr,List.append_assoc]
   simp only[Int.natCast_add,Int.natCast_one,Int.add_assoc]
  rw[hm,ih (j+1) (by omega) (by omega) h3 fun i hj' hi=>h4 i (by omega) (by omega)]
  rw[show j+1+k=j+(k+1) by omega]
theorem zCU {r:Rn}(h:1≤r.sp.n):r.elR=⟨r.sp.f,r.af,r.rs.getD 0 0⟩::r.elR.drop 1:=by
 have h0:0<r.elR.length:=by rw[zBH];omega
 have:=zGM r.elR 0 h0
 rw[List.drop_zero] at this
 refine this.trans ?_
 rw[zBY]
 simp [Spn.at,Rn.afAt]
theorem zWC {r:Rn}(o:List Rn)(n:Nat)(hn:r.sp.n=n)(hl:r.rs.length=n)(h1:1≤n)(h2:n≤64):(r.elR.drop 1).foldl addX (o++[one ⟨r.sp.f,r.af,r.rs.getD 0 0⟩])=o++[r]:=by
 have e:(r.elR.drop 1).take (n - 1)=r.elR.drop 1:=by
  rw[List.take_of_length_le]
  rw[List.length_drop,zBH];omega
 rw[← e]
 have:=feed (q:=⟨⟨r.sp.f,0⟩,r.af,[]⟩) (r:=r) o n hn hl (n - 1) 1 (by omega) (by simp only;omega) (Int.le_refl _) fun i hj hi=>?_
 ·have e1:(⟨⟨r.sp.f,0+(1:Nat)⟩,r.af,[]++r.rs.take 1⟩:Rn)=one ⟨r.sp.f,r.af,r.rs.getD 0 0⟩:=by
   unfold one
   have e0:r.rs.take 1=[r.rs.getD 0 0]:=by
    rw[zB4 r.rs 0 (by omega),List.getD_eq_getElem?_getD,List.getElem?_eq_getElem (show 0<r.rs.length by omega)]
    simp
   rw[e0];rfl
  have e2:(⟨⟨r.sp.f,0+(1+(n - 1):Nat)⟩,r.af,[]++r.rs.take (1+(n - 1))⟩:Rn)=r:=by
   have:1+(n - 1)=n:=by omega
   rw[this,List.take_of_length_le (by omega),List.nil_append,Int.zero_add,← hn]
  simp only at this
  rw[e1,e2] at this
  exact this
 ·unfold Rn.afAt
  rw[if_pos (show (0:Int)<i by omega)]
  simp only[Spn.at,Int.zero_add,true_and]
theorem zZK {l:List Int}:chkR l=0↔l.length≤64∧l.all okR=true:=by
 unfold chkR
 by_cases h:64<l.length
 ·rw[if_pos h];simp;omega
 ·rw[if_neg h]
  cases l.all okR <;> simp [err]
  omega
theorem Rn.may_iff {r:Rn}:r.may=true↔r.sp.may=true∧(r.af=Eid.z∨(r.af.may=true∧r.af.c<r.sp.f.c))∧(r.rs.length:Int)=r.sp.n∧r.rs.length≤64∧r.rs.all okR=true:=by
 unfold Rn.may
 simp only[Bool.and_eq_true,Bool.or_eq_true,decide_eq_true_eq,zZK,and_assoc]
theorem Spn.may_iff {s:Spn}:s.may=true↔s.f.may=true∧1≤s.n∧s.n≤64∧s.f.c+s.n≤1099511627777:=by
 unfold Spn.may
 simp only[Bool.and_eq_true,decide_eq_true_eq,and_assoc]
theorem Eid.may_iff {x:Eid}:x.may=true↔x.hd.may=true∧1≤x.c∧x.c≤1099511627776:=by
 unfold Eid.may
 simp only[Bool.and_eq_true,decide_eq_true_eq,and_assoc]
theorem zHK {q r:Rn}(hq:q.may=true)(hr:r.may=true)(h1:r.sp.f=q.sp.at q.sp.n)(h2:q.sp.n+r.sp.n≤64):(q.both r).may=true:=by
 rw[Rn.may_iff] at *
 obtain⟨a1,a2,a3,a4,a5⟩:=hq
 obtain⟨b1,b2,b3,b4,b5⟩:=hr
 rw[Spn.may_iff] at *
 rw[h1] at b1
 simp only[Rn.both,Spn.at,List.length_append,List.all_append,a5,b5,Bool.and_self,and_true,Int.natCast_add] at *
 exact⟨⟨a1.1,by omega,by omega,by omega⟩,a2,by omega,by omega⟩
theorem zP4 {r:Rn}{k:Nat}(hr:r.may=true)(h0:0<k)(h1:(k:Int)≤r.sp.n):(r.fst k).may=true:=by
 rw[Rn.may_iff] at *
 obtain⟨a1,a2,a3,a4,a5⟩:=hr
 rw[Spn.may_iff] at *
 simp only[Rn.fst,Int.toNat_natCast,List.length_take]
 refine⟨⟨a1.1,by omega,by omega,by omega⟩,a2,by omega,by omega, ?_⟩
 rw[List.all_eq_true] at *
 exact fun x hx=>a5 x (List.mem_of_mem_take hx)
theorem zQ1 {r:Rn}{k:Nat}(hr:r.may=true)(h0:0<k)(h1:(k:Int)<r.sp.n):(r.snd k).may=true:=by
 rw[Rn.may_iff] at *
 obtain⟨a1,a2,a3,a4,a5⟩:=hr
 rw[Spn.may_iff,Eid.may_iff] at *
 simp only[Rn.snd,Spn.at,Int.toNat_natCast,List.length_drop,Eid.may_iff]
 refine⟨⟨⟨a1.1.1,by omega,by omega⟩,by omega,by omega,by omega⟩,.inr ⟨⟨a1.1.1,by omega,by omega⟩,by omega⟩,by omega,by omega, ?_⟩
 rw[List.all_eq_true] at *
 exact fun x hx=>a5 x (List.mem_of_mem_drop hx)
theorem Rn.last_at {q:Rn}(h:q.may=true):q.last=q.sp.at (q.sp.n - 1):=by
 unfold Rn.last
 rw[if_pos (Rn.may_sp h)]
theorem zPG {q r:Rn}(hq:q.may=true):zM5 q r=true↔r.af=q.sp.at (q.sp.n - 1)∧r.sp.f=q.sp.at q.sp.n:=by
 unfold zM5
 rw[Rn.last_at hq]
 simp only[Bool.and_eq_true,decide_eq_true_eq]
 have hb:=Spn.may_le (Rn.may_sp hq)
 constructor
 ·exact zB0t
 ·exact zB0t
theorem zKK {q r:Rn}(hq:q.may=true)(hr:r.may=true)(h1:r.af=q.sp.at (q.sp.n - 1))(h2:r.sp.f=q.sp.at q.sp.n)(h3:q.sp.n+r.sp.n≤64):zFN q r=0:=by
 have bq:=Spn.may_le (Rn.may_sp hq)
 have br:=Spn.may_le (Rn.may_sp hr)
 have lq:=Rn.may_len hq
 rw[zG7,Rn.cutE_iff]
 refine⟨hq,hr,⟨zHK hq hr h2 h3,by omega,by simp only[Rn.both];omega⟩, ?_, ?_⟩
 ·unfold Rn.both Rn.fst
  simp only
  rw[List.take_append_of_le_length (by omega),List.take_of_length_le (by omega)]
 ·unfold Rn.both Rn.snd
  simp only
  have e1:q.sp.n.toNat=q.rs.length:=by omega
  rw[e1,List.drop_left]
  have e2:(⟨q.sp.f,q.sp.n+r.sp.n⟩:Spn).at q.sp.n=r.sp.f:=h2.symm
  have e3:(⟨q.sp.f,q.sp.n+r.sp.n⟩:Spn).at (q.sp.n - 1)=r.af:=h1.symm
  rw[e2,e3,show q.sp.n+r.sp.n - q.sp.n=r.sp.n by omega]
theorem zVC {o:List Rn}{q r:Rn}(hq:q.may=true)(hr:r.may=true):addR (o++[q]) r=r.elR.foldl addX (o++[q]) ∧ ∃ o' q',addR (o++[q]) r=o'++[q']∧(∀ x∈o',x∈o∨x.may=true)∧q'.may=true:=by
 have bq:=Spn.may_le (Rn.may_sp hq)
 have br:=Spn.may_le (Rn.may_sp hr)
 have lq:=Rn.may_len hq
 have lr:=Rn.may_len hr
 obtain⟨n,hn⟩:∃ n:Nat,r.sp.n=n:=⟨r.sp.n.toNat,by omega⟩
 have hrm:room q=64 - q.sp.n:=by unfold room;rw[wrap_i64 (by omega) (by omega)]
 have hqo:∀ x∈o++[q],x∈o∨x.may=true:=fun x hx=>by
  rcases List.mem_append.1 hx with h | h
  ·exact .inl h
  ·rw[List.mem_singleton] at h;subst h;exact .inr hq
 rw[zRM]
 by_cases h:zM5 q r=true
 ·rw[if_pos h]
  rw[zPG hq] at h
  obtain⟨h1,h2⟩:=h
  have h4:∀ i:Nat,i<n→r.sp.at i=q.sp.at (q.sp.n+i)∧r.afAt i=q.sp.at (q.sp.n+i - 1):=fun i hi=>by
   have e:r.sp.at i=q.sp.at (q.sp.n+i):=by
    simp only[Spn.at] at h2 ⊢
    rw[h2]
    simp only[Int.add_assoc]
   refine⟨e, ?_⟩
   unfold Rn.afAt
   by_cases h0:(0:Int)<i
   ·rw[if_pos h0]
    simp only[Spn.at] at h2 ⊢
    rw[h2]
    simp only
    congr 1;omega
   ·have:(i:Int)=0:=by omega
    rw[if_neg h0,this,h1,Int.add_zero]
  have hq0:o++[q]=o++[⟨⟨q.sp.f,q.sp.n+(0:Nat)⟩,q.af,q.rs++r.rs.take 0⟩]:=by simp
  by_cases h5:q.sp.n+r.sp.n≤64
  ·have hc:¬r.cutE (room q)=0:=by rw[Rn.cutE_iff,hrm];omega
   rw[if_neg hc,if_pos (zKK hq hr h1 h2 h5)]
   have hj:zDW q r=q.both r:=by unfold zDW;rw[if_pos (zKK hq hr h1 h2 h5)]
   rw[hj]
   refine⟨?_,o,_,rfl,fun x hx => .inl hx,zHK hq hr h2 h5⟩
   have:=feed (q:=q) (r:=r) o n hn (by omega) n 0 (by omega) (by omega) (by omega) fun i _ hi=>h4 i (by omega)
   rw[← hq0,List.drop_zero,List.take_of_length_le (by rw[zBH];omega)] at this
   rw[this]
   unfold Rn.both
   rw[Nat.zero_add,List.take_of_length_le (by omega),hn]
  ·by_cases h6:q.sp.n<64
   ·obtain⟨k,hk⟩:∃ k:Nat,room q=k:=⟨(room q).toNat,by omega⟩
    have hc:r.cutE (room q)=0:=by rw[Rn.cutE_iff,hrm];exact⟨hr,by omega,by omega⟩
    rw[if_pos hc,hk]
    have fm:=zP4 (k:=k) hr (by omega) (by omega)
    have sm:=zQ1 (k:=k) hr (by omega) (by omega)
    have je:=zKK hq fm h1 h2 (by simp only[Rn.fst];omega)
    have hj:zDW q (r.fst k)=q.both (r.fst k):=by unfold zDW;rw[if_pos je]
    rw[hj]
    refine⟨?_,_,_,rfl,fun x hx=>?_,sm⟩
    ·have:=feed (q:=q) (r:=r) o n hn (by omega) k 0 (by omega) (by omega) (by omega) fun i _ hi=>h4 i (by omega)
     rw[← hq0,List.drop_zero] at this
     rw[← List.take_append_drop k r.elR,List.foldl_append,this]
     have e1:(⟨⟨q.sp.f,q.sp.n+((0+k:Nat):Int)⟩,q.af,q.rs++r.rs.take (0+k)⟩:Rn)=q.both (r.fst k):=by
      unfold Rn.both Rn.fst
      rw[Nat.zero_add,Int.toNat_natCast]
     rw[e1,← zUS (by omega),zCU (Spn.may_le (Rn.may_sp sm)).2.2.1,List.foldl_cons,zCY,if_neg]
     ·have hsn:(r.snd k).sp.n=(n - k:Nat):=by simp only[Rn.snd];omega
      have hsl:(r.snd k).rs.length=n - k:=by have:=Rn.may_len sm;omega
      exact(zWC _ (n - k) hsn hsl (by omega) (by omega)).symm
     ·intro hg
      unfold goes at hg
      rw[Bool.and_eq_true,Bool.and_eq_true] at hg
      have:=of_decide_eq_true hg.1.1
      simp only[Rn.both,Rn.fst] at this
      omega
    ·rcases List.mem_append.1 hx with hx | hx
     ·exact .inl hx
     ·rw[List.mem_singleton] at hx;subst hx
      exact .inr (zHK hq fm h2 (by simp only[Rn.fst];omega))
   ·have hc:¬r.cutE (room q)=0:=by rw[Rn.cutE_iff,hrm];omega
    have hj:¬zFN q r=0:=by
     rw[zG7,Rn.cutE_iff]
     rintro⟨_,_,⟨hm,_⟩,_⟩
     have:=(Spn.may_le (Rn.may_sp hm)).2.2.2.1
     simp only[Rn.both] at this
     omega
    rw[if_neg hc,if_neg hj]
    refine⟨?_,_,_,rfl,hqo,hr⟩
    rw[zCU (by omega),List.foldl_cons,zCY,if_neg]
    ·exact(zWC _ n hn (by omega) (by omega) (by omega)).symm
    ·unfold goes
     simp only[Bool.and_eq_true,decide_eq_true_eq]
     omega
 ·rw[if_neg h]
  refine⟨?_,_,_,rfl,hqo,hr⟩
  rw[zCU (by omega),List.foldl_cons,zCY,if_neg]
  ·exact(zWC _ n hn (by omega) (by omega) (by omega)).symm
  ·unfold goes
   simp only[Bool.and_eq_true,decide_eq_true_eq]
   rintro⟨⟨_,h2⟩,h3⟩
   exact h ((zPG hq).2 ⟨h2,h3⟩)
theorem zC7 {l:List Rn}(h:∀ r∈l,r.may=true):zBT l=zBO (elsR l) ∧ ∀ r∈zBT l,r.may=true:=by
 revert h
 refine zDQ (P:=fun l=>(∀ r∈l,r.may=true)→zBT l=zBO (elsR l) ∧ ∀ r∈zBT l,r.may=true) (fun _=>⟨rfl,fun r hr=>absurd hr (by simp [zBT])⟩) (fun l r ih h=>?_) l
 obtain⟨e,hm⟩:=ih fun x hx=>h x (List.mem_append_left _ hx)
 have hr:=h r (List.mem_append_right _ List.mem_cons_self)
 have br:=Spn.may_le (Rn.may_sp hr)
 have lr:=Rn.may_len hr
 have hs:zBT (l++[r])=addR (zBT l) r:=by simp [zBT]
 rw[hs,zDA]
 unfold zBO at *
 rw[List.foldl_append,← e]
 generalize zBT l=out at *
 rcases zCJ out with rfl | ⟨o,q,rfl⟩
 ·have ha:addR [] r=[r]:=rfl
  rw[ha]
  refine⟨?_,fun x hx=>by rw[List.mem_singleton] at hx;subst hx;exact hr⟩
  rw[zCU (by omega),List.foldl_cons,zFW]
  exact(zWC [] r.sp.n.toNat (by omega) (by omega) (by omega) (by omega)).symm
 ·have hq:=hm q (List.mem_append_right _ List.mem_cons_self)
  obtain⟨h1,o',q',h2,h3,h4⟩:=zVC (o:=o) hq hr
  refine⟨h1,fun x hx=>?_⟩
  rw[h2] at hx
  rcases List.mem_append.1 hx with hx | hx
  ·rcases h3 x hx with k | k
   ·exact hm x (List.mem_append_left _ k)
   ·exact k
  ·rw[List.mem_singleton] at hx;subst hx;exact h4
def El.may (x:El):Bool:=x.id.may&&(decide (x.af=Eid.z) || (x.af.may&&decide (x.af.c<x.id.c)))&&okR x.ch
theorem El.may_iff {x:El}:x.may=true↔x.id.may=true∧(x.af=Eid.z∨(x.af.may=true∧x.af.c<x.id.c))∧okR x.ch=true:=by
 unfold El.may
 simp only[Bool.and_eq_true,Bool.or_eq_true,decide_eq_true_eq,and_assoc]
theorem El.may_ct {x:El}(h:x.may=true):x.af.c<x.id.c∧0<x.id.c:=by
 rw[El.may_iff,Eid.may_iff] at h
 obtain⟨h1,h2,_⟩:=h
 rcases h2 with h2 | h2
 ·rw[h2];exact⟨by show (0:Int)<_;omega,by omega⟩
 ·exact⟨h2.2,by omega⟩
theorem zKA {r:Rn}(hr:r.may=true):∀ x∈r.elR,x.may=true:=by
 intro x hx
 have br:=Spn.may_le (Rn.may_sp hr)
 have lr:=Rn.may_len hr
 obtain⟨i,hi,rfl⟩:=List.getElem_of_mem hx
 rw[zBH] at hi
 rw[zBY]
 rw[Rn.may_iff,Spn.may_iff,Eid.may_iff] at hr
 obtain⟨⟨h1,h2⟩,h3,h4,h5,h6⟩:=hr
 rw[El.may_iff,Eid.may_iff]
 simp only[Spn.at]
 refine⟨⟨h1.1,by omega,by omega⟩, ?_, ?_⟩
 ·unfold Rn.afAt
  by_cases h0:(0:Int)<i
  ·rw[if_pos h0,Eid.may_iff]
   simp only[Spn.at]
   exact .inr ⟨⟨h1.1,by omega,by omega⟩,by omega⟩
  ·rw[if_neg h0]
   rcases h3 with h3 | h3
   ·exact .inl h3
   ·exact .inr ⟨h3.1,by omega⟩
 ·rw[List.getD_eq_getElem?_getD,List.getElem?_eq_getElem (by omega)]
  exact List.all_eq_true.1 h6 _ (List.getElem_mem _)
theorem zG1 {l:List Rn}(h:∀ r∈l,r.may=true):∀ x∈elsR l,x.may=true:=by
 intro x hx
 obtain⟨r,hr,hx⟩:=List.mem_flatMap.1 hx
 exact zKA (h r hr) x hx
theorem zZO {r:Rn}(hr:r.may=true):Chn r.af r.elR:=by
 have br:=Spn.may_le (Rn.may_sp hr)
 have key:∀ k i:Nat,i+k=r.sp.n.toNat→0<i→Chn (r.sp.at ((i:Int) - 1)) (r.elR.drop i):=by
  intro k
  induction k with
  | zero=>intro i hi _;rw[List.drop_of_length_le (by rw[zBH];omega)];trivial
  | succ k ih =>
   intro i hi h0
   have hl:i<r.elR.length:=by rw[zBH];omega
   rw[zGM _ _ hl,zBY]
   have:=ih (i+1) (by omega) (by omega)
   refine⟨?_, ?_, ?_⟩
   ·unfold Rn.afAt
    rw[if_pos (by omega)]
   ·simp only[Spn.at];omega
   ·have e:((i+1:Nat):Int) - 1=i:=by omega
    rw[e] at this
    exact this
 rw[zCU (by omega)]
 have:=key (r.sp.n.toNat - 1) 1 (by omega) (by omega)
 refine⟨rfl, ?_, ?_⟩
 ·have:=(El.may_ct (zKA hr ⟨r.sp.f,r.af,r.rs.getD 0 0⟩ (by rw[zCU (by omega)];exact List.mem_cons_self))).1
  exact this
 ·simpa [Spn.at] using this
theorem zE6 (E:List El):elsR (zBO E)=E ∧ ∀ q∈zBO E,1≤q.sp.n∧(q.rs.length:Int)=q.sp.n:=by
 refine zDQ (P:=fun E=>elsR (zBO E)=E ∧ ∀ q∈zBO E,1≤q.sp.n∧(q.rs.length:Int)=q.sp.n) ⟨rfl,fun q hq=>absurd hq (by simp [zBO])⟩ (fun E x ih=>?_) E
 obtain⟨h1,h2⟩:=ih
 have hs:zBO (E++[x])=addX (zBO E) x:=by simp [zBO]
 rw[hs]
 have ho:(one x).elR=[x]:=by
  rw[zCU (by simp only[one];omega),List.drop_of_length_le (by rw[zBH];simp [one])]
  simp [one]
 have h1x:1≤(one x).sp.n∧((one x).rs.length:Int)=(one x).sp.n:=⟨Int.le_refl _,rfl⟩
 generalize zBO E=out at *
 rcases zCJ out with rfl | ⟨o,q,rfl⟩
 ·rw[zFW]
  have:E=[]:=by rw[← h1];rfl
  subst this
  refine⟨?_,fun q hq=>by rw[List.mem_singleton] at hq;subst hq;exact h1x⟩
  simp [elsR,ho]
 ·rw[zCY]
  obtain⟨hq1,hq2⟩:=h2 q (List.mem_append_right _ List.mem_cons_self)
  by_cases hg:goes q x=true
  ·rw[if_pos hg]
   unfold goes at hg
   simp only[Bool.and_eq_true,decide_eq_true_eq] at hg
   obtain⟨⟨g1,g2⟩,g3⟩:=hg
   refine⟨?_,fun y hy=>?_⟩
   ·rw[zDA] at h1
    rw[zDA,← h1,List.append_assoc]
    congr 1
    apply List.ext_getElem
    ·rw[List.length_append,zBH,zBH]
     simp only[more,List.length_singleton];omega
    ·intro i i1 i2
     rw[zBY]
     by_cases hi:i<q.elR.length
     ·rw[List.getElem_append_left hi,zBY]
      rw[zBH] at hi
      have e3:(more q x).rs.getD i 0=q.rs.getD i 0:=by
       simp only[more,List.getD_eq_getElem?_getD]
       rw[List.getElem?_append_left (by omega)]
      rw[e3];rfl
     ·have hi':i=q.elR.length:=by
       rw[zBH] at i1 hi ⊢
       simp only[more] at i1
       omega
      rw[List.getElem_append_right (Nat.le_of_not_lt hi),List.getElem_singleton]
      rw[zBH] at hi'
      rw[hi']
      clear hi' i1 i2 hi
      obtain⟨xi,xa,xc⟩:=x
      simp only at g2 g3
      have e:((q.sp.n.toNat:Nat):Int)=q.sp.n:=by omega
      have e3:(more q ⟨xi,xa,xc⟩).rs.getD q.sp.n.toNat 0=xc:=by
       simp only[more,List.getD_eq_getElem?_getD]
       rw[List.getElem?_append_right (by omega),show q.sp.n.toNat - q.rs.length=0 by omega]
       rfl
      have e2:(more q ⟨xi,xa,xc⟩).afAt ((q.sp.n.toNat:Nat):Int)=xa:=by
       unfold Rn.afAt
       rw[if_pos (by omega),e,g2]
       rfl
      rw[e2,e3,e,g3]
      rfl
   ·rcases List.mem_append.1 hy with hy | hy
    ·exact h2 y (List.mem_append_left _ hy)
    ·rw[List.mem_singleton] at hy;subst hy
     simp only[more,List.length_append,List.length_singleton]
     omega
  ·rw[if_neg hg]
   refine⟨by rw[zDA,ho,h1],fun y hy=>?_⟩
   exact zB0B
theorem zS9 {E:List El}(h:∀ x∈E,x.may=true):∀ q∈zBO E,q.may=true:=by
 revert h
 refine zDQ (P:=fun E=>(∀ x∈E,x.may=true) → ∀ q∈zBO E,q.may=true) (fun _ q hq=>absurd hq (by simp [zBO])) (fun E x ih h=>?_) E
 have h2:=ih fun y hy=>h y (List.mem_append_left _ hy)
 have hx:=h x (List.mem_append_right _ List.mem_cons_self)
 have hs:zBO (E++[x])=addX (zBO E) x:=by simp [zBO]
 rw[hs]
 have h1x:(one x).may=true:=by
  rw[El.may_iff,Eid.may_iff] at hx
  rw[Rn.may_iff,Spn.may_iff,Eid.may_iff]
  simp only[one,List.length_singleton,List.all_cons,List.all_nil,Bool.and_true]
  exact⟨⟨⟨hx.1.1,hx.1.2⟩,by omega,by omega,by omega⟩,hx.2.1,by omega,by omega,hx.2.2⟩
 generalize zBO E=out at *
 rcases zCJ out with rfl | ⟨o,q,rfl⟩
 ·rw[zFW]
  exact fun q hq=>by rw[List.mem_singleton] at hq;subst hq;exact h1x
 ·rw[zCY]
  have hq:=h2 q (List.mem_append_right _ List.mem_cons_self)
  by_cases hg:goes q x=true
  ·rw[if_pos hg]
   unfold goes at hg
   simp only[Bool.and_eq_true,decide_eq_true_eq] at hg
   obtain⟨⟨g1,g2⟩,g3⟩:=hg
   intro y hy
   rcases List.mem_append.1 hy with hy | hy
   ·exact h2 y (List.mem_append_left _ hy)
   ·rw[List.mem_singleton] at hy;subst hy
    have:more q x=q.both (one x):=rfl
    rw[this]
    exact zHK hq h1x g3 (by simp only[one];omega)
  ·rw[if_neg hg]
   intro y hy
   exact zB0B
theorem zD1 {l:List Rn}(h:∀ r∈l,r.may=true):zB3 l=(elsR l).length:=by
 induction l with
 | nil=>rfl
 | cons r l ih =>
  have br:=Spn.may_le (Rn.may_sp (h r List.mem_cons_self))
  have:elsR (r::l)=r.elR++elsR l:=by simp [elsR]
  rw[this,List.length_append,zBH]
  simp only[zB3]
  rw[ih fun x hx=>h x (List.mem_cons_of_mem _ hx)]
  omega
def zE1 (l:List Rn):Prop:=(∀ r∈l,r.may=true)∧zB3 l≤8192∧Ord (elsL l)∧zBT l=l
structure TxtM (E:List El):Prop where
 t:Txt E
 m:∀ x∈E,x.may=true
 n:E.length≤8192
theorem zMX {E:List El}(h:TxtM E):zE1 (zBO E):=by
 have hm:=zS9 h.m
 obtain⟨he,_⟩:=zE6 E
 refine⟨hm, ?_, ?_, ?_⟩
 ·rw[zD1 hm,he];have:=h.n;omega
 ·rw[← zHR,he];exact(zU0 fun x hx=>El.may_ct (h.m x hx)).2 h.t
 ·rw[(zC7 hm).1,he]
theorem zCS {l:List Rn}(h:zE1 l):TxtM (elsR l)∧l=zBO (elsR l):=by
 obtain⟨h1,h2,h3,h4⟩:=h
 have hm:=zG1 h1
 refine⟨⟨?_,hm, ?_⟩, ?_⟩
 ·rw[← zHR] at h3;exact(zU0 fun x hx=>El.may_ct (hm x hx)).1 h3
 ·rw[zD1 h1] at h2;omega
 ·rw[← (zC7 h1).1,h4]
theorem zNN {s:Spn}{x:Eid}{k:Int}:s.has x=some k↔s.may=true∧0≤k∧k<s.n∧s.at k=x:=by
 obtain⟨hd,c⟩:=x
 unfold Spn.has Spn.at
 simp only
 constructor
 ·intro h
  split at h
  ·rename_i g
   injection h with h
   refine⟨g.1,by omega,by omega, ?_⟩
   rw[g.2.1];congr 1;omega
  ·cases h
 ·rintro⟨h1,h2,h3,h4⟩
  injection h4 with h4 h5
  rw[if_pos ⟨h1,h4.symm,by omega,by omega⟩]
  congr 1;omega
theorem za6 {r:Rn}(hr:r.may=true)(x:Eid):r.sp.has x=none ↔ ∀ e∈r.elR,e.id≠x:=by
 have br:=Spn.may_le (Rn.may_sp hr)
 constructor
 ·intro h e he k
  obtain⟨i,hi,rfl⟩:=List.getElem_of_mem he
  rw[zBH] at hi
  rw[zBY] at k
  have:=(zNN (k:=(i:Int))).2 ⟨Rn.may_sp hr,by omega,by omega,k⟩
  rw[h] at this
  cases this
 ·intro h
  cases hh:r.sp.has x with
  | none=>rfl
  | some k =>
   obtain⟨h1,h2,h3,h4⟩:=zNN.1 hh
   have hl:k.toNat<r.elR.length:=by rw[zBH];omega
   refine absurd ?_ (h _ (List.getElem_mem hl))
   rw[zBY]
   have:((k.toNat:Nat):Int)=k:=by omega
   rw[this];exact h4
theorem zJ9 {l:List Rn}(h:∀ r∈l,r.may=true)(x:Eid):zB2 l x=none ↔ ∀ e∈elsR l,e.id≠x:=by
 induction l with
 | nil=>exact⟨fun _ e he=>absurd he (by simp [elsR]),fun _=>rfl⟩
 | cons r l ih =>
  have hr:=h r List.mem_cons_self
  have ih:=ih fun y hy=>h y (List.mem_cons_of_mem _ hy)
  have he:elsR (r::l)=r.elR++elsR l:=by simp [elsR]
  rw[he]
  unfold zB2
  have hh:=za6 hr x
  cases hc:r.sp.has x with
  | none =>
   rw[hc] at hh
   have hh:=hh.1 rfl
   simp only[Option.map_eq_none_iff]
   rw[ih]
   constructor
   ·intro h1 e he
    rcases List.mem_append.1 he with he | he
    ·exact hh e he
    ·exact h1 e he
   ·exact fun h1 e he=>h1 e (List.mem_append_right _ he)
  | some k =>
   rw[hc] at hh
   simp only[reduceCtorEq,false_iff] at hh ⊢
   exact fun h1=>hh fun e he=>h1 e (List.mem_append_left _ he)
theorem zEI:∀ {l:List Rn} {x:Eid} {n:Nat} {k:Int},zB2 l x=some (n,k) → ∃ L1 q L2,l=L1++q::L2∧L1.length=n∧q.sp.may=true∧0≤k∧k<q.sp.n∧q.sp.at k=x
 | [],_,_,_,h=>by cases h
 | r::l,x,n,k,h=>by
  unfold zB2 at h
  cases hc:r.sp.has x with
  | none =>
   rw[hc] at h
   simp only at h
   cases hw:zB2 l x with
   | none=>rw[hw] at h;cases h
   | some p =>
    rw[hw] at h
    obtain⟨n',k'⟩:=p
    simp only[Option.map_some,Option.some.injEq,Prod.mk.injEq] at h
    obtain⟨rfl,rfl⟩:=h
    obtain⟨L1,q,L2,rfl,rfl,hh⟩:=zEI hw
    exact⟨r::L1,q,L2,rfl,rfl,hh⟩
  | some k' =>
   rw[hc] at h
   simp only[Option.some.injEq,Prod.mk.injEq] at h
   obtain⟨rfl,rfl⟩:=h
   obtain⟨h1,h2,h3,h4⟩:=zNN.1 hc
   exact⟨[],r,l,rfl,rfl,h1,h2,h3,h4⟩
def zBB (l:List Rn)(x:Eid):List Rn × Nat :=
 if x=Eid.z then (l,0) else
 match zB2 l x with
 | none=>(l,0)
 | some (n,k)=>if (l.getD n Rn.z).cutE (k+1)=0 then (l.take n++[(l.getD n Rn.z).fst (k+1),(l.getD n Rn.z).snd (k+1)]++l.drop (n+1),n+1) else (l,n+1)
def zFD (l:List Rn)(x:Eid)(n:Nat):Nat:=n+((l.drop n).takeWhile fun r=>x.less r.sp.f).length
def insL (l:List Rn)(r:Rn):List Rn:=zBT ((zBB l r.af).1.take (zFD (zBB l r.af).1 r.sp.f (zBB l r.af).2)++[r]++(zBB l r.af).1.drop (zFD (zBB l r.af).1 r.sp.f (zBB l r.af).2))
open Classical in
noncomputable def putE (l : List Rn) (r : Rn) : Int :=
  if zE1 l ∧ r.may = true then
    (if r.af ≠ Eid.z ∧ zB2 l r.af = none then 6
     else if ∃ i : Nat,(i : Int) < r.sp.n ∧ zB2 l (r.sp.at i) ≠ none then 2
     else if 8192 < zB3 l + r.sp.n then 4 else 0)
  else 8
theorem zNS {l:List Rn}{x:Eid}(h:∀ r∈l,r.may=true)(hx:x=Eid.z∨zB2 l x≠none):(zBB l x).2≤(zBB l x).1.length∧(∀ r∈(zBB l x).1,r.may=true)∧elsR (zBB l x).1=elsR l∧((x=Eid.z∧(zBB l x).2=0) ∨ ∃ A w,elsR ((zBB l x).1.take (zBB l x).2)=A++[w]∧w.id=x):=by
 unfold zBB
 by_cases hz:x=Eid.z
 ·rw[if_pos hz]
  exact⟨Nat.zero_le _,h,rfl,.inl ⟨hz,rfl⟩⟩
 ·rw[if_neg hz]
  rcases hx with hx | hx
  ·exact absurd hx hz
  ·cases hw:zB2 l x with
   | none=>exact absurd hw hx
   | some p =>
    obtain⟨n,k⟩:=p
    obtain⟨L1,q,L2,rfl,rfl,h1,h2,h3,h4⟩:=zEI hw
    have hq:=h q (by simp)
    have hg:(L1++q::L2).getD L1.length Rn.z=q:=by
     rw[List.getD_eq_getElem?_getD,List.getElem?_append_right (Nat.le_refl _)];simp
    simp only[hg]
    obtain⟨m,rfl⟩:∃ m:Nat,k=m:=⟨k.toNat,by omega⟩
    have hm1:((m:Int)+1)=((m+1:Nat):Int):=by omega
    have hlast:q.elR.take (m+1)=q.elR.take m++[⟨x,q.afAt m,q.rs.getD m 0⟩]:=by
     have hl:m<q.elR.length:=by rw[zBH];omega
     rw[zB4 _ _ hl,zBY,h4]
    by_cases hc:q.cutE ((m:Int)+1)=0
    ·rw[if_pos hc]
     rw[Rn.cutE_iff] at hc
     have hd:(L1++q::L2).drop (L1.length+1)=L2:=by simp
     have ht:(L1++q::L2).take L1.length=L1:=by simp
     simp only[hd,ht,hm1]
     refine⟨by simp,fun r hr=>?_, ?_,.inr ⟨elsR L1++q.elR.take m,⟨x,q.afAt m,q.rs.getD m 0⟩, ?_,rfl⟩⟩
     ·rcases List.mem_append.1 hr with hr | hr
      ·rcases List.mem_append.1 hr with hr | hr
       ·exact h r (by simp [hr])
       ·rcases List.mem_cons.1 hr with rfl | hr
        ·exact zP4 hq (by omega) (by omega)
        ·rw[List.mem_singleton] at hr;subst hr
         exact zQ1 hq (by omega) (by omega)
      ·exact h r (by simp [hr])
     ·have e1:elsR (L1++q::L2)=elsR L1++q.elR++elsR L2:=by simp [elsR]
      have e2:elsR [q.fst ((m+1:Nat):Int),q.snd ((m+1:Nat):Int)]=q.elR:=by
       have:elsR [q.fst ((m+1:Nat):Int),q.snd ((m+1:Nat):Int)]=(q.fst ((m+1:Nat):Int)).elR++(q.snd ((m+1:Nat):Int)).elR:=by simp [elsR]
       rw[this,zSU (by omega),zUS (by omega),List.take_append_drop]
      rw[zF1,zF1,e1,e2]
     ·have e1:(L1++[q.fst ((m+1:Nat):Int),q.snd ((m+1:Nat):Int)]++L2).take (L1.length+1)=L1++[q.fst ((m+1:Nat):Int)]:=by
       rw[List.append_assoc,List.take_length_add_append];rfl
      rw[e1,zDA,zSU (by omega),hlast,List.append_assoc]
    ·rw[if_neg hc]
     rw[Rn.cutE_iff] at hc
     have hmn:(m:Int)+1=q.sp.n:=Classical.byContradiction fun k=>hc ⟨hq,by omega,by omega⟩
     refine⟨by simp,h,rfl,.inr ⟨elsR L1++q.elR.take m,⟨x,q.afAt m,q.rs.getD m 0⟩, ?_,rfl⟩⟩
     have e1:(L1++q::L2).take (L1.length+1)=L1++[q]:=by
      rw[List.take_length_add_append];rfl
     rw[e1,zDA,List.append_assoc,← hlast,List.take_of_length_le (by rw[zBH];omega)]
theorem zcE {r:Rn}(hr:r.may=true){x:Eid}(h:x.less r.sp.f=true):∀ e∈r.elR,x.less e.id=true:=by
 intro e he
 obtain⟨i,hi,rfl⟩:=List.getElem_of_mem he
 rw[zBY]
 cases i with
 | zero=>simpa [Spn.at] using h
 | succ i =>
  refine zJP h (zLZ ?_)
  simp only[Spn.at];omega
structure Put (l:List Rn) (r:Rn) (A0 A1 B:List El):Prop where
 e:elsR l=A0++A1++B
 a:(r.af=Eid.z∧A0=[]) ∨ ∃ A w,A0=A++[w]∧w.id=r.af
 g:∀ x∈A1,r.sp.f.less x.id=true
 t:TxtM (A0++A1++r.elR++B)
 i:insL l r=zBO (A0++A1++r.elR++B)
theorem zPR {l:List Rn}{r:Rn}:putE l r=0↔zE1 l∧r.may=true∧(r.af=Eid.z ∨ ∃ e∈elsR l,e.id=r.af)∧(∀ x∈r.elR,∀ e∈elsR l,x.id≠e.id)∧(elsR l).length+r.elR.length≤8192:=by
 unfold putE
 by_cases h:zE1 l∧r.may=true
 ·rw[if_pos h]
  obtain⟨ht,hr⟩:=h
  have hw:=fun x=>zJ9 ht.1 x
  have br:=Spn.may_le (Rn.may_sp hr)
  have hn:(r.elR.length:Int)=r.sp.n:=by rw[zBH];omega
  rw[zD1 ht.1]
  by_cases h1:r.af≠Eid.z∧zB2 l r.af=none
  ·rw[if_pos h1]
   refine⟨fun h=>(by cases h), ?_⟩
   rintro⟨_,_,h3,_⟩
   rcases h3 with h3 | ⟨e,he,h3⟩
   ·exact absurd h3 h1.1
   ·exact absurd h3 ((hw _).1 h1.2 e he)
  ·rw[if_neg h1]
   have h1':r.af=Eid.z ∨ ∃ e∈elsR l,e.id=r.af:=by
    by_cases hz:r.af=Eid.z
    ·exact .inl hz
    ·right
     have:¬∀ e∈elsR l,e.id≠r.af:=fun k=>h1 ⟨hz,(hw _).2 k⟩
     exact Classical.byContradiction fun k=>this fun e he k2=>k ⟨e,he,k2⟩
   by_cases h2:∃ i:Nat,(i:Int)<r.sp.n∧zB2 l (r.sp.at i)≠none
   ·rw[if_pos h2]
    refine⟨fun h=>(by cases h), ?_⟩
    rintro⟨_,_,_,h3,_⟩
    obtain⟨i,hi,h2⟩:=h2
    refine absurd ((hw _).2 fun e he=>?_) h2
    have hl:i<r.elR.length:=by omega
    have:=h3 _ (List.getElem_mem hl) e he
    rw[zBY] at this
    exact fun k=>this k.symm
   ·rw[if_neg h2]
    have h2':∀ x∈r.elR,∀ e∈elsR l,x.id≠e.id:=fun x hx e he k=>by
     obtain⟨i,hi,rfl⟩:=List.getElem_of_mem hx
     rw[zBY] at k
     refine h2 ⟨i,by omega,fun k2=>?_⟩
     exact(hw _).1 k2 e he k.symm
    by_cases h3:8192<((elsR l).length:Int)+r.sp.n
    ·rw[if_pos h3]
     refine⟨fun h=>(by cases h), ?_⟩
     rintro⟨_,_,_,_,h4⟩
     omega
    ·rw[if_neg h3]
     exact⟨fun _=>⟨ht,hr,h1',h2',by omega⟩,fun _=>rfl⟩
 ·rw[if_neg h]
  exact⟨fun h=>(by cases h),fun k=>absurd ⟨k.1,k.2.1⟩ h⟩
theorem put_ok {l:List Rn}{r:Rn}(h:putE l r=0):∃ A0 A1 B,Put l r A0 A1 B:=by
 obtain⟨ht,hr,ha,hf,hn⟩:=zPR.1 h
 obtain⟨hE,hl⟩:=zCS ht
 have hx:r.af=Eid.z∨zB2 l r.af≠none:=by
  rcases ha with ha | ⟨e,he,ha⟩
  ·exact .inl ha
  ·exact .inr fun k=>(zJ9 ht.1 _).1 k e he ha
 obtain⟨p1,p2,p3,p4⟩:=zNS ht.1 hx
 have hi:insL l r=zBT ((zBB l r.af).1.take (zFD (zBB l r.af).1 r.sp.f (zBB l r.af).2)++[r]++(zBB l r.af).1.drop (zFD (zBB l r.af).1 r.sp.f (zBB l r.af).2)):=rfl
 generalize zBB l r.af=P at *
 obtain⟨l',n⟩:=P
 simp only at p1 p2 p3 p4 hi
 have hsp:l'=l'.take n++((l'.drop n).takeWhile fun q=>r.sp.f.less q.sp.f)++((l'.drop n).dropWhile fun q=>r.sp.f.less q.sp.f):=by
  rw[List.append_assoc,List.takeWhile_append_dropWhile,List.take_append_drop]
 have hg1:∀ q∈(l'.drop n).takeWhile fun q=>r.sp.f.less q.sp.f,r.sp.f.less q.sp.f=true:=fun q hq=>by
  have:=List.all_takeWhile (l:=l'.drop n) (p:=fun q=>r.sp.f.less q.sp.f)
  exact List.all_eq_true.1 this q hq
 have hg2:∀ q D,((l'.drop n).dropWhile fun q=>r.sp.f.less q.sp.f)=q::D→r.sp.f.less q.sp.f=false:=fun q D e=>by
  have:=List.head?_dropWhile_not (fun q:Rn=>r.sp.f.less q.sp.f) (l'.drop n)
  rw[e] at this
  simpa using this
 have hlen:(l'.take n).length=n:=by rw[List.length_take];omega
 unfold zFD at hi
 generalize hD1:(l'.drop n).takeWhile (fun q=>r.sp.f.less q.sp.f)=D1 at *
 generalize (l'.drop n).dropWhile (fun q=>r.sp.f.less q.sp.f)=D2 at *
 generalize l'.take n=T at *
 clear hD1
 have htk:l'.take (n+D1.length)=T++D1:=by
  rw[hsp,List.take_append_of_le_length (by rw[List.length_append];omega),List.take_of_length_le (by rw[List.length_append];omega)]
 have hdr:l'.drop (n+D1.length)=D2:=by
  rw[hsp,List.drop_append_of_le_length (by rw[List.length_append];omega),List.drop_of_length_le (by rw[List.length_append];omega),List.nil_append]
 rw[htk,hdr] at hi
 have hE':elsR l=elsR T++elsR D1++elsR D2:=by rw[← p3,hsp,zF1,zF1]
 have hmT:∀ q∈T,q.may=true:=fun q hq=>p2 q (by rw[hsp];simp [hq])
 have hmD1:∀ q∈D1,q.may=true:=fun q hq=>p2 q (by rw[hsp];simp [hq])
 have hmD2:∀ q∈D2,q.may=true:=fun q hq=>p2 q (by rw[hsp];simp [hq])
 have br:=Spn.may_le (Rn.may_sp hr)
 have hg:∀ x∈elsR D1,r.sp.f.less x.id=true:=fun x hx=>by
  obtain⟨q,hq,hx⟩:=List.mem_flatMap.1 hx
  exact zcE (hmD1 q hq) (hg1 q hq) x hx
 have hA:(r.af=Eid.z∧elsR T=[]) ∨ ∃ A w,elsR T=A++[w]∧w.id=r.af:=by
  rcases p4 with⟨h1,h2⟩ | h1
  ·have:T=[]:=List.eq_nil_of_length_eq_zero (by omega)
   subst this
   exact .inl ⟨h1,rfl⟩
  ·exact .inr h1
 have hB:∀ b B',elsR D2=b::B'→r.sp.f.less b.id=false:=fun b B' e=>by
  cases D2 with
  | nil=>exact absurd e (by simp [elsR])
  | cons q D =>
   have bq:=Spn.may_le (Rn.may_sp (hmD2 q List.mem_cons_self))
   have e2:elsR (q::D)=q.elR++elsR D:=by simp [elsR]
   rw[e2,zCU (by omega),List.cons_append] at e
   injection e with e _
   rw[← e]
   exact hg2 q D rfl
 have hcons:=zCU (r:=r) (by omega)
 have hT:Txt (elsR T++elsR D1++r.elR++elsR D2):=Txt.put (r:=⟨r.sp.f,r.af,r.rs.getD 0 0⟩) (by rw[← hE'];exact hE.t) hcons (zZO hr) hA (fun x hx y hy=>hf x hx y (by rw[hE'];exact hy)) hg hB
 have hmR:=zKA hr
 refine⟨elsR T,elsR D1,elsR D2,hE',hA,hg,⟨hT,fun x hx=>?_, ?_⟩, ?_⟩
 ·rcases List.mem_append.1 hx with h | h
  ·rcases List.mem_append.1 h with h | h
   ·exact hE.m x (by rw[hE'];exact List.mem_append_left _ h)
   ·exact hmR x h
  ·exact hE.m x (by rw[hE'];exact List.mem_append_right _ h)
 ·rw[hE'] at hn
  simp only[List.length_append] at hn ⊢
  omega
 ·rw[hi,(zC7 (fun q hq=>?_)).1]
  ·rw[zF1,zDA,zF1]
  ·rcases List.mem_append.1 hq with hq | hq
   ·rcases List.mem_append.1 hq with hq | hq
    ·rcases List.mem_append.1 hq with hq | hq
     ·exact hmT q hq
     ·exact hmD1 q hq
    ·rw[List.mem_singleton] at hq;subst hq;exact hr
   ·exact hmD2 q hq
theorem Put.mem {l:List Rn}{r:Rn}{A0 A1 B:List El}(h:Put l r A0 A1 B)(x:El):x∈elsR (insL l r)↔x∈elsR l∨x∈r.elR:=by
 rw[h.i,(zE6 _).1,h.e]
 simp only[List.mem_append]
 constructor
 ·exact zB0q
 ·exact zB0q
theorem zT8 {l:List Rn}{r:Rn}(h:putE l r=0)(x:El):x∈elsR (insL l r)↔x∈elsR l∨x∈r.elR:=by
 obtain⟨A0,A1,B,h⟩:=put_ok h
 exact h.mem x
theorem zTA {l:List Rn}{r:Rn}(h:putE l r=0):zE1 (insL l r):=by
 obtain⟨A0,A1,B,h⟩:=put_ok h
 rw[h.i]
 exact zMX h.t
theorem zaF {l:List Rn}{r:Rn}(h:putE l r=0):(elsR (insL l r)).length=(elsR l).length+r.elR.length:=by
 obtain⟨A0,A1,B,h⟩:=put_ok h
 rw[h.i,(zE6 _).1,h.e]
 simp only[List.length_append]
 omega
def zDU (l:List Rn):Bool:=l.all fun r=>r.af.hd.lb.leq r.sp.f.hd.lb
def upTo (v:Lb)(l:List Rn):List Rn:=zBT (l.filter fun r=>r.sp.f.hd.lb.leq v)
open Classical in
noncomputable def upE (l:List Rn)(v:Lb):Int:=if zE1 l∧v.may=true then (if zDU l=true then 0 else 2) else 8
def lowE (v:Lb)(x:El):Bool:=x.id.hd.lb.leq v
theorem zYE {r:Rn}{x:El}(h:x∈r.elR):x.id.hd=r.sp.f.hd:=by
 obtain⟨i,hi,rfl⟩:=List.getElem_of_mem h
 rw[zBY];rfl
theorem zQG (v:Lb)(l:List Rn):elsR (l.filter fun r=>r.sp.f.hd.lb.leq v)=(elsR l).filter (lowE v):=by
 induction l with
 | nil=>rfl
 | cons r l ih =>
  have he:elsR (r::l)=r.elR++elsR l:=by simp [elsR]
  rw[he,List.filter_append,← ih]
  cases h:r.sp.f.hd.lb.leq v with
  | true =>
   rw[List.filter_cons_of_pos (p:=fun r:Rn=>r.sp.f.hd.lb.leq v) h]
   have e2:elsR (r::l.filter fun r=>r.sp.f.hd.lb.leq v)=r.elR++elsR (l.filter fun r=>r.sp.f.hd.lb.leq v):=by simp [elsR]
   rw[e2]
   congr 1
   symm
   rw[List.filter_eq_self]
   exact fun x hx=>by unfold lowE;rw[zYE hx];exact h
  | false =>
   rw[List.filter_cons_of_neg (p:=fun r:Rn=>r.sp.f.hd.lb.leq v) (by rw[h];simp)]
   have:r.elR.filter (lowE v)=[]:=by
    rw[List.filter_eq_nil_iff]
    exact fun x hx=>by unfold lowE;rw[zYE hx,h];simp
   rw[this,List.nil_append]
def zRH (E:List El):Prop:=∀ x∈E,x.af.hd.lb.leq x.id.hd.lb=true
theorem zQD {l:List Rn}(h:∀ r∈l,r.may=true)(hrefl:∀ a:Lb,a.leq a=true):zDU l=true↔zRH (elsR l):=by
 unfold zDU zRH
 rw[List.all_eq_true]
 constructor
 ·intro k x hx
  obtain⟨r,hr,hx⟩:=List.mem_flatMap.1 hx
  have hk:=k r hr
  obtain⟨i,hi,rfl⟩:=List.getElem_of_mem hx
  rw[zBY]
  simp only[Spn.at]
  unfold Rn.afAt
  by_cases h0:(0:Int)<i
  ·rw[if_pos h0];exact hrefl _
  ·rw[if_neg h0];exact hk
 ·intro k r hr
  have br:=Spn.may_le (Rn.may_sp (h r hr))
  have hm:(⟨r.sp.f,r.af,r.rs.getD 0 0⟩:El)∈elsR l:=List.mem_flatMap.2 ⟨r,hr,by rw[zCU (by omega)];exact List.mem_cons_self⟩
  exact k _ hm
theorem zY5 {l:List Rn}(h:∀ r∈l,r.may=true)(v:Lb):upTo v l=zBO ((elsR l).filter (lowE v)):=by
 unfold upTo
 rw[(zC7 fun r hr=>h r (List.mem_filter.1 hr).1).1,zQG]
theorem zZN (r:Rn):r.elB=r.elR:=rfl
theorem zL9 {α:Type}[DecidableEq α]:∀ {l m:List α},l.Nodup→(∀ x∈l,x∈m)→l.length≤m.length
 | [],_,_,_=>Nat.zero_le _
 | a::l,m,hn,h=>by
  rw[List.nodup_cons] at hn
  have ha:=h a List.mem_cons_self
  have:=zL9 (l:=l) (m:=m.erase a) hn.2 fun x hx=>(List.mem_erase_of_ne (fun e=>hn.1 (by rw[← e];exact hx))).2 (h x (List.mem_cons_of_mem _ hx))
  rw[List.length_erase_of_mem ha] at this
  have:=List.length_pos_of_mem ha
  rw[List.length_cons]
  omega
theorem zM8 {α:Type}[DecidableEq α]:∀ {l m:List α},l.Nodup→(∀ x∈l,x∈m)→m.length≤l.length→m.Nodup
 | [],m,_,_,h=>by
  rw[List.length_nil] at h
  have e:m=[]:=List.eq_nil_of_length_eq_zero (by omega)
  rw[e]
  exact List.nodup_nil
 | a::l,m,hn,h,hl=>by
  have hn':=List.nodup_cons.1 hn
  have ha:=h a List.mem_cons_self
  have hs:∀ x∈l,x∈m.erase a:=fun x hx=>(List.mem_erase_of_ne (fun e=>hn'.1 (by rw[← e];exact hx))).2 (h x (List.mem_cons_of_mem _ hx))
  have hle:=List.length_erase_of_mem ha
  have hp:=List.length_pos_of_mem ha
  rw[List.length_cons] at hl
  have ih:=zM8 hn'.2 hs (by omega)
  have hna:a ∉ m.erase a:=fun hm=>by
   have:=zL9 (l:=a::l) (m:=m.erase a) hn fun x hx=>by
    rcases List.mem_cons.1 hx with rfl | hx
    ·exact hm
    ·exact hs x hx
   rw[List.length_cons] at this
   omega
  exact(List.perm_cons_erase ha).nodup_iff.2 (List.nodup_cons.2 ⟨hna,ih⟩)
end Go.Proofs.Ytdgikiebohcohaa
set_option linter.unusedSectionVars false
namespace Go.Ax
open Go
namespace NK
variable {α β : Type} {K : NK α β} {M N : Mem}
theorem ND.grow {B:Nat}{o:AV}{l:List α}(h:K.ND M B o l){i:Nat}(hi:i<l.length):∃ id cs ra,rowOf o=some id∧B≤id∧id<M.size∧M.get id=some (.row false cs)∧(∀ N,iadO N K.st o (some i)=some (.ptr id (i*K.st),N))∧slot cs (i*K.st) K.st=K.H l[i]++[ra]∧(i+1)*K.st≤cs.length∧K.InN M B (l[i],ra)∧rowOf ra≠some id ∧
  ∀ (N:Mem) (y:α) (rb:AV),M.size≤N.size→K.InN N B (y,rb)→(∀ j,rowOf rb=some j→rowOf ra=some j∨M.size≤j)→oneA rb=true→cellsA rb=[rb]→(∀ j,B≤j→j<M.size→rowOf ra≠some j→j≠id→N.get j=M.get j)→N.get id=some (.row false (lay cs (i*K.st) (K.H y++[rb])))→B≤M.size→K.ND N B o (l.set i y):=by
 obtain⟨lr,rfl,h2,h3,h4,h5,h6⟩:=h
 have hi':i<lr.length:=by simpa using hi
 rcases h2 with⟨rfl,rfl⟩ | ⟨id,rows,cap,rfl,hc,hg,hA,hr⟩
 ·exact absurd hi' (by simp)
 ·have hlen:=hA.length_eq
  have hfl:=zAN hr
  have hri:i<rows.length:=by omega
  have hn:=hA.get hri hi'
  have hrl:=hr rows[i] (List.getElem_mem hri)
  have hmem:=List.getElem_mem hi'
  have hle:(i+1)*K.st≤rows.flatten.length:=by rw[hfl];exact Nat.mul_le_mul_right _ (by omega)
  refine⟨id,rows.flatten,lr[i].2,rfl,h4 id rfl,Mem.get_lt hg,hg,fun N=>by rw[zH9 (by omega)];simp, ?_,hle, ?_,h5 _ hmem id rfl, ?_⟩
  ·rw[slot,zC1 i hr,List.drop_eq_getElem_cons hri,List.flatten_cons,List.take_append_of_le_length (by omega),List.take_of_length_le (by omega),hn.1]
   simp
  ·simpa using h3 _ hmem
  ·intro N y rb hsz hin hrb ho hcl hk hgn hB
   have hlH:(K.H y++[rb]).length=K.st:=by rw[List.length_append,List.length_singleton];exact K.hl y
   have hlay:lay rows.flatten (i*K.st) (K.H y++[rb])=(rows.set i (K.H y++[rb])).flatten:=by
    rw[lay,List.set_eq_take_append_cons_drop,if_pos hri,List.flatten_append,List.flatten_cons,hlH]
    have e1:rows.flatten.take (i*K.st)=(rows.take i).flatten:=by
     have:=zF4 (st:=K.st) i hr
     simpa using this
    have e2:rows.flatten.drop (i*K.st+K.st)=(rows.drop (i+1)).flatten:=by
     rw[show i*K.st+K.st=(i+1)*K.st by rw[Nat.succ_mul]]
     exact zC1 (i+1) hr
    rw[e1,e2,List.append_assoc]
   have hother:∀ j (hj:j<lr.length),j≠i→K.InN N B lr[j]:=fun j hj e=>by
    have hmj:=List.getElem_mem hj
    refine(h3 _ hmj).keep fun q hq=>hk q ((h3 _ hmj).2.1 q hq) ((h3 _ hmj).lt q hq) (fun hrow=>?_) (fun e=>h5 _ hmj id rfl (by rw[hq,e]))
    rcases Nat.lt_or_gt_of_ne e with e' | e'
    ·exact List.pairwise_iff_getElem.1 h6 j i hj hi' e' q hq hrow
    ·exact List.pairwise_iff_getElem.1 h6 i j hi' hj e' q hrow hq
   refine⟨lr.set i (y,rb),by rw[List.map_set],.inr ⟨id,rows.set i (K.H y++[rb]),cap,by simp,by simpa using hc,by rw[← hlay];exact hgn,hA.set2 i ⟨rfl,ho,hcl⟩,fun r hr'=>?_⟩,fun x hx=>?_,h4,fun x hx=>?_, ?_⟩
   ·rcases List.mem_or_eq_of_mem_set hr' with h | rfl
    ·exact hr r h
    ·exact hlH
   ·obtain⟨j,hj,rfl⟩:=List.getElem_of_mem hx
    rw[List.length_set] at hj
    by_cases e:i=j
    ·subst e
     rw[List.getElem_set_self]
     exact hin
    ·rw[List.getElem_set_ne e]
     exact hother j hj (fun h=>e h.symm)
   ·rcases List.mem_or_eq_of_mem_set hx with hx' | rfl
    ·exact h5 x hx'
    ·intro j hj e
     have hj:some id=some j:=hj
     cases hj
     rcases hrb id e with h | h
     ·exact h5 _ hmem id rfl h
     ·have:=Mem.get_lt hg
      omega
   ·rw[List.pairwise_iff_getElem]
    intro p q hp hq hpq
    rw[List.length_set] at hp hq
    intro j hj e
    by_cases e1:i=p
    ·subst e1
     rw[List.getElem_set_self] at hj
     rw[List.getElem_set_ne (by omega)] at e
     have b:=(h3 _ (List.getElem_mem hq)).lt j e
     rcases hrb j hj with h | h
     ·exact List.pairwise_iff_getElem.1 h6 i q hi' hq hpq j h e
     ·omega
    ·rw[List.getElem_set_ne e1] at hj
     by_cases e2:i=q
     ·subst e2
      rw[List.getElem_set_self] at e
      have b:=(h3 _ (List.getElem_mem hp)).lt j hj
      rcases hrb j e with h | h
      ·exact List.pairwise_iff_getElem.1 h6 p i hp hi' hpq j hj h
      ·omega
     ·rw[List.getElem_set_ne e2] at e
      exact List.pairwise_iff_getElem.1 h6 p q hp hq hpq j hj e
end NK
end Go.Ax
namespace Go.Proofs.Ytdgikiebohcohaa
open Go Go.Ax
variable {fuel : Nat} {M : Mem} {Q : AV → Mem → Prop} {d : Nat}
def Fit (q:Rn):Prop:=(1≤q.sp.n∧q.sp.n≤64)∧(q.rs.length:Int)=q.sp.n∧(0≤q.sp.f.c∧q.sp.f.c≤1099511627776)∧q.ok
def FitX (x:El):Prop:=0≤x.id.c∧x.id.c≤1099511627776∧x.id.ok∧x.af.ok ∧ -2147483648≤x.ch∧x.ch≤2147483647
theorem zJG (E:List El)(x:El):zBO (E++[x])=addX (zBO E) x:=by simp [zBO]
theorem zNM {x:El}(h:FitX x):Fit (one x):=by
 obtain⟨h1,h2,h3,h4,h5⟩:=h
 refine⟨⟨Int.le_refl _,by show (1:Int)≤64;omega⟩,rfl,⟨h1,h2⟩,⟨h3,by show i64R 1;unfold i64R;omega⟩,h4,fun y hy=>?_⟩
 have e:y=x.ch:=by simpa [one] using hy
 rw[e];exact h5
theorem zP0 {q:Rn}{x:El}(hq:Fit q)(h:FitX x)(hg:goes q x=true):Fit (more q x):=by
 obtain⟨⟨a1,a2⟩,a3,a4,a5⟩:=hq
 have hn:q.sp.n<64:=by
  unfold goes at hg
  simp only[Bool.and_eq_true,decide_eq_true_eq] at hg
  exact hg.1.1
 refine⟨⟨by show 1≤q.sp.n+1;omega,by show q.sp.n+1≤64;omega⟩,by simp only[more,List.length_append,List.length_singleton];omega,a4,⟨a5.1.1,by show i64R (q.sp.n+1);unfold i64R;omega⟩,a5.2.1,fun y hy=>?_⟩
 rcases List.mem_append.1 hy with hy | hy
 ·exact a5.2.2 y hy
 ·rw[List.mem_singleton] at hy;subst hy;exact h.2.2.2.2
theorem zOP {out:List Rn}{x:El}(ho:∀ q∈out,Fit q)(h:FitX x):∀ q∈addX out x,Fit q:=by
 rcases zCJ out with rfl | ⟨o,q,rfl⟩
 ·rw[zFW]
  intro y hy
  rw[List.mem_singleton] at hy;subst hy;exact zNM h
 ·rw[zCY]
  split
  ·rename_i hg
   intro y hy
   rcases List.mem_append.1 hy with hy | hy
   ·exact ho y (List.mem_append_left _ hy)
   ·rw[List.mem_singleton] at hy;subst hy;exact zP0 (ho q (by simp)) h hg
  ·intro y hy
   rcases List.mem_append.1 hy with hy | hy
   ·exact ho y hy
   ·rw[List.mem_singleton] at hy;subst hy;exact zNM h
theorem zOQ (out:List Rn)(x:El):(addX out x).length≤out.length+1:=by
 rcases zCJ out with rfl | ⟨o,q,rfl⟩
 ·rw[zFW];simp
 ·rw[zCY]
  split <;> simp
def zLQ (out:List Rn)(x:El):Bool:=match out.getLast? with
 | none=>false
 | some q=>goes q x
theorem za3 {out:List Rn}{x:El}(h:zLQ out x=false):addX out x=out++[one x]:=by
 unfold zLQ at h
 unfold addX
 cases hg:out.getLast? with
 | none=>rfl
 | some q=>rw[hg] at h;simp only at h;simp only[h,Bool.false_eq_true,if_false]
theorem za5 {out:List Rn}{x:El}(h:zLQ out x=true):∃ (n:Nat) (hn:n<out.length),out.length=n+1∧goes out[n] x=true∧addX out x=out.set n (more out[n] x):=by
 rcases zCJ out with rfl | ⟨o,q,rfl⟩
 ·cases h
 ·unfold zLQ at h
  rw[List.getLast?_concat] at h
  simp only at h
  refine⟨o.length,by simp,by simp,by simpa using h, ?_⟩
  unfold addX
  rw[List.getLast?_concat]
  simp only[h,if_true]
  simp
theorem za4 {out:List Rn}{x:El}{n:Nat}(hn:n<out.length)(h:out.length=n+1):zLQ out x=goes out[n] x:=by
 unfold zLQ
 rw[List.getLast?_eq_getElem?,h,Nat.add_sub_cancel,List.getElem?_eq_getElem hn]
theorem zO4 {ra:AV}{q:Rn}{x:El}(hS:Sl 1 zAY ra q.rs)(hq:Fit q)(M:Mem):zCN fuel (d+2) 90 [.agg (rnR q ra),.agg (elR9 x)] M=some (BL (goes q x),M):=by
 obtain⟨⟨a1,a2⟩,a3,a4,a5⟩:=hq
 have ora:=hS.one
 have hi:=fun n M=>zGA (fuel:=fuel) (d:=d) hS n M
 apply zBA
 refine zK6 tf90 rfl (by simp only[icyL,zBX hS.fz,zBS (zGQ x) (show 1<12 by omega)]) (by simp [a90]) fun b' ht hx=>?_
 obtain⟨h0,h1⟩:=hx2 hx
 clear hx
 simp only[a90,c90] at ht ⊢
 unfold goes Spn.at
 have w1:IntKind.i64.wrap (q.sp.n - 1)=q.sp.n - 1:=wrap_i64 (by omega) (by omega)
 have w2:IntKind.i64.wrap (q.sp.f.c+(q.sp.n - 1))=q.sp.f.c+(q.sp.n - 1):=wrap_i64 (by omega) (by omega)
 have w3:IntKind.i64.wrap (q.sp.f.c+q.sp.n)=q.sp.f.c+q.sp.n:=wrap_i64 (by omega) (by omega)
 cases q1:decide (q.sp.n<64) with
 | false=>simp (disch:=try exact SX) only[RV,seval,zA0,h0,h1,hS.fz.rows,hS.fz.one,hS.fz.cells,hS.fz.icy,hS.fz.frz,q1,Bool.false_and,zL3]
 | true =>
  cases q2:decide (x.af=(⟨q.sp.f.hd,q.sp.f.c+(q.sp.n - 1)⟩:Eid)) with
  | false=>simp (disch:=try exact SX) only[RV,seval,zA0,h0,h1,hS.fz.rows,hS.fz.one,hS.fz.cells,hS.fz.icy,hS.fz.frz,q1,↓pIdE,zAE,↓pIdN,zAB,↓pHdE,zAC,↓pHdN,zAD,↓pLbE,zAF,↓pLbN,zAG,↓pSpE,zAH,↓pSpN,zAI,ETA,q2,w1,w2,hi,Bool.false_and,Bool.true_and,zL3]
  | true=>simp (disch:=try exact SX) only[RV,seval,zA0,h0,h1,hS.fz.rows,hS.fz.one,hS.fz.cells,hS.fz.icy,hS.fz.frz,q1,↓pIdE,zAE,↓pIdN,zAB,↓pHdE,zAC,↓pHdN,zAD,↓pLbE,zAF,↓pLbN,zAG,↓pSpE,zAH,↓pSpN,zAI,ETA,q2,w1,w2,w3,hi,Bool.true_and,zL3]
theorem zIT {ra:AV}{q:Rn}{x:El}(hS:SlM M 1 zAY ra q.rs)(wf:Wf M)(hq:Fit q):zCN fuel (d+2) 90 [.agg (rnR q ra),.agg (elR9 x)] M=some (BL (goes q x),M):=by
 obtain⟨a',N',i1,b1,_⟩:=zHN (H:=rnH q) (zI9 q) hS wf zD4 (k:=12) (by omega)
 have i1:icy 12 M (.agg (rnR q ra))=some (.agg (rnR q a'),N'):=i1
 exact zI1 (bs:=[.agg (rnR q a'),.agg (elR9 x)]) tf90 rfl (zO4 b1 hq mem0) (M3:=mem0) (M2:=N') (by simp only[icyL,zBX b1.fz,zBS (zGQ x) (show 1<12 by omega)]) (by simp only[icyL,i1,zBS (zGQ x) (show 1<12 by omega)])
theorem zWQ {cs:List AV}{k:Nat}{x y:Rn}{ra rb:AV}(h:slot cs k 10=rnR x ra)(hl:k+10≤cs.length)(hf:y.sp.f=x.sp.f)(ha:y.af=x.af):lay (lay cs (k+4) [I64 y.sp.n]) (k+9) [rb]=lay cs k (rnR y rb):=by
 have h2:(cs.drop k).take 10=rnR x ra:=h
 have e4:cs.take (k+4)=cs.take k++(rnR x ra).take 4:=by
  exact zB0G
 have e5:cs.drop (k+5)=(rnR x ra).drop 5++cs.drop (k+10):=by
  exact zB0c
 have lk:(cs.take k).length=k:=by rw[List.length_take];omega
 have e6:lay cs (k+4) [I64 y.sp.n]=cs.take k++(rnR y ra++cs.drop (k+10)):=by
  unfold lay
  rw[e4,show k+4+[I64 y.sp.n].length=k+5 from rfl,e5]
  simp [hf,ha]
 rw[e6]
 unfold lay
 have d1:(cs.take k).drop (k+9+[rb].length)=[]:=List.drop_of_length_le (by rw[lk];simp;omega)
 have d2:(cs.take k).take (k+9)=cs.take k:=List.take_of_length_le (by omega)
 rw[List.take_append,List.drop_append,lk,d1,d2,show k+9 - k=9 by omega,show k+9+[rb].length - k=10 by simp;omega]
 simp
theorem zWS {cs:List AV}{k j:Nat}{v:AV}(h:k+1≤j)(hk:k<cs.length):(cs.take k++[v]++cs.drop (k+1))[j]? = cs[j]? := by
 rw[List.getElem?_append_right (by simp;omega),List.getElem?_drop]
 congr 1
 simp
 omega
theorem zFQ {a:AV}{E:List El}(hS:Sl 9 isEl a E)(hx:∀ x∈E,FitX x)(hl:E.length≤100000)(hf:E.length+1000<fuel):∃ r,Sl 10 isRn r (zBO E) ∧ ∀ M,zCN fuel (d+3) 67 [a] M=some (r,M):=by
 have ll:=hS.len
 refine zHI tf67 rfl (fun M=>by simp only[icyL,fun M=>hS.icy M 12 (by omega)]) ?_
 refine zAL tf67 rfl (by simp only[icyL,fun M=>hS.icy M 12 (by omega)]) (by simp [a67]) fun b' ht hx=>?_
 have h0:=hx 0 _ rfl
 clear hx
 simp only[a67,c67] at ht ⊢
 simp (disch:=try exact SX) only[RV,seval,zA0,h0,hS.fz.rows,hS.fz.one,hS.fz.cells,hS.fz.icy,hS.fz.frz]
 refine zB7 (I:=fun n t N => ∃ (i:Nat) (o:AV),n=E.length - i∧i≤E.length∧nth zA3 t 0=a∧nth zA3 t 3=o∧nth zA3 t 4=I64 i∧Wf N∧rnK.ND N 0 o (zBO (E.take i))∧(zBO (E.take i)).length≤i∧(∀ q∈zBO (E.take i),Fit q)) (n:=E.length) (by omega) ?_ ?_
 ·refine⟨0,NIL,rfl,Nat.zero_le _, ?_, ?_, ?_,Wf.mem0,NK.ND.nil _ _,Nat.le_refl 0,(fun _ h=>by cases h)⟩ <;> simp (disch:=try exact SX) only[RV,seval,zA0,h0]
  all_goals first | rfl | assumption | done
 ·rintro n t N hlt ⟨i,o,rfl,hi,g0,g3,g4,w,sm,bl,bf⟩
  simp only[ht] at hlt ⊢
  obtain⟨oo,oc,orl,olen,opu,olt⟩:=ND.lr sm
  by_cases hc:i<E.length
  ·have q1:decide ((i:Int)<E.length)=true:=DT
   have w1:IntKind.i64.wrap ((i:Int)+1)=((i+1:Nat):Int):=WI
   obtain⟨r,hiad,⟨rfl,hxok⟩,_⟩:=hS.iad i hc
   have hts:zBO (E.take (i+1))=addX (zBO (E.take i)) E[i]:=by rw[zB4 E i hc,zJG]
   have hfx:=hx E[i] (List.getElem_mem hc)
   have hal:=zOQ (zBO (E.take i)) E[i]
   have haf:=zOP bf hfx
   rw[← hts] at hal haf
   generalize E[i]=x at *
   generalize zBO (E.take i)=out at *
   have rlo:∀ m,N.size≤m→((rowsOf o).all fun i=>Nat.blt i m)=true:=fun m h=>zAM orl h
   have hnone:zLQ out x=false→addX out x=out++[one x]:=za3
   cases hg1:zLQ out x with
   | false =>
    rw[hnone hg1] at hts
    have hcase:out.length=0∨0<out.length:=by omega
    have olen':∀ N,lenO N o=some (I64 out.length,N):=olen
    have wU:Wf (N.add (.row false [I32 x.ch])):=w.add _
    have ra0:((rowsOf (.sl N.size 0 1 (some 1) 1)).all fun i=>Nat.blt i (N.size+1))=true:=by simp [rowsOf,Nat.blt]
    rcases hcase with hz | hz
    case' inl =>
     have q2:decide ((0:Int)<out.length)=false:=DF
     simp (disch:=try exact SX) only[RV,seval,zA0,g0,g3,g4,ll,q1,hS.fz.rows,hS.fz.one,hS.fz.cells,hS.fz.icy,hS.fz.frz,hiad,olen',q2,oo,oc,w]
    case' inr =>
     have q2:decide ((0:Int)<out.length)=true:=DT
     obtain⟨n,hn⟩:∃ n:Nat,out.length=n+1:=⟨out.length - 1,by omega⟩
     have hnl:n<out.length:=by omega
     have w2:IntKind.i64.wrap ((out.length:Int) - 1)=(n:Int):=WI
     obtain⟨id,cs,ra,hrow,_,lid,hg,hiad2,hsl,hcs,hin,hne,hput⟩:=NK.ND.grow sm hnl
     have hcs:(n+1)*10≤cs.length:=hcs
     have hsl:slot cs (n*10) 10=rnR out[n] ra:=hsl
     have hiad2:∀ N,iadO N 10 o (some n)=some (.ptr id (n*10),N):=hiad2
     have hpt:=zED (off:=0) (n:=10) (ag:=true) hsl (by omega) (by omega)
     rw[Nat.add_zero] at hpt
     have hpt:Go.Ax.part cs (n*10) 10 true=some (.agg (rnR out[n] ra)):=hpt
     have hgo:=zIT (fuel:=fuel) (d:=d) (M:=N.lo) (x:=x) (hin.1.keep fun _ _=>rfl) (by rw[zHJ];exact w) (bf out[n] (List.getElem_mem hnl))
     rw[← za4 hnl hn,hg1] at hgo
     simp (disch:=try exact SX) only[RV,seval,zA0,g0,g3,g4,ll,q1,hS.fz.rows,hS.fz.one,hS.fz.cells,hS.fz.icy,hS.fz.frz,hiad,olen',q2,oo,oc,w,w2,hiad2,hg,hpt,hgo,zC2,zAK]
    all_goals
     refine⟨rlo _ (by omega), ?_⟩
     refine NK.ND.app (K:=rnK) (M:=N) (ra:=.sl N.size 0 1 (some 1) 1) (x:=one x) (by':=80) wU sm (fun j _ hj=>zAP w _ _ hj) (by show N.size≤N.size+1;omega) ⟨rfl,rfl,rfl⟩ ⟨.inr ⟨N.size,[[I32 x.ch]],some 1,rfl,.inr rfl,zAO w _ _ (Nat.le_refl _) (Nat.lt_succ_self _),.cons rfl .nil,by simp⟩,fun j _=>Nat.zero_le j,(zNM hfx).2.2.2⟩ (fun j hj=>by cases hj;exact Nat.le_refl _) (by omega) (by omega) (Nat.zero_le _) fun o' M' sm' w' le' kp nw wm'=>?_
     obtain⟨oo',oc',orl',olen',opu',olt'⟩:=ND.lr sm'
     simp (disch:=try exact SX) only[RV,seval,zA0,g0,g3,g4,w1,oo',oc',w']
     exact⟨hlt,E.length - (i+1),by omega,i+1,o',rfl,by omega,rfl,rfl,by rw[hts];exact sm',by omega,haf⟩
   | true =>
    obtain⟨n,hnl,hn,hgs,hadd⟩:=za5 hg1
    rw[hadd] at hts
    have q2:decide ((0:Int)<out.length)=true:=DT
    have olen':∀ N,lenO N o=some (I64 out.length,N):=olen
    have w2:IntKind.i64.wrap ((out.length:Int) - 1)=(n:Int):=WI
    obtain⟨id,cs,ra,hrow,_,lid,hg,hiad2,hsl,hcs,hin,hne,hput⟩:=NK.ND.grow sm hnl
    have hcs:(n+1)*10≤cs.length:=hcs
    have hsl:slot cs (n*10) 10=rnR out[n] ra:=hsl
    have hiad2:∀ N,iadO N 10 o (some n)=some (.ptr id (n*10),N):=hiad2
    have hfq:=bf out[n] (List.getElem_mem hnl)
    have hpt:=zED (off:=0) (n:=10) (ag:=true) hsl (by omega) (by omega)
    rw[Nat.add_zero] at hpt
    have hpt:Go.Ax.part cs (n*10) 10 true=some (.agg (rnR out[n] ra)):=hpt
    have hgo:=zIT (fuel:=fuel) (d:=d) (M:=N.lo) (x:=x) (hin.1.keep fun _ _=>rfl) (by rw[zHJ];exact w) hfq
    rw[hgs] at hgo
    have hpn:=zG6 hsl (show 4<10 by omega)
    have hpn:cs[n*10+4]? = some (I64 out[n].sp.n):=hpn
    have hpl:=zG6 hsl (show 9<10 by omega)
    have hpl:cs[n*10+9]? = some ra:=hpl
    generalize out[n]=q at *
    have hmok:=(zP0 hfq hfx hgs).2.2.2
    obtain⟨⟨fa,fb⟩,fc,fd,fe⟩:=hfq
    have w3:IntKind.i64.wrap (q.sp.n+1)=q.sp.n+1:=wrap_i64 (by omega) (by omega)
    have ora:=hin.1.one
    have cra:=hin.1.cells
    have hpl2:=zWS (cs:=cs) (k:=n*10+4) (j:=n*10+9) (v:=.sc (.int .i64 (q.sp.n+1))) (by omega) (by omega)
    rw[hpl] at hpl2
    have wD:Wf (N.upd id (.row false (cs.take (n*10+4)++[.sc (.int .i64 (q.sp.n+1))]++cs.drop (n*10+4+1)))):=w.upd _ _
    have sD:SlM (N.upd id (.row false (cs.take (n*10+4)++[.sc (.int .i64 (q.sp.n+1))]++cs.drop (n*10+4+1)))) 1 zAY ra q.rs:=hin.1.keep fun j hj=>zA2 w _ _ _ (fun e=>hne (by rw[hj,e]))
    have rra:=zAM hin.1.rl (show N.size≤N.size+1 by omega)
    have hrl:q.rs.length≤64:=by omega
    simp (disch:=try exact SX) only[RV,seval,zA0,g0,g3,g4,ll,q1,hS.fz.rows,hS.fz.one,hS.fz.cells,hS.fz.icy,hS.fz.frz,hiad,olen',q2,oo,oc,w,w2,hiad2,hg,hpt,hgo,zC2,zAK,hpn,hpl2,w3,ora,cra,rra]
    have hlg:=fun rb=>zWQ (y:=more q x) (rb:=rb) hsl (by omega) rfl rfl
    have hlg:∀ rb,lay (cs.take (n*10+4)++[.sc (.int .i64 (q.sp.n+1))]++cs.drop (n*10+4+1)) (n*10+9) [rb]=lay cs (n*10) (rnR (more q x) rb):=hlg
    have hCl:(cs.take (n*10+4)++[AV.sc (.int .i64 (q.sp.n+1))]++cs.drop (n*10+4+1)).length=cs.length:=by simp;omega
    have gid0:=zAJ w (.row false (cs.take (n*10+4)++[.sc (.int .i64 (q.sp.n+1))]++cs.drop (n*10+4+1))) id lid
    have gne0:=fun j hj=>zA2 w (.row false (cs.take (n*10+4)++[.sc (.int .i64 (q.sp.n+1))]++cs.drop (n*10+4+1))) id j hj
    generalize cs.take (n*10+4)++[AV.sc (.int .i64 (q.sp.n+1))]++cs.drop (n*10+4+1)=C at *
    refine app1 (bytes:=4) wD sD zD4 (x:=x.ch) rfl rfl (by omega) (by omega) (by omega) fun o' M' sm' w' le' kp' nw' wm' rl' on' oc'=>?_
    have le':N.size≤M'.size:=le'
    have gid:M'.get id=some (.row false C):=by
     rw[kp' id (by exact lid) hne];exact gid0
    have bid:Nat.blt id M'.size=true:=zD6 (by omega)
    have hC10:n*10+9+1≤C.length:=by omega
    have lM:id<M'.size:=by omega
    have hro:∀ j,rowOf o'=some j→j≠id:=fun j hj e=>by
     rcases nw' j hj with h | h
     ·exact hne (by rw[h,e])
     ·have h:N.size≤j:=h
      omega
    have hfin:rnK.ND (M'.upd id (.row false (lay C (n*10+9) [o']))) 0 o (out.set n (more q x)):=by
     refine hput _ (more q x) o' (by show N.size≤M'.size;exact le') ⟨sm'.keep fun j hj=>zA2 w' _ _ _ (hro j hj).symm,fun j _=>Nat.zero_le j,hmok⟩ (fun j hj=>nw' j hj) on' oc' (fun j _ hj h1 h2=>?_) ?_ (Nat.zero_le _)
     ·rw[zA2 w' _ _ _ (fun e=>h2 e.symm),kp' j (by exact hj) h1,gne0 j (fun e=>h2 e.symm)]
     ·rw[zAJ w' _ _ lM,hlg];rfl
    simp (disch:=try exact SX) only[RV,seval,zA0,g0,g3,g4,w1,on',oc',w',rl',gid,hiad2,oo,oc,bid]
    exact⟨hlt,E.length - (i+1),by omega,i+1,o,rfl,by omega,rfl,rfl,by rw[hts];exact hfin,by omega,haf⟩
  ·obtain rfl:i=E.length:=by omega
   have q1:decide ((E.length:Int)<E.length)=false:=DF
   rw[List.take_length] at sm
   obtain⟨r,hz,hsr⟩:=sm.nn.frz (k:=11) (by omega)
   have hz:=hz N fun _ _=>rfl
   simp (disch:=try exact SX) only[RV,seval,zA0,g0,g3,g4,ll,q1,hS.fz.rows,hS.fz.one,hS.fz.cells,hS.fz.icy,hS.fz.frz,hz,oo]
   exact⟨r,hsr,rfl⟩
variable {x : Eid} {l : List Op}
def idV (x:Eid):List Value:=[.int .u8 x.hd.lb.lv,.int .u32 x.hd.lb.cats,.int .u8 x.hd.num,.int .i64 x.c]
theorem zYM (x:Eid):PT.iss [.st [.st [.int .u8,.int .u32],.int .u8],.int .i64] (idV x):=by
 simp only[PT.iss,PT.is]
 exact⟨[.int .u8 x.hd.lb.lv,.int .u32 x.hd.lb.cats,.int .u8 x.hd.num],[.int .i64 x.c],rfl,⟨[.int .u8 x.hd.lb.lv,.int .u32 x.hd.lb.cats],[.int .u8 x.hd.num],rfl,⟨[.int .u8 x.hd.lb.lv],[.int .u32 x.hd.lb.cats],rfl,⟨_,rfl⟩,⟨[.int .u32 x.hd.lb.cats],[],rfl,⟨_,rfl⟩,rfl⟩⟩,⟨[.int .u8 x.hd.num],[],rfl,⟨_,rfl⟩,rfl⟩⟩,⟨[.int .i64 x.c],[],rfl,⟨_,rfl⟩,rfl⟩⟩
theorem za8 (x y:Eid):idV x=idV y↔x=y:=by
 obtain⟨⟨⟨a,b⟩,c⟩,e⟩:=x
 obtain⟨⟨⟨a',b'⟩,c'⟩,e'⟩:=y
 simp [idV,and_assoc]
theorem id_ck (b:Bool)(n1 n2 n3 n4:Int):(zAQ Try.prog (Instr.checkKey b 10000 29 (.agg #[.int .u8 n1,.int .u32 n2,.int .u8 n3,.int .i64 n4]))).isSome=true:=by
 cases b <;> kernel_rfl
def zQP:KeyT Try.prog 29 idA where
 val x:=.agg (idV x).toArray
 hval x:=rfl
 ck b x:=id_ck b _ _ _ _
 eq x y:=by
  obtain⟨r,h1,h2⟩:=PT.eq (P:=Try.prog) (.st [.st [.st [.int .u8,.int .u32],.int .u8],.int .i64]) 29 10000 (by kernel_rfl) (by decide) (xs:=idV x) (ys:=idV y) (by simpa only[PT.is] using zYM x) (by simpa only[PT.is] using zYM y)
  have e:r=decide (x=y):=by
   rw[Bool.eq_iff_iff,h2,za8]
   simp
  rw[← e]
  exact h1
 same x:=by simp [Instr.sameBits,idV]
def cO1:ACode:=(.seq (.region [⟨some 5,.alloc 29 (.agg #[(.int .u8 0),(.int .u32 0),(.int .u8 0),(.int .i64 0)]),none,[]⟩,⟨none,.store 4 (.tmp 5) (.tmp 12),none,[]⟩] false) (.region [⟨some 6,.alloc 29 (.agg #[(.int .u8 0),(.int .u32 0),(.int .u8 0),(.int .i64 0)]),none,[]⟩,⟨none,.store 4 (.tmp 6) (.tmp 13),none,[]⟩] false))
def cO2:ACode:=(.block 1 (.scope (.seq (.region [⟨some 7,.alloc 29 (.agg #[(.int .u8 0),(.int .u32 0),(.int .u8 0),(.int .i64 0)]),none,[]⟩] false) (.seq .label (.seq (.block 2 (.loop (.seq (.seq (.region [⟨some 14,.load 1 false (.tmp 3),none,[]⟩,⟨some 15,.len (.tmp 14),none,[]⟩,⟨some 16,.pur (mkO (.binOp .gtr 3 (.tmp 15) (.const (.int .i64 0)) 3) 4),none,[]⟩] false) (.cond (.tmp 16) .skip (.exit 2))) (.block 3 (.seq (.region [⟨some 17,.load 1 false (.tmp 3),none,[]⟩,⟨some 18,.load 1 false (.tmp 3),none,[]⟩,⟨some 19,.len (.tmp 18),none,[]⟩,⟨some 20,.pur (mkO (.binOp .sub 3 (.tmp 19) (.const (.int .i64 1)) 3) 3),none,[]⟩,⟨some 21,.iad 4 (.tmp 17) (.tmp 20),none,[]⟩,⟨some 22,.load 4 true (.tmp 21),none,[]⟩,⟨some 8,.alloc 29 (.agg #[(.int .u8 0),(.int .u32 0),(.int .u8 0),(.int .i64 0)]),none,[]⟩,⟨none,.store 4 (.tmp 8) (.tmp 22),none,[]⟩] false) (.seq (.seq (.region [⟨some 23,.load 4 true (.tmp 8),none,[]⟩,⟨some 24,.load 4 true (.tmp 6),none,[]⟩,⟨some 25,.pur (mkO (.binOp .eql 29 (.tmp 23) (.tmp 24) 29) 4),none,[]⟩] false) (.cond (.tmp 25) (.exit 2) .skip)) (.region [⟨some 26,.load 4 true (.tmp 8),none,[1,2,3,4,5]⟩,⟨some 27,.load 1 false (.tmp 3),none,[0,2,3,4,6]⟩,⟨some 28,.load 1 false (.tmp 3),none,[0,1,6]⟩,⟨some 29,.len (.tmp 28),none,[0,1,6]⟩,⟨some 30,.pur (mkO (.binOp .sub 3 (.tmp 29) (.const (.int .i64 1)) 3) 3),none,[0,1,6]⟩,⟨some 31,.slc 4 (.tmp 27) none (some (.tmp 30)) none,none,[0,6]⟩,⟨none,.store 4 (.tmp 7) (.tmp 26),none,[1,2,3,4,5]⟩,⟨none,.store 1 (.tmp 3) (.tmp 31),none,[]⟩] true))))))) (.seq (.seq (.region [⟨some 32,.load 1 false (.tmp 3),none,[]⟩,⟨some 33,.len (.tmp 32),none,[]⟩,⟨some 34,.pur (mkO (.binOp .eql 3 (.tmp 33) (.const (.int .i64 0)) 3) 4),none,[]⟩,⟨some 35,.mov (.tmp 34),none,[]⟩,⟨some 36,.load 4 true (.tmp 6),some (35,true),[]⟩,⟨some 37,.build (.agg #[(.int .u8 0),(.int .u32 0),(.int .u8 0),(.int .i64 0)]) [],some (35,true),[]⟩,⟨some 38,.pur (mkO (.binOp .neq 29 (.tmp 36) (.tmp 37) 29) 4),some (35,true),[]⟩,⟨some 39,.pick (.tmp 35) (.tmp 38) (.const (.bool false)),none,[]⟩,⟨some 40,.mov (.tmp 39),none,[]⟩,⟨some 41,.load 4 true (.tmp 7),some (40,false),[]⟩,⟨some 42,.build (.agg #[(.int .u8 0),(.int .u32 0),(.int .u8 0),(.int .i64 0)]) [],some (40,false),[]⟩,⟨some 43,.pur (mkO (.binOp .neq 29 (.tmp 41) (.tmp 42) 29) 4),some (40,false),[]⟩,⟨some 44,.mov (.tmp 43),some (40,false),[]⟩,⟨some 45,.load 4 true (.tmp 5),some (44,true),[]⟩,⟨some 46,.load 4 true (.tmp 7),some (44,true),[]⟩,⟨some 47,.call (.func 28) [(.tmp 45),(.tmp 46)],some (44,true),[]⟩,⟨some 48,.pur (mkO (.unOp .not 4 (.tmp 47)) 4),some (44,true),[]⟩,⟨some 49,.pick (.tmp 44) (.tmp 48) (.const (.bool false)),some (40,false),[]⟩,⟨some 50,.pick (.tmp 40) (.const (.bool true)) (.tmp 49),none,[]⟩,⟨some 51,.mov (.tmp 50),none,[]⟩,⟨some 52,.load 1 false (.tmp 4),some (51,false),[]⟩,⟨some 53,.load 4 true (.tmp 5),some (51,false),[]⟩,⟨some 54,.lookup 29 (.int .i64 0) (.tmp 52) (.tmp 53) false,some (51,false),[]⟩,⟨some 55,.pur (mkO (.binOp .gtr 3 (.tmp 54) (.const (.int .i64 0)) 3) 4),some (51,false),[]⟩,⟨some 56,.pick (.tmp 51) (.const (.bool true)) (.tmp 55),none,[]⟩] false) (.cond (.tmp 56) (.seq (.region [⟨none,.store 1 (.tmp 2) (.const (.bool false)),none,[]⟩] false) .ret) .skip)) (.seq (.region [⟨some 57,.load 1 false (.tmp 4),none,[]⟩,⟨some 58,.load 4 true (.tmp 5),none,[]⟩,⟨none,.mupd 29 (.tmp 57) (.tmp 58) (.const (.int .i64 1)),none,[]⟩] false) (.region [⟨some 59,.load 1 false (.tmp 3),none,[]⟩,⟨some 60,.load 4 true (.tmp 5),none,[]⟩,⟨some 61,.bsl 29 4 (.agg #[(.int .u8 0),(.int .u32 0),(.int .u8 0),(.int .i64 0)]) 1 [(0,4,(.tmp 60))],none,[]⟩,⟨some 62,.app 29 4 24 (.agg #[(.int .u8 0),(.int .u32 0),(.int .u8 0),(.int .i64 0)]) (.tmp 59) (.tmp 61),none,[]⟩,⟨none,.store 1 (.tmp 3) (.tmp 62),none,[]⟩] false))))))))
structure OI (tm:List AV) (pre:List (Eid × Eid)) (O:Nat→Prop) (N:Mem):Prop where
 wf:Wf N
 sz:7≤N.size
 g0:N.get 0=some (.row false [BL false])
 g1:∃ o,N.get 1=some (.row false [o])∧SlP N 4 zDJ o (stk pre).reverse ∧ ∀ j,rowOf o=some j→O j∧7≤j
 g2:∃ obj,N.get 2=some obj∧zN3 idA (I64 1) obj (pre.map (·.1))
 g3:N.get 3=some (.row false [.mp 2])
 g5:N.get 5=some (.dfr false)
 g6:N.get 6=some (.loop .ready none tm [12,13] cO1 cO2 5)
 o1:O 1
 o2:O 2
 o6:O 6
 ol:∀ j,O j→j<N.size∧(j=1∨j=2∨6≤j)
 od:Ord pre
theorem OI.keep {tm:List AV}{pre:List (Eid × Eid)}{O:Nat→Prop}{N N':Mem}(h:OI tm pre O N)(wf:Wf N')(hs:N.size≤N'.size)(k:∀ j,j<N.size→N'.get j=N.get j):OI tm pre O N':=by
 have:=h.sz
 obtain⟨o,h1,h2,h3⟩:=h.g1
 obtain⟨obj,h4,h5⟩:=h.g2
 exact⟨wf,by omega,(k 0 (by omega)).trans h.g0,⟨o,(k 1 (by omega)).trans h1,h2.keep fun j hj=>k j (h2.lt j hj),h3⟩,⟨obj,(k 2 (by omega)).trans h4,h5⟩,(k 3 (by omega)).trans h.g3,(k 5 (by omega)).trans h.g5,(k 6 (by omega)).trans h.g6,h.o1,h.o2,h.o6,fun j hj=>⟨by have:=(h.ol j hj).1;omega,(h.ol j hj).2⟩,h.od⟩
structure OS (tm:List AV) (N:Mem):Prop where
 wf:Wf N
 sz:7≤N.size
 g0:N.get 0=some (.row false [BL false])
 g5:N.get 5=some (.dfr false)
 g6:N.get 6=some (.loop .done (some .ret) tm [12,13] cO1 cO2 5)
theorem zF7:FzT zDJ:=fun r x h y hy=>by
 obtain⟨rfl,_⟩:=h
 exact zEN x y hy
theorem zPQ (af:Eid):∀ (s:List Eid) (el:Eid),(popT af s el).2.length≤s.length
 | [],_=>Nat.le_refl _
 | t::s,el=>by
  rw[popT]
  split
  ·exact Nat.le_refl _
  ·exact Nat.le_trans (zPQ af s t) (Nat.le_succ _)
theorem zbM (l:List (Eid × Eid)):(stk l).length≤l.length:=by
 refine zDQ (P:=fun l=>(stk l).length≤l.length) (Nat.le_refl _) (fun l x ih=>?_) l
 rw[zEM,List.length_cons,List.length_append]
 have:=zPQ x.2 (stk l) Eid.z
 simp only[List.length_singleton]
 omega
theorem z01:decide ((0:Int)<1)=true:=rfl
theorem z0lt:decide ((0:Int)<0)=false:=rfl
theorem zdX {B:Nat}{tm:List AV}{pre:List (Eid × Eid)}{O:Nat→Prop}{x:Eid × Eid}(h:OI tm pre O M)(h2:nth zA3 tm 2 = .ptr 0 0)(h3':nth zA3 tm 3 = .ptr 1 0)(h4':nth zA3 tm 4 = .ptr 3 0)(hlen:tm.length=63)(hx:x.1.ok)(hn:pre.length≤100000)(hf:pre.length+10<fuel) :
  W3 (zAU Try.prog (fsT tbl) fuel (d+7) (.yl 6) [idA x.1,idA x.2] M) (fun v N'=>(v=BL true∧Yl (OI tm) (pre++[x]) O B M N')∨(v=BL false∧OS tm N'∧ordS x (stk pre) (pre.map (·.1))=false)):=by
 obtain⟨o,g1,sp,ro⟩:=h.g1
 obtain⟨obj,gm2,hset⟩:=h.g2
 have wf:=h.wf
 have sz:=h.sz
 have hsl:=zbM pre
 have g0:=h.g0
 have g3:=h.g3
 have g6:=h.g6
 have oo:=sp.one
 refine zVU g6 rfl ?_
 have e1:zFI tm [12,13] [idA x.1,idA x.2]=St tm [(13,idA x.2),(12,idA x.1)]:=rfl
 rw[e1]
 unfold cO1 cO2
 simp (disch:=try exact SX) only[RV,seval,zA0,h2,h3',h4',wf]
 refine⟨tm,[12,13],_,_,5,g6, ?_⟩
 generalize hX:((((((M.add _).upd M.size _).add _).upd (M.size+1) _).upd 6 _).add _)=X
 have wX:Wf X:=by rw[← hX];exact((((((wf.add _).upd _ _).add _).upd _ _).upd _ _).add _)
 have sX:X.size=M.size+1+1+1:=by rw[← hX];rfl
 have gX:∀ j,j<M.size→j≠6→X.get j=M.get j:=fun j a b=>by
  rw[← hX,zAP (((((wf.add _).upd _ _).add _).upd _ _).upd _ _) _ _ (by simp only[zA9,zA8];omega),zA2 ((((wf.add _).upd _ _).add _).upd _ _) _ _ _ (fun e=>b e.symm),zA2 (((wf.add _).upd _ _).add _) _ _ _ (by omega),zAP ((wf.add _).upd _ _) _ _ (by simp only[zA9,zA8];omega),zA2 (wf.add _) _ _ _ (by omega),zAP wf _ _ a]
 have x6:X.get 6=some (.loop .busy none tm [12,13] cO1 cO2 5):=by
  rw[← hX,zAP (((((wf.add _).upd _ _).add _).upd _ _).upd _ _) _ _ (by simp only[zA9,zA8];omega),zAJ ((((wf.add _).upd _ _).add _).upd _ _) _ _ (by simp only[zA9,zA8];omega)]
 have xa:X.get M.size=some (.row false (idR x.1)):=by
  rw[← hX,zAP (((((wf.add _).upd _ _).add _).upd _ _).upd _ _) _ _ (by simp only[zA9,zA8];omega),zA2 ((((wf.add _).upd _ _).add _).upd _ _) _ _ _ (by omega),zA2 (((wf.add _).upd _ _).add _) _ _ _ (by omega),zAP ((wf.add _).upd _ _) _ _ (by simp only[zA9,zA8];omega),zAJ (wf.add _) _ _ (by simp only[zA8];omega)]
 have xb:X.get (M.size+1)=some (.row false (idR x.2)):=by
  rw[← hX,zAP (((((wf.add _).upd _ _).add _).upd _ _).upd _ _) _ _ (by simp only[zA9,zA8];omega),zA2 ((((wf.add _).upd _ _).add _).upd _ _) _ _ _ (by omega),zAJ (((wf.add _).upd _ _).add _) _ _ (by simp only[zA9,zA8];omega)]
 have xc:X.get (M.size+1+1)=some (.row false (idR Eid.z)):=by
  rw[← hX]
  exact zAO (((((wf.add _).upd _ _).add _).upd _ _).upd _ _) _ _ (by simp only[zA9,zA8];omega) (by simp only[zA9,zA8];omega)
 clear hX
 have spX:SlP X 4 zDJ o (stk pre).reverse:=sp.keep fun j hj=>gX j (sp.lt j hj) (by have:=ro j hj;omega)
 refine zB7 (I:=fun n t N => ∃ (i:Nat) (o':AV),n=(stk pre).length - i∧i≤(stk pre).length∧nth zA3 t 2 = .ptr 0 0∧nth zA3 t 3 = .ptr 1 0∧nth zA3 t 4 = .ptr 3 0∧nth zA3 t 5 = .ptr M.size 0∧nth zA3 t 6 = .ptr (M.size+1) 0∧nth zA3 t 7 = .ptr (M.size+1+1) 0∧Wf N∧X.size≤N.size∧(∀ j,j<M.size→j≠1→N.get j=X.get j)∧N.get 1=some (.row false [o'])∧SlP N 4 zDJ o' ((stk pre).drop i).reverse∧rowOf o'=rowOf o∧N.get M.size=some (.row false (idR x.1))∧N.get (M.size+1)=some (.row false (idR x.2))∧N.get (M.size+1+1)=some (.row false (idR (((stk pre).take i).getLast?.getD Eid.z)))∧(∀ t∈(stk pre).take i,t≠x.2)) (n:=(stk pre).length) (by omega) ?_ ?_
 ·refine⟨0,o,rfl,Nat.zero_le _, ?_, ?_, ?_, ?_, ?_, ?_,wX,Nat.le_refl _,(fun _ _ _=>rfl),((gX 1 (by omega) (by omega)).trans g1),(by rw[List.drop_zero];exact spX),rfl,xa,xb,(by rw[List.take_zero];exact xc),(fun t ht=>absurd ht (by simp))⟩ <;> simp (disch:=try exact SX) only[RV,seval,zA0,h2,h3',h4']
  all_goals first | rfl | assumption | done
 ·rintro n t N hlt ⟨i,o',rfl,hi,g2,g3,g4,g5,g6,g7,w,le,kk,c1,spN,ro',ca,cb,cc,hm⟩
  simp only[hlen] at hlt ⊢
  have olen:=spN.len
  have oo':=spN.one
  rw[List.length_reverse,List.length_drop] at olen
  have l1:=Mem.get_lt c1
  have la:=Mem.get_lt ca
  have lb:=Mem.get_lt cb
  have lc:=Mem.get_lt cc
  by_cases hc:i<(stk pre).length
  ·have q1:decide ((0:Int)<((stk pre).length - i:Nat))=true:=DT
   have hil:(stk pre).length - i - 1<((stk pre).drop i).reverse.length:=by rw[List.length_reverse,List.length_drop];omega
   obtain⟨rid,cs,r,hrow,lrid,hgr,hiad,hr,hrl,hpt⟩:=spN.at hil
   have w1:IntKind.i64.wrap (((stk pre).length - i:Nat) - 1)=((stk pre).length - i - 1:Nat):=WI
   obtain⟨oc,hslc,spc,roc⟩:=spN.cut (by omega) (n:=(stk pre).length - i - 1) (by omega)
   have hel:((stk pre).drop i).reverse[(stk pre).length - i - 1]=(stk pre)[i]:=by
    rw[List.getElem_reverse,List.getElem_drop]
    congr 1
    rw[List.length_drop];omega
   rw[hel] at hr
   obtain⟨rfl,hrok⟩:=hr
   simp (disch:=try exact SX) only[RV,seval,zA0,g2,g3,g4,g5,g6,g7,olen,q1,w1,c1,hiad,hgr,hpt,oo',ca,cb,cc,w,↓pIdE,zAE,↓pIdN,zAB,↓pHdE,zAC,↓pHdN,zAD,↓pLbE,zAF,↓pLbN,zAG,↓pSpE,zAH,↓pSpN,zAI,ETA]
   by_cases hte:(stk pre)[i]=x.2
   ·have q2:decide ((stk pre)[i]=x.2)=true:=decide_eq_true hte
    have hpop:=zIN (el:=Eid.z) (q:=(stk pre).drop i) hm (.inr ⟨(stk pre).drop (i+1),by rw[List.drop_eq_getElem_cons hc,hte]⟩)
    rw[List.take_append_drop] at hpop
    have hne:decide (((((stk pre).length - i:Nat):Int))=0)=false:=DF
    have hqz:decide ((stk pre).drop i=[])=false:=decide_eq_false (fun e=>by have:=congrArg List.length e;rw[List.length_drop] at this;simp at this;omega)
    simp (disch:=try exact SX) only[RV,seval,zA0,g2,g3,g4,g5,g6,g7,olen,q1,q2,c1,hiad,hgr,hpt,oo',ca,cb,cc,w,↓pIdE,zAE,↓pIdN,zAB,↓pHdE,zAC,↓pHdN,zAD,↓pLbE,zAF,↓pLbN,zAG,↓pSpE,zAH,↓pSpN,zAI,ETA]
    generalize hY:(N.add _).upd N.size _=Y
    have wY:Wf Y:=by rw[← hY];exact(w.add _).upd _ _
    have lY:N.size≤Y.size:=by rw[← hY,zA9,zA8];omega
    have kY:∀ j,j<N.size→Y.get j=N.get j:=fun j hj=>by
     rw[← hY,zA2 (w.add _) _ _ _ (by omega),zAP w _ _ hj]
    clear hY
    have y0:Y.get 0=some (.row false [BL false]):=(kY 0 (by omega)).trans ((kk 0 (by omega) (by omega)).trans ((gX 0 (by omega) (by omega)).trans h.g0))
    have y1:=(kY 1 (by omega)).trans c1
    have y2:=(kY 2 (by omega)).trans ((kk 2 (by omega) (by omega)).trans ((gX 2 (by omega) (by omega)).trans gm2))
    have y3:=(kY 3 (by omega)).trans ((kk 3 (by omega) (by omega)).trans ((gX 3 (by omega) (by omega)).trans h.g3))
    have y6:=(kY 6 (by omega)).trans ((kk 6 (by omega) (by omega)).trans x6)
    have ya:=(kY _ (by omega)).trans ca
    have yb:=(kY _ (by omega)).trans cb
    have yc:=(kY _ (by omega)).trans cc
    have yj:∀ j,j<M.size→j≠1→j≠6→Y.get j=M.get j:=fun j a b c=>(kY j (by omega)).trans ((kk j a b).trans (gX j a c))
    have spY:SlP Y 4 zDJ o' ((stk pre).drop i).reverse:=spN.keep fun j hj=>kY j (spN.lt j hj)
    clear kY kk w c1 ca cb cc spN l1 la lb lc
    have l1:=Mem.get_lt y1
    have la:=Mem.get_lt ya
    have lb:=Mem.get_lt yb
    have lc:=Mem.get_lt yc
    have l2:=Mem.get_lt y2
    have l3:=Mem.get_lt y3
    have l0:=Mem.get_lt y0
    have hlk:=zYX zQP (z:=.int .i64 0) y2 hset x.1
    unfold ordS
    rw[hpop]
    simp only[hqz]
    have hql:((stk pre).drop i).length≤pre.length:=by rw[List.length_drop];omega
    generalize (stk pre).drop i=q at *
    generalize ((stk pre).take i).getLast?.getD Eid.z=el at *
    have hls:=fun M=>@zF8 fuel (d+4) x.1 el M
    have c2:True:=trivial
    exact zB07
   ·have q2:decide ((stk pre)[i]=x.2)=false:=decide_eq_false hte
    simp (disch:=try exact SX) only[RV,seval,zA0,g2,g3,g4,g5,g6,g7,olen,q1,q2,w1,c1,hiad,hgr,hpt,oo',ca,cb,cc,w,↓pIdE,zAE,↓pIdN,zAB,↓pHdE,zAC,↓pHdN,zAD,↓pLbE,zAF,↓pLbN,zAG,↓pSpE,zAH,↓pSpN,zAI,ETA]
    refine⟨spN.rows (by omega), ?_⟩
    rw[hslc _ (fun id hid=>by
     have:=spN.lt id hid
     rw[zA2 (w.add _) _ _ _ (by omega),zAP w _ _ this])]
    have oco:=spc.one
    have occ:=spc.cells
    have ocr:=fun m hm=>spc.rows (m:=m) hm
    simp (disch:=try exact SX) only[RV,seval,zA0,g2,g3,g4,g5,g6,g7,oco,occ,ocr,c1,ca,cb,cc,w]
    have ror:=spN.row1 hrow
    have rid7:7≤rid∧rid<M.size:=by
     have e:rowOf o=some rid:=ro' ▸ hrow
     exact⟨(ro rid e).2,sp.lt rid e⟩
    refine⟨?_,hlt,(stk pre).length - (i+1),by omega,i+1,oc,rfl,by omega,by omega,fun j a b=>?_,rfl, ?_,roc.trans ro', ?_, ?_⟩
    ·have e1:¬(M.size+1+1=1):=by omega
     have e2:¬(M.size+1+1=rid):=by omega
     rw[ror]
     simp [FP.apart,disj,FP.reads,FP.writes,fpOf,e2]
    ·rw[zA2 (((w.add _).upd _ _).upd _ _) _ _ _ (by omega),zA2 ((w.add _).upd _ _) _ _ _ (by omega),zA2 (w.add _) _ _ _ (by omega),zAP w _ _ (by omega)]
     exact kk j a b
    ·have e:((stk pre).drop i).reverse.take ((stk pre).length - i - 1)=((stk pre).drop (i+1)).reverse:=by
      rw[List.take_reverse,List.drop_drop,List.length_drop]
      congr 2
      omega
     rw[← e]
     refine spc.keep fun j hj=>?_
     rw[roc,hrow] at hj
     injection hj with hj
     subst hj
     rw[zA2 (((w.add _).upd _ _).upd _ _) _ _ _ (by omega),zA2 ((w.add _).upd _ _) _ _ _ (by omega),zA2 (w.add _) _ _ _ (by omega),zAP w _ _ (by omega)]
    ·have e:((stk pre).take (i+1)).getLast?.getD Eid.z=(stk pre)[i]:=by
      rw[zB4 _ _ hc,List.getLast?_concat];rfl
     rw[e]
    ·intro t ht
     rw[zB4 _ _ hc] at ht
     rcases List.mem_append.1 ht with ht | ht
     ·exact hm t ht
     ·rw[List.mem_singleton] at ht;subst ht;exact hte
  ·obtain rfl:i=(stk pre).length:=by omega
   have q1:decide ((0:Int)<((stk pre).length - (stk pre).length:Nat))=false:=DF
   have hne:decide (((((stk pre).length - (stk pre).length:Nat):Int))=0)=true:=DT
   have hqz:decide ((stk pre).drop (stk pre).length=[])=true:=decide_eq_true (List.drop_length)
   have hpop:=zIN (el:=Eid.z) (q:=(stk pre).drop (stk pre).length) hm (.inl List.drop_length)
   rw[List.take_append_drop] at hpop
   simp (disch:=try exact SX) only[RV,seval,zA0,g2,g3,g4,g5,g6,g7,olen,q1,c1,oo',ca,cb,cc,w,↓pIdE,zAE,↓pIdN,zAB,↓pHdE,zAC,↓pHdN,zAD,↓pLbE,zAF,↓pLbN,zAG,↓pSpE,zAH,↓pSpN,zAI,ETA]
   obtain⟨Y,hY⟩:∃ Y,Y=N:=⟨N,rfl⟩
   rw[← hY]
   have wY:Wf Y:=by rw[hY];exact w
   have lY:N.size≤Y.size:=by rw[hY];omega
   have kY:∀ j,j<N.size→Y.get j=N.get j:=fun j hj=>by rw[hY]
   clear hY
   have y0:Y.get 0=some (.row false [BL false]):=(kY 0 (by omega)).trans ((kk 0 (by omega) (by omega)).trans ((gX 0 (by omega) (by omega)).trans h.g0))
   have y1:=(kY 1 (by omega)).trans c1
   have y2:=(kY 2 (by omega)).trans ((kk 2 (by omega) (by omega)).trans ((gX 2 (by omega) (by omega)).trans gm2))
   have y3:=(kY 3 (by omega)).trans ((kk 3 (by omega) (by omega)).trans ((gX 3 (by omega) (by omega)).trans h.g3))
   have y6:=(kY 6 (by omega)).trans ((kk 6 (by omega) (by omega)).trans x6)
   have ya:=(kY _ (by omega)).trans ca
   have yb:=(kY _ (by omega)).trans cb
   have yc:=(kY _ (by omega)).trans cc
   have yj:∀ j,j<M.size→j≠1→j≠6→Y.get j=M.get j:=fun j a b c=>(kY j (by omega)).trans ((kk j a b).trans (gX j a c))
   have spY:SlP Y 4 zDJ o' ((stk pre).drop (stk pre).length).reverse:=spN.keep fun j hj=>kY j (spN.lt j hj)
   clear kY kk w c1 ca cb cc spN l1 la lb lc
   have l1:=Mem.get_lt y1
   have la:=Mem.get_lt ya
   have lb:=Mem.get_lt yb
   have lc:=Mem.get_lt yc
   have l2:=Mem.get_lt y2
   have l3:=Mem.get_lt y3
   have l0:=Mem.get_lt y0
   have hlk:=zYX zQP (z:=.int .i64 0) y2 hset x.1
   unfold ordS
   rw[hpop]
   simp only[hqz]
   have hql:((stk pre).drop (stk pre).length).length≤pre.length:=by rw[List.length_drop];omega
   generalize (stk pre).drop (stk pre).length=q at *
   generalize ((stk pre).take (stk pre).length).getLast?.getD Eid.z=el at *
   have hls:=fun M=>@zF8 fuel (d+4) x.1 el M
   cases c2:decide (x.2=Eid.z)
   ·simp (disch:=try exact SX) only[RV,seval,zA0,g2,g3,g4,g5,g6,g7,hne,oo',y0,y1,y3,ya,yb,yc,wY,↓pIdE,zAE,↓pIdN,zAB,↓pHdE,zAC,↓pHdN,zAD,↓pLbE,zAF,↓pLbN,zAG,↓pSpE,zAH,↓pSpN,zAI,ETA,c2]
    exact zB03
   ·skip
    exact zB07
theorem zJH {a:AV}{l:List Rn}(hS:Sl 10 isRn a l)(wf:Wf M)(k:Q (.fn 74 [] [.ptr M.size 0]) (M.add (.row false [a]))) :
  W3 (zCN fuel (d+1) 38 [a] M) Q:=by
 have oa:=hS.one
 refine zCZ tf38 rfl (by simp [a38]) fun b' ht hx=>?_
 have h0:=hx 0 _ rfl
 clear hx
 simp only[a38,c38] at ht ⊢
 simp (disch:=try exact SX) only[RV,seval,zA0,h0,hS.fz.rows,hS.fz.one,hS.fz.cells,hS.fz.icy,hS.fz.frz,wf]
 exact k
theorem zXT {a:AV}{l:List Rn}(hS:Sl 10 isRn a l):∀ r∈l,r.ok:=by
 intro r hr
 obtain⟨i,hi,rfl⟩:=List.getElem_of_mem hr
 obtain⟨_,_,⟨_,_,_,hok⟩,_⟩:=hS.iad i hi
 exact hok
theorem zSI {l:List Rn}(h:∀ r∈l,r.ok)(hm:∀ r∈l,r.may=true):∀ x∈elsL l,x.1.ok:=by
 intro x hx
 obtain⟨r,hr,hx⟩:=List.mem_flatMap.1 hx
 obtain⟨i,hi,rfl⟩:=List.mem_map.1 hx
 rw[List.mem_range] at hi
 have hb:=Spn.may_le (Rn.may_sp (hm r hr))
 have hk:=h r hr
 refine⟨hk.1.1.1, ?_⟩
 simp only[Spn.at,i64R]
 omega
theorem zGN {l:List Rn}(hm:∀ r∈l,r.may=true):(elsL l).length≤64*l.length:=by
 have:=zE7 hm
 have e:=zD1 hm
 rw[← zHR]
 unfold prs
 rw[List.length_map]
 omega
theorem zZQ {X:Mem}{tm:List AV}{a:AV}{l:List Rn}(hS:Sl 10 isRn a l)(hl:l.length≤1000)(hm:∀ r∈l,r.may=true)(hf:64*l.length+1000<fuel)(w:Wf X)(h2:nth zA3 tm 2 = .ptr 0 0)(h3:nth zA3 tm 3 = .ptr 1 0)(h4:nth zA3 tm 4 = .ptr 3 0)(hlen:tm.length=63)(hX:X.size=5)(g0:X.get 0=some (.row false [BL false]))(g1:X.get 1=some (.row false [NIL]))(g2:X.get 2=some (.map [] 0))(g3:X.get 3=some (.row false [.mp 2]))(g4:X.get 4=some (.row false [a]))
  (kt:Ord (elsL l) → ∀ u O N,OI tm (elsL l) O N→Q u N) (ks:¬Ord (elsL l) → ∀ u N,OS tm N→Q u N) :
  W3 (zCN fuel (d+8) 74 ([]++[.yl (X.size+1)]++[.ptr 4 0]) ((X.add (.dfr false)).add (.loop .ready none tm [12,13] cO1 cO2 X.size))) Q:=by
 have w1:=w.add (.dfr false)
 have hel:=zGN hm
 have heo:=zSI (zXT hS) hm
 have e:X.size+1=6:=by omega
 have u:∀ j,j<5→((X.add (.dfr false)).add (.loop .ready none tm [12,13] cO1 cO2 X.size)).get j=X.get j:=fun j hj=>by
  rw[zAP w1 _ _ (by rw[zA8];omega),zAP w _ _ (by omega)]
 have hJ0:OI tm [] (fun j=>j=1∨j=2∨j=6) ((X.add (.dfr false)).add (.loop .ready none tm [12,13] cO1 cO2 X.size)):=by
  refine⟨w1.add _,by simp only[zA8];omega,(u 0 (by omega)).trans g0,⟨NIL,(u 1 (by omega)).trans g1,SlP.nil,fun j hj=>by cases hj⟩,⟨_,(u 2 (by omega)).trans g2,zN3.nil _ _⟩,(u 3 (by omega)).trans g3, ?_, ?_,.inl rfl,.inr (.inl rfl),.inr (.inr rfl), ?_,Ord.nil⟩
  ·exact zB0F
  ·have:=zAO w1 (.loop .ready none tm [12,13] cO1 cO2 X.size) 6 (by rw[zA8];omega) (by rw[zA8];omega)
   rw[hX] at this ⊢
   exact this
  ·intro j hj
   simp only[zA8]
   rcases hj with rfl | rfl | rfl <;> omega
 have key:=zOZ (d:=d) (fuel:=fuel) (Q:=Q) (J:=OI tm) (S:=fun N=>OS tm N ∧ ¬Ord (elsL l)) (id:=6) (p:=4) hS (by omega) hm (by omega) (w1.add _) ((u 4 (by omega)).trans g4) hJ0 (fun pre O N N' h wf le k=>h.keep wf le k) (fun pre O N h j hj=>(h.ol j hj).1) (fun pre x post O N he h wf le=>?_) (fun u N O h _ _=>kt h.od u O N h) (fun u N h=>ks h.2 u N h.1)
 ·rw[← e] at key
  exact key
 ·have hxm:x∈elsL l:=by rw[he];simp
  have hpl:pre.length≤(elsL l).length:=by rw[he];simp
  obtain⟨v,N',hc,hv⟩:=zdX (fuel:=fuel) (d:=d) (B:=((X.add (.dfr false)).add (.loop .ready none tm [12,13] cO1 cO2 X.size)).size) h h2 h3 h4 hlen (heo x hxm) (by omega) (by omega)
  refine⟨v,N',hc, ?_⟩
  rcases hv with⟨rfl,hv⟩ | ⟨rfl,hv,ho⟩
  ·exact .inl ⟨rfl,hv⟩
  ·refine .inr ⟨rfl,hv,fun k=>?_⟩
   rw[k pre x post he] at ho
   cases ho
open Classical in
theorem zNQ {a:AV}{l:List Rn}(hS:Sl 10 isRn a l)(hl:l.length≤1000)(hm:∀ r∈l,r.may=true)(hf:64*l.length+1000<fuel)(M:Mem):zCN fuel (d+9) 50 [a] M=some (BL (decide (Ord (elsL l))),M):=by
 have oa:=hS.one
 have hel:=zGN hm
 have heo:=zSI (zXT hS) hm
 apply zBA
 refine zAL tf50 rfl (by simp only[icyL,fun M=>hS.icy M 12 (by omega)]) (by simp [a50]) fun b' ht hx=>?_
 have h0:=hx 0 _ rfl
 clear hx
 simp only[a50,c50] at ht ⊢
 have cm:cellsA (.mp 2)=[.mp 2]:=rfl
 have om:oneA (.mp 2)=true:=rfl
 have sm:scs (.map none)=[.sc (.map none)]:=rfl
 simp (disch:=try exact SX) only[RV,seval,zA0,h0,hS.fz.rows,hS.fz.one,hS.fz.cells,hS.fz.icy,hS.fz.frz,zc4,cm,om,sm]
 refine zJH hS (by simp (disch:=try exact SX) only[RV,seval,zA0]) ?_
 simp (disch:=try exact SX) only[RV,seval,zA0,h0,hS.fz.rows,hS.fz.one,hS.fz.cells,hS.fz.icy,hS.fz.frz]
 refine zY6 (g:=74) (first:=[]) (cap:=[.ptr 4 0]) (by simp (disch:=try exact SX) only[RV,seval,zA0]) (by simp (disch:=try exact SX) only[RV,seval,zA0]) ?_
 refine zZQ (d:=d) hS hl hm hf ?_ ?_ ?_ ?_ ?_ ?_ ?_ ?_ ?_ ?_ ?_ (fun ho u O N h=>?_) (fun ho u N h=>?_)
 ·exact zB05
 ·exact zB05
 ·exact zB05
 ·exact zB05
 ·rw[zLE];exact ht
 ·exact zB05
 ·exact zB05
 ·exact zB05
 ·exact zB05
 ·exact zB05
 ·exact zB05
 ·have wf:=h.wf
  have sz:=h.sz
  have l0:=Mem.get_lt h.g0
  have l5:=Mem.get_lt h.g5
  have e6:(mem0.add (.row false [BL false])).size=1:=rfl
  refine⟨wf,by simp only[zA8,zA9,zBQ];omega,_,_,_,_,_,_,_,.inl rfl,h.g6, ?_⟩
  generalize hX:N.upd _ _=X
  have wX:Wf X:=by rw[← hX];exact wf.upd _ _
  have sX:X.size=N.size:=by rw[← hX];rfl
  have gX:∀ j,j≠6→X.get j=N.get j:=fun j hj=>by rw[← hX];exact zA2 wf _ _ _ (fun e=>hj e.symm)
  have x0:=(gX 0 (by omega)).trans h.g0
  have x5:=(gX 5 (by omega)).trans h.g5
  have hd:decide (Ord (elsL l))=true:=decide_eq_true ho
  exact zB09
 ·have wf:=h.wf
  have sz:=h.sz
  have l0:=Mem.get_lt h.g0
  have l5:=Mem.get_lt h.g5
  refine⟨wf,by simp only[zA8,zA9,zBQ];omega,_,_,_,_,_,_,_,.inr rfl,h.g6, ?_⟩
  generalize hX:N.upd _ _=X
  have wX:Wf X:=by rw[← hX];exact wf.upd _ _
  have sX:X.size=N.size:=by rw[← hX];rfl
  have gX:∀ j,j≠6→X.get j=N.get j:=fun j hj=>by rw[← hX];exact zA2 wf _ _ _ (fun e=>hj e.symm)
  have x0:=(gX 0 (by omega)).trans h.g0
  have x5:=(gX 5 (by omega)).trans h.g5
  have hd:decide (Ord (elsL l))=false:=decide_eq_false ho
  exact zB09
theorem zQB {o:Rn}{ra:AV}(hR:Sl 1 zAY ra o.rs)(hf:100<fuel)(M:Mem):zCN fuel (d+7) 49 [.agg (rnR o ra)] M=some (BL (!o.may),M):=by
 have ora:=hR.one
 have hck:=fun M=>@zCE fuel d o ra hR hf M
 apply zBA
 refine zAL tf49 rfl (by simp only[icyL,zBX hR.fz]) (by simp [a49]) fun b' ht hx=>?_
 have h0:=hx 0 _ rfl
 clear hx
 simp only[a49,c49] at ht ⊢
 cases hm:o.may <;> rw[hm] at hck <;> simp (disch:=try exact SX) only[RV,seval,zA0,h0,hR.fz.rows,hR.fz.one,hR.fz.cells,hR.fz.icy,hR.fz.frz,hck,zBP,zCH,z00,z80]
open Classical in
noncomputable def zBF (l:List Rn):Bool:=decide (zE1 l)
open Classical in
theorem zLA {l:List Rn}(h:zE1 l):zBF l=true:=by unfold zBF;exact decide_eq_true h
open Classical in
theorem zGX {l:List Rn}(h:¬zE1 l):zBF l=false:=by unfold zBF;exact decide_eq_false h
open Classical in
theorem zBI {l:List Rn}:zBF l=true↔zE1 l:=by unfold zBF;exact⟨of_decide_eq_true,fun h=>decide_eq_true h⟩
theorem zEY {l:List Rn}(h:∀ r∈l,r.may=true):∀ r∈l,r.rs.length≤64:=fun r hr=>((Rn.may_iff.1 (h r hr)).2.2.2.1)
theorem zET {a:AV}{l:List Rn}(hS:Sl 10 isRn a l)(hl:l.length≤1000)(hf:64*l.length+3001000<fuel)(M:Mem):zCN fuel (d+10) 18 [a] M=some (I64 (err (zBF l)),M):=by
 have oa:=hS.one
 have hh:=fun M=>zT3 (P:=Try.prog) (fs:=fsT tbl) (fuel:=fuel) (l:=l) (ag:=true) (n:=d+7) tf42 tf76 (fun h=>by cases h) zDI hS (by omega) (by omega) (zSV 49) (p:=fun x => !x.may) (fun r x hr _ M=>by
  obtain⟨ra,rfl,hra,_⟩:=hr
  exact @zQB fuel d x ra hra (by omega) M) M
 rw[zN5] at hh
 apply zBA
 refine zAL tf18 rfl (by simp only[icyL,fun M=>hS.icy M 12 (by omega)]) (by simp [a18]) fun b' ht hx=>?_
 have h0:=hx 0 _ rfl
 clear hx
 simp only[a18,c18] at ht ⊢
 cases hb:l.all Rn.may with
 | false =>
  rw[hb] at hh
  have hno:zBF l=false:=zGX fun k=>by
   rw[List.all_eq_true.2 k.1] at hb;cases hb
  rw[hno]
  simp (disch:=try exact SX) only[RV,seval,zA0,h0,hS.fz.rows,hS.fz.one,hS.fz.cells,hS.fz.icy,hS.fz.frz,hh,zCH]
 | true =>
  rw[hb] at hh
  have hm:∀ r∈l,r.may=true:=List.all_eq_true.1 hb
  have hrs:=zEY hm
  have hct:=fun M=>@zG0 fuel (d+8) a l hS hm (by omega) (by omega) M
  have hord:=fun M=>@zNQ fuel d a l hS hl hm (by omega) M
  have hmL:=(zC7 hm).2
  have hrsL:=zEY hmL
  have hlenL:(zBT l).length≤64000:=by
   have e1:=zD1 hmL
   have e2:=zE7 hm
   have e3:=zD1 hm
   rw[(zC7 hm).1,(zE6 _).1] at e1
   have:(zBT l).length≤(zB3 (zBT l)):=by
    rw[(zC7 hm).1]
    have hh:=(zE6 (elsR l)).2
    generalize zBO (elsR l)=C at *
    clear e1
    induction C with
    | nil=>simp [zB3]
    | cons q C ih =>
     have:=ih (fun q hq=>hh q (List.mem_cons_of_mem _ hq))
     have:=(hh q List.mem_cons_self).1
     simp only[zB3,List.length_cons]
     omega
   rw[(zC7 hm).1] at this ⊢
   omega
  have hsame:=fun (M:Mem) B r (hr:rnK.ND M B r (zBT l)) (w:Wf M)=>zPC (n:=d+8) tf20 rfl hr w (fun M=>hS.icy M 12 (by omega)) fun o' ho' M=>@zJ7 fuel (d+5) o' a (zBT l) l ho' hS (by omega) (fun e he=>⟨by have:=hrsL e he;omega,by have:=hrsL e he;omega⟩) (by omega) M
  by_cases h1:zB3 l≤8192
  ·have q1:decide (8192<zB3 l)=false:=DF
   by_cases h2:Ord (elsL l)
   ·have ho:=@decide_eq_true _ (Classical.propDecidable (Ord (elsL l))) h2
    rw[ho] at hord
    by_cases h3:zBT l=l
    ·have hyes:zBF l=true:=zLA ⟨hm,h1,h2,h3⟩
     have hs:zEQ (zBT l) l=true:=zGF.2 h3
     rw[hyes]
     simp (disch:=try exact SX) only[RV,seval,zA0,h0,hS.fz.rows,hS.fz.one,hS.fz.cells,hS.fz.icy,hS.fz.frz,hh,hct,q1,hord,zBP]
     refine zM2 (fuel:=fuel) (d:=d) hS (by omega) (fun r hr=>by have:=hrs r hr;omega) (by omega) Wf.mem0 fun r N kN hr=>?_
     have wN:=kN.wf
     have hs2:=hsame N _ r hr wN
     rw[hs] at hs2
     obtain⟨or,oc,rl,_⟩:=ND.lr hr
     have rl:=zAM rl (Nat.le_refl N.size)
     simp (disch:=try exact SX) only[RV,seval,zA0,h0,hS.fz.rows,hS.fz.one,hS.fz.cells,hS.fz.icy,hS.fz.frz,wN,or,oc,rl,hs2,zBP]
    ·have hno:zBF l=false:=zGX fun k=>h3 k.2.2.2
     have hs:zEQ (zBT l) l=false:=by
      cases hq:zEQ (zBT l) l with
      | false=>rfl
      | true=>exact absurd (zGF.1 hq) h3
     rw[hno]
     simp (disch:=try exact SX) only[RV,seval,zA0,h0,hS.fz.rows,hS.fz.one,hS.fz.cells,hS.fz.icy,hS.fz.frz,hh,hct,q1,hord,zCH]
     refine zM2 (fuel:=fuel) (d:=d) hS (by omega) (fun r hr=>by have:=hrs r hr;omega) (by omega) Wf.mem0 fun r N kN hr=>?_
     have wN:=kN.wf
     have hs2:=hsame N _ r hr wN
     rw[hs] at hs2
     obtain⟨or,oc,rl,_⟩:=ND.lr hr
     have rl:=zAM rl (Nat.le_refl N.size)
     simp (disch:=try exact SX) only[RV,seval,zA0,h0,hS.fz.rows,hS.fz.one,hS.fz.cells,hS.fz.icy,hS.fz.frz,wN,or,oc,rl,hs2,zCH]
   ·have ho:=@decide_eq_false _ (Classical.propDecidable (Ord (elsL l))) h2
    rw[ho] at hord
    have hno:zBF l=false:=zGX fun k=>h2 k.2.2.1
    rw[hno]
    simp (disch:=try exact SX) only[RV,seval,zA0,h0,hS.fz.rows,hS.fz.one,hS.fz.cells,hS.fz.icy,hS.fz.frz,hh,hct,q1,hord,zCH]
  ·have q1:decide (8192<zB3 l)=true:=DT
   have hno:zBF l=false:=zGX fun k=>h1 k.2.1
   rw[hno]
   simp (disch:=try exact SX) only[RV,seval,zA0,h0,hS.fz.rows,hS.fz.one,hS.fz.cells,hS.fz.icy,hS.fz.frz,hh,hct,q1,zCH]
theorem zZ8 {E:List El}{i:Nat}(hi:i<E.length)(k:∀ j (hj:j<i),E[j].id≠E[i].id):whI E E[i].id=i:=zFO hi (by simp) fun j hj=>by simpa using k j hj
theorem zLC {E:List El}{x:Eid}:0≤whI E x ↔ ∃ e∈E,e.id=x:=by
 rw[← decide_eq_true_iff (p:=0≤whI E x),zbY,List.any_eq_true]
 simp
def Root (E:List El):Prop:=∀ i (h:i<E.length),whI E E[i].id=i∧(E[i].af=Eid.z∨0≤whI E E[i].af)
theorem zXU {E:List El}(hc:∀ x∈E,x.af.c<x.id.c∧0<x.id.c):Root E↔Set1 E:=by
 constructor
 ·intro h
  refine⟨?_,hc,fun x hx=>?_⟩
  ·unfold List.Nodup
   rw[List.pairwise_iff_getElem]
   intro i j hi hj hij e
   simp only[List.length_map] at hi hj
   simp only[List.getElem_map] at e
   have a:=(h i hi).1
   have b:=(h j hj).1
   rw[e] at a
   omega
  ·obtain⟨i,hi,rfl⟩:=List.getElem_of_mem hx
   rcases (h i hi).2 with e | e
   ·exact .inl e
   ·exact .inr (zLC.1 e)
 ·intro h i hi
  refine⟨zZ8 hi fun j hj e=>?_, ?_⟩
  ·have hn:=h.nd
   unfold List.Nodup at hn
   have:=List.pairwise_iff_getElem.1 hn j i (by simp;omega) (by simp;omega) hj
   simp only[List.getElem_map] at this
   exact this e
  ·rcases h.rt _ (List.getElem_mem hi) with e | e
   ·exact .inl e
   ·exact .inr (zLC.2 e)
theorem zZP {a:AV}{l:List El}(hS:Sl 9 isEl a l):∀ x∈l,x.id.ok∧x.af.ok:=by
 intro x hx
 obtain⟨i,hi,rfl⟩:=List.getElem_of_mem hx
 obtain⟨r,_,h,_⟩:=hS.iad i hi
 exact h.2
theorem zaO {c:Int}(h:okR c=true) : -2147483648≤c∧c≤2147483647:=by
 unfold okR zHG at h
 simp only[Bool.or_eq_true,Bool.and_eq_true,decide_eq_true_eq] at h
 omega
theorem zNL {x:El}(hm:x.may=true)(h:x.id.ok∧x.af.ok):FitX x:=by
 rw[El.may_iff,Eid.may_iff] at hm
 have:=zaO hm.2.2
 exact⟨by omega,by omega,h.1,h.2,this.1,this.2⟩
theorem zS8 (E:List El):(∀ x∈E,FitX x)→(∀ q∈zBO E,Fit q)∧(zBO E).length≤E.length:=by
 refine zDQ (P:=fun E=>(∀ x∈E,FitX x)→(∀ q∈zBO E,Fit q)∧(zBO E).length≤E.length) (fun _=>⟨fun q hq=>absurd hq (by simp [zBO]),Nat.le_refl _⟩) (fun E x ih h=>?_) E
 obtain⟨h1,h2⟩:=ih fun y hy=>h y (List.mem_append_left _ hy)
 rw[zJG]
 refine⟨zOP h1 (h x (by simp)), ?_⟩
 have:=zOQ (zBO E) x
 rw[List.length_append,List.length_singleton]
 omega
theorem zV2 {T E:List El}(hT:Txt T)(h:∀ x,x∈T↔x∈E):T.length≤E.length:=zL9 (List.Pairwise.of_map (·.id) (fun a b h e=>h (by rw[e])) hT.s1.nd) fun x hx=>(h x).1 hx
theorem zUW {l:List Rn}(h:¬∀ r∈l,r.may=true):zBF l=false:=zGX fun k=>h k.1
theorem zMW {l:List Rn}(h:¬((elsR l).length≤8192∧Set1 (elsR l))):zBF l=false:=zGX fun k=>h ⟨(zCS k).1.n,(zCS k).1.t.s1⟩
theorem zUX {l:List Rn}(hm:∀ r∈l,r.may=true)(h1:(elsR l).length≤8192){T:List El}(hT:Txt T)(hTm:∀ x,x∈T↔x∈elsR l):zBF l=zEQ (zBO T) l:=by
 rw[Bool.eq_iff_iff,zBI,zGF]
 constructor
 ·intro h
  obtain⟨h2,h3⟩:=zCS h
  rw[hT.eq h2.t hTm,← h3]
 ·intro h
  have e:elsR l=T:=by rw[← h,(zE6 T).1]
  rw[e] at h1
  have:=zMX (E:=T) ⟨hT,fun x hx=>zG1 hm x (by rw[e];exact hx),h1⟩
  rw[h] at this
  exact this
theorem zUJ {a b:AV}{l m:List Int}(ha:Sl 1 zAY a l)(hb:Sl 1 zAY b m)(hf:l.length<fuel)(hl:l.length≤1000000000)(M:Mem) :
  zCN fuel (d+1) 53 [a,b] M=some (BL (decide (l=m)),M):=by
 have hla:=ha.len
 have hlb:=hb.len
 apply zBA
 refine zAL tf53 rfl (by simp (disch:=try exact SX) only[RV,seval,zA0,ha.fz.rows,ha.fz.one,ha.fz.cells,ha.fz.icy,ha.fz.frz,hb.fz.rows,hb.fz.one,hb.fz.cells,hb.fz.icy,hb.fz.frz]) (by simp [a53]) fun b' ht hx=>?_
 obtain⟨h0,h1⟩:=hx2 hx
 clear hx
 simp only[a53,c53] at ht ⊢
 by_cases hll:l.length=m.length
 ·have q1:decide ((l.length:Int)=m.length)=true:=by simp;omega
  simp (disch:=try exact SX) only[RV,seval,zA0,h0,h1,hla,hlb,q1]
  refine zB7 (I:=fun n t N => ∃ (i:Nat),n=l.length - i∧i≤l.length∧nth zA3 t 0=a∧nth zA3 t 1=b∧nth zA3 t 5=I64 i∧l.take i=m.take i) (n:=l.length) (by omega) ?_ ?_
  ·refine⟨0,rfl,Nat.zero_le _, ?_, ?_, ?_,rfl⟩ <;> simp (disch:=try exact SX) only[RV,seval,zA0,h0,h1]
   all_goals first | rfl | assumption | done
  ·rintro n t N hlt ⟨i,rfl,hi,g0,g1,g5,tk⟩
   simp only[ht] at hlt ⊢
   by_cases hlt':i<l.length
   ·have hc':decide ((i:Int)<l.length)=true:=by simp;omega
    have hmt:i<m.length:=by omega
    have w1:IntKind.i64.wrap ((i:Int)+1)=((i+1:Nat):Int):=WI
    obtain⟨r,hr,rfl,_⟩:=ha.iad i hlt'
    obtain⟨r2,hr2,rfl,_⟩:=hb.iad i hmt
    by_cases he:l[i]=m[i]
    ·have q2:decide (l[i]=m[i])=true:=by simp [he]
     simp (disch:=try exact SX) only[RV,seval,zA0,g0,g1,g5,hla,hc',hr,hr2,w1,q2]
     exact zB0h
    ·have q2:decide (l[i]=m[i])=false:=by simp [he]
     simp (disch:=try exact SX) only[RV,seval,zA0,g0,g1,g5,hla,hc',hr,hr2,w1,q2]
     exact zB0y
   ·have hc':decide ((i:Int)<l.length)=false:=by simp;omega
    simp (disch:=try exact SX) only[RV,seval,zA0,g0,g1,g5,hla,hc']
    exact zB0e
 ·have q1:decide ((l.length:Int)=m.length)=false:=by simp;omega
  have q3:decide (l=m)=false:=by
   simp only[decide_eq_false_iff_not]
   rintro rfl;exact hll rfl
  simp (disch:=try exact SX) only[RV,seval,zA0,h0,h1,hla,hlb,q1,q3]
theorem zIR {o p:Rn}{ra rb:AV}(hR:Sl 1 zAY ra o.rs)(hP:Sl 1 zAY rb p.rs)(hl:o.rs.length≤1000000000)(hf:o.rs.length<fuel)(M:Mem):zCN fuel (d+2) 22 [.agg (rnR o ra),.agg (rnR p rb)] M=some (BL (rnEq o p),M):=by
 have ora:=hR.one
 have orb:=hP.one
 have hs:=fun M=>zUJ (fuel:=fuel) (d:=d) hR hP hf hl M
 apply zBA
 refine zAL tf22 rfl (by simp only[icyL,zBX hR.fz,zBX hP.fz]) (by simp [a22]) fun b' ht hx=>?_
 obtain⟨h0,h1⟩:=hx2 hx
 clear hx
 simp only[a22,c22] at ht ⊢
 exact zB04
theorem zIS {o:Rn}{ra:AV}(hR:Sl 1 zAY ra o.rs)(hl:o.rs.length≤1000000000):∃ r,Sl 1 zAY r o.rs ∧ ∀ M,zCN fuel (d+1) 6 [.agg (rnR o ra)] M=some (.agg (rnR o r),M):=by
 have ora:=hR.one
 refine zHI tf6 rfl (fun M=>by simp only[icyL,zBX hR.fz]) ?_
 refine zAL tf6 rfl (by simp only[icyL,zBX hR.fz]) (by simp [a6]) fun b' ht hx=>?_
 have h0:=hx 0 _ rfl
 clear hx
 simp only[a6,c6] at ht ⊢
 simp (disch:=try exact SX) only[RV,seval,zA0,h0,hR.fz.rows,hR.fz.one,hR.fz.cells,hR.fz.icy,hR.fz.frz]
 refine zZ6 (by simp (disch:=try exact SX) only[RV,seval,zA0]) SlM.nil zD4.cel hR (by omega) (by simp;omega) (by simp;omega) fun a' N m' w' le' sz' kp' nw' wm' rl' on' oc'=>?_
 simp only[zA8,zBQ,Nat.zero_add,Nat.reduceAdd] at le' kp' nw'
 rw[List.nil_append] at m'
 have g0:N.get 0=some (.row false (rnR o ra)):=by rw[kp' _ (by omega) (by simp [rowOf])];simp (disch:=try exact SX) only[RV,seval,zA0]
 have g1:N.get 1=some (.row false (rnR ⟨⟨Eid.z,0⟩,Eid.z,[]⟩ NIL)):=by rw[kp' _ (by omega) (by simp [rowOf])];simp (disch:=try exact SX) only[RV,seval,zA0]
 have nr:∀ id,rowOf a'=some id→2≤id:=fun id h=>by
  rcases nw' id h with h' | h'
  ·cases h'
  ·omega
 have z0:0<N.size:=by omega
 have z1:1<N.size:=by omega
 obtain⟨ro,hro,hfr⟩:=zGG m' zD4.cel 11 (by omega)
 have hfr:=hfr ((N.upd 0 (.row false (rnR o a'))).upd 1 (.row false (rnR o a'))) fun id h=>by
  have:=nr id h
  rw[zA2 (w'.upd _ _) _ _ _ (by omega),zA2 w' _ _ _ (by omega)]
 simp (disch:=try exact SX) only[RV,seval,zA0,h0,w',g0,g1,on',oc',z0,z1,rl',hfr]
 exact⟨_,hro,rfl⟩
theorem zCQ {a b:AV}{l m:List Rn}(h1':Sl 10 isRn a l)(h2':Sl 10 isRn b m)(hl:l.length≤1000000)(hc:∀ e∈l,e.rs.length≤1000000∧e.rs.length<fuel)(hf:l.length<fuel)(M:Mem):zCN fuel (d+3) 16 [a,b] M=some (BL (zEQ l m),M):=by
 have la:=h1'.len
 have lb:=h2'.len
 apply zBA
 refine zK6 tf16 rfl (by simp (disch:=try exact SX) only[RV,seval,zA0,h1'.fz.rows,h1'.fz.one,h1'.fz.cells,h1'.fz.icy,h1'.fz.frz,h2'.fz.rows,h2'.fz.one,h2'.fz.cells,h2'.fz.icy,h2'.fz.frz]) (by simp [a16]) fun b' ht hx=>?_
 obtain⟨h0,h1⟩:=hx2 hx
 clear hx
 simp only[a16,c16] at ht ⊢
 by_cases q:l.length=m.length
 ·have q0:decide ((l.length:Int)=m.length)=true:=DT
  simp (disch:=try exact SX) only[RV,seval,zA0,h0,h1,la,lb,h1'.fz.rows,h1'.fz.one,h1'.fz.cells,h1'.fz.icy,h1'.fz.frz,h2'.fz.rows,h2'.fz.one,h2'.fz.cells,h2'.fz.icy,h2'.fz.frz,q0]
  refine zB7 (I:=fun n t N => ∃ (i:Nat),n=l.length - i∧i≤l.length∧nth zA3 t 0=a∧nth zA3 t 1=b∧nth zA3 t 5=I64 i∧Wf N∧(∀ j (x1:j<l.length) (x2:j<m.length),j<i→rnEq l[j] m[j]=true)) (n:=l.length) (by omega) ?_ ?_
  ·refine⟨0,rfl,Nat.zero_le _, ?_, ?_, ?_,Wf.mem0,(fun _ _ _ h=>absurd h (by omega))⟩ <;> simp (disch:=try exact SX) only[RV,seval,zA0,h0,h1]
   all_goals first | rfl | assumption | done
  ·rintro n t N hlt ⟨i,rfl,hi,g0,g1,g5,wN,hj⟩
   simp only[ht] at hlt ⊢
   by_cases hc':i<l.length
   ·have q1:decide ((i:Int)<l.length)=true:=DT
    have hc2:i<m.length:=by omega
    obtain⟨r1,i1,hr1,hl1⟩:=h1'.iad i hc'
    obtain⟨r2,i2,hr2,hl2⟩:=h2'.iad i hc2
    have hcr:=hc l[i] (List.getElem_mem hc')
    have w1:IntKind.i64.wrap ((i:Int)+1)=((i+1:Nat):Int):=WI
    have qat:=fun q2=>zYF (p:=rnEq) hc' hc2 q2
    have hj':=hj
    have key:rnEq l[i] m[i]=true → ∀ j (x1:j<l.length) (x2:j<m.length),j<i+1→rnEq l[j] m[j]=true:=fun q2 j x1 x2 hj'=>by
     exact zB0E
    generalize l[i]=e1 at *
    generalize m[i]=e2 at *
    obtain⟨ra1,rfl,b1,_⟩:=hr1
    obtain⟨ra2,rfl,b2,_⟩:=hr2
    have hp:=fun M=>zIR (fuel:=fuel) (d:=d) b1 b2 (by omega) hcr.2 M
    have o1:=b1.one
    have o3:=b2.one
    cases q2:rnEq e1 e2 with
    | true =>
     rw[q2] at hp
     simp (disch:=try exact SX) only[RV,seval,zA0,g0,g1,g5,la,h1'.fz.rows,h1'.fz.one,h1'.fz.cells,h1'.fz.icy,h1'.fz.frz,h2'.fz.rows,h2'.fz.one,h2'.fz.cells,h2'.fz.icy,h2'.fz.frz,q1,i1,i2,w1,b1.fz.rows,b1.fz.one,b1.fz.cells,b1.fz.icy,b1.fz.frz,b2.fz.rows,b2.fz.one,b2.fz.cells,b2.fz.icy,b2.fz.frz,hp,wN]
     exact⟨hlt,l.length - (i+1),by omega,i+1,rfl,by omega,rfl,key q2⟩
    | false =>
     rw[q2] at hp
     have e:zEQ l m=false:=qat q2
     simp (disch:=try exact SX) only[RV,seval,zA0,g0,g1,g5,la,h1'.fz.rows,h1'.fz.one,h1'.fz.cells,h1'.fz.icy,h1'.fz.frz,h2'.fz.rows,h2'.fz.one,h2'.fz.cells,h2'.fz.icy,h2'.fz.frz,q1,i1,i2,w1,b1.fz.rows,b1.fz.one,b1.fz.cells,b1.fz.icy,b1.fz.frz,b2.fz.rows,b2.fz.one,b2.fz.cells,b2.fz.icy,b2.fz.frz,hp,wN,e,zL3]
   ·obtain rfl:i=l.length:=by omega
    have q1:decide ((l.length:Int)<l.length)=false:=DF
    have e:zEQ l m=true:=zSL q fun j x1 x2 _=>hj j x1 x2 x1
    simp (disch:=try exact SX) only[RV,seval,zA0,g0,g1,g5,la,q1,e,zL3]
 ·have q0:decide ((l.length:Int)=m.length)=false:=DF
  have e:zEQ l m=false:=zYH q
  simp (disch:=try exact SX) only[RV,seval,zA0,h0,h1,la,lb,h1'.fz.rows,h1'.fz.one,h1'.fz.cells,h1'.fz.icy,h1'.fz.frz,h2'.fz.rows,h2'.fz.one,h2'.fz.cells,h2'.fz.icy,h2'.fz.frz,q0,e,zL3]
theorem zO7 {a:AV}{l:List Rn}(hS:Sl 10 isRn a l)(hl:l.length≤100000)(hd:∀ o∈l,o.rs.length≤1000000000)(hf:l.length+100<fuel):∃ r,Sl 10 isRn r l ∧ ∀ M,zCN fuel (d+2) 5 [a] M=some (r,M):=by
 have ll:=hS.len
 refine zHI tf5 rfl (fun M=>by simp only[icyL,fun M=>hS.icy M 12 (by omega)]) ?_
 refine zAL tf5 rfl (by simp only[icyL,fun M=>hS.icy M 12 (by omega)]) (by simp [a5]) fun b' ht hx=>?_
 have h0:=hx 0 _ rfl
 clear hx
 simp only[a5,c5] at ht ⊢
 simp (disch:=try exact SX) only[RV,seval,zA0,h0,hS.fz.rows,hS.fz.one,hS.fz.cells,hS.fz.icy,hS.fz.frz]
 refine zB7 (I:=fun n t N => ∃ (i:Nat) (out:AV),n=l.length - i∧i≤l.length∧nth zA3 t 0=a∧nth zA3 t 3=out∧nth zA3 t 4=I64 i∧Wf N∧SlM N 10 isRn out (l.take i)) (n:=l.length) (by omega) ?_ ?_
 ·refine⟨0,NIL,rfl,Nat.zero_le _, ?_, ?_, ?_,Wf.mem0,SlM.nil⟩ <;> simp (disch:=try exact SX) only[RV,seval,zA0,h0]
  all_goals first | rfl | assumption | done
 ·rintro n t N hlt ⟨i,out,rfl,hi,g0,g3,g4,w,sm⟩
  simp only[ht] at hlt ⊢
  have oo:=sm.one
  have oc:=sm.cells
  by_cases hc:i<l.length
  ·have q3:decide ((i:Int)<l.length)=true:=DT
   have w1:IntKind.i64.wrap ((i:Int)+1)=((i+1:Nat):Int):=WI
   obtain⟨r,hiad,hr,hrl⟩:=hS.iad i hc
   have hsn:=zB4 l i hc
   have hlo:=hd l[i] (List.getElem_mem hc)
   generalize l[i]=e at *
   obtain⟨ra,rfl,hra,hok⟩:=hr
   have ora:=hra.one
   obtain⟨rt,srt,hrt⟩:=zIS (fuel:=fuel) (d:=d) hra hlo
   have ort:=srt.one
   have hli:(l.take i).length≤i:=by rw[List.length_take];omega
   simp (disch:=try exact SX) only[RV,seval,zA0,g0,g3,g4,ll,hS.fz.rows,hS.fz.one,hS.fz.cells,hS.fz.icy,hS.fz.frz,q3,hiad,hra.fz.rows,hra.fz.one,hra.fz.cells,hra.fz.icy,hra.fz.frz,w,oo,oc,hrt,srt.fz.rows,srt.fz.one,srt.fz.cells,srt.fz.icy,srt.fz.frz]
   refine⟨zAM sm.rl (by omega), ?_⟩
   refine app1 (bytes:=80) w sm zDI (x:=e) ⟨rt,rfl,srt,hok⟩ rfl (by omega) (by omega) (by omega) fun o' M' m' w' le' kp' nw' wm' rl' on' oc'=>?_
   simp (disch:=try exact SX) only[RV,seval,zA0,g0,g3,g4,w1,w',on',oc']
   exact⟨hlt,l.length - (i+1),by omega,i+1,o',rfl,by omega,rfl,rfl,by rw[hsn];exact m'⟩
  ·obtain rfl:i=l.length:=by omega
   have q3:decide ((l.length:Int)<l.length)=false:=DF
   rw[List.take_length] at sm
   obtain⟨r,hz,hsr⟩:=sm.frz zDI.cel (k:=12) (by omega)
   simp (disch:=try exact SX) only[RV,seval,zA0,g0,g3,g4,ll,hS.fz.rows,hS.fz.one,hS.fz.cells,hS.fz.icy,hS.fz.frz,q3,hz]
   exact⟨r,hsr,rfl⟩
theorem zJC {a b:AV}{l:List Eid}(ha:Sl 4 zDJ a l)(hb:Sl 4 zDJ b l)(hf:l.length<fuel)(hl:l.length≤1000000000)(M:Mem):zCN fuel (d+1) 17 [a,b] M=some (BL true,M):=by
 have hla:=ha.len
 have hlb:=hb.len
 apply zBA
 refine zAL tf17 rfl (by simp (disch:=try exact SX) only[RV,seval,zA0,ha.fz.rows,ha.fz.one,ha.fz.cells,ha.fz.icy,ha.fz.frz,hb.fz.rows,hb.fz.one,hb.fz.cells,hb.fz.icy,hb.fz.frz]) (by simp [a17]) fun b' ht hx=>?_
 obtain⟨h0,h1⟩:=hx2 hx
 clear hx
 simp only[a17,c17] at ht ⊢
 have q1:decide ((l.length:Int)=l.length)=true:=by simp
 simp (disch:=try exact SX) only[RV,seval,zA0,h0,h1,hla,hlb,q1,ha.fz.rows,ha.fz.one,ha.fz.cells,ha.fz.icy,ha.fz.frz,hb.fz.rows,hb.fz.one,hb.fz.cells,hb.fz.icy,hb.fz.frz]
 refine zB7 (I:=fun n t N => ∃ (i:Nat),n=l.length - i∧i≤l.length∧nth zA3 t 0=a∧nth zA3 t 1=b∧nth zA3 t 5=I64 i∧Wf N) (n:=l.length) (by omega) ?_ ?_
 ·refine⟨0,rfl,Nat.zero_le _, ?_, ?_, ?_,Wf.mem0⟩ <;> simp (disch:=try exact SX) only[RV,seval,zA0,h0,h1]
  all_goals first | rfl | assumption | done
 ·rintro n t N hlt ⟨i,rfl,hi,g0,g1,g5,wN⟩
  simp only[ht] at hlt ⊢
  by_cases hc:i<l.length
  ·have q2:decide ((i:Int)<l.length)=true:=DT
   have w1:IntKind.i64.wrap ((i:Int)+1)=((i+1:Nat):Int):=WI
   obtain⟨r,hr,⟨rfl,_⟩,_⟩:=ha.iad i hc
   obtain⟨r2,hr2,⟨rfl,_⟩,_⟩:=hb.iad i hc
   have q3:decide (l[i]=l[i])=true:=decide_eq_true rfl
   simp (disch:=try exact SX) only[RV,seval,zA0,g0,g1,g5,hla,q2,hr,hr2,w1,↓pIdE,zAE,↓pIdN,zAB,↓pHdE,zAC,↓pHdN,zAD,↓pLbE,zAF,↓pLbN,zAG,↓pSpE,zAH,↓pSpN,zAI,ETA,q3,ha.fz.rows,ha.fz.one,ha.fz.cells,ha.fz.icy,ha.fz.frz,hb.fz.rows,hb.fz.one,hb.fz.cells,hb.fz.icy,hb.fz.frz]
   exact⟨hlt,l.length - (i+1),by omega,i+1,rfl,by omega,rfl,wN⟩
  ·obtain rfl:i=l.length:=by omega
   have q2:decide ((l.length:Int)<l.length)=false:=DF
   simp (disch:=try exact SX) only[RV,seval,zA0,g0,g1,g5,hla,q2,ha.fz.rows,ha.fz.one,ha.fz.cells,ha.fz.icy,ha.fz.frz,hb.fz.rows,hb.fz.one,hb.fz.cells,hb.fz.icy,hb.fz.frz]
end Go.Proofs.Ytdgikiebohcohaa
namespace Go.Ax
open Go
variable {M : Mem} {st : Nat} {α : Type} {T : List AV → α → Prop} {a : AV} {l : List α}
structure Prt (M:Mem) (st:Nat) (T:List AV→α→Prop) (a a':AV) (l:List α):Prop where
 one:oneA a'=true
 cells:cellsA a'=[a']
 sub:∀ id,rowOf a'=some id→rowOf a=some id
 ln:lenA a'=some l.length
 rws:∀ n,M.size≤n→((rowsOf a').all fun i=>Nat.blt i n)=true
 rd:∃ rows:List (List AV),(∀ N,(∀ id,rowOf a=some id→N.get id=M.get id)→cellsOf N a'=some rows.flatten)∧All2 T rows l ∧ ∀ r∈rows,r.length=st
theorem zEZ {β:Type}{R:β→α→Prop}:∀ (n:Nat) {x:List β} {y:List α},All2 R x y→All2 R (x.drop n) (y.drop n)
 | 0,_,_,h=>h
 | _+1,_,_,.nil => .nil
 | n+1,_,_,.cons _ t=>zEZ n t
theorem zJF {β:Type}{R:β→α→Prop}:∀ (n:Nat) {x:List β} {y:List α},All2 R x y→All2 R (x.take n) (y.take n)
 | 0,_,_,_ => .nil
 | _+1,_,_,.nil => .nil
 | n+1,_,_,.cons a t => .cons a (zJF n t)
theorem SlM.pre (h:SlM M st T a l)(hs:0<st){n:Nat}(hn:n≤l.length):∃ a',Prt M st T a a' (l.take n) ∧ ∀ N,(∀ id,rowOf a=some id→N.get id=M.get id)→slcO N st a none (some (.sc (.int .i64 n))) none=some (a',N):=by
 rcases h with⟨rfl,rfl⟩ | ⟨id,rows,cap,rfl,hc,hg,hA,hr⟩
 ·obtain rfl:n=0:=by simpa using hn
  exact⟨.sc (.slice none 0 0),⟨rfl,rfl,fun _ h=>h,rfl,fun _ _=>rfl,[],fun _ _=>rfl,.nil,by simp⟩,fun N _=>rfl⟩
 ·have hl:=hA.length_eq
  have hfl:=zAN hr
  have hnr:n≤rows.length:=by omega
  have hnl:(l.take n).length=n:=by rw[List.length_take];omega
  have hms:n*st≤rows.length*st:=Nat.mul_le_mul_right st hnr
  refine⟨.sl id 0 n (cap.map fun _=>rows.length) st,⟨rfl,rfl,fun _ h=>h,by rw[hnl];rfl,fun n hn=>by
   simp only[rowsOf,List.all_cons,List.all_nil,Bool.and_true]
   exact zD6 (Nat.lt_of_lt_of_le (Mem.get_lt hg) hn),rows.take n,fun N hN=>?_,zE3 n hA,fun r hr'=>hr r (List.mem_of_mem_take hr')⟩,fun N hN=>?_⟩
  ·have hrd:=zBG ((hN id rfl).trans hg)
   simp only[cellsOf,hrd]
   rw[Nat.ble_eq_true_of_le (by omega)]
   have e:slot rows.flatten 0 (n*st)=(rows.take n).flatten:=by
    unfold slot
    rw[List.drop_zero]
    have h1:rows.flatten=(rows.take n).flatten++(rows.drop n).flatten:=by rw[← List.flatten_append,List.take_append_drop]
    have h2:(rows.take n).flatten.length=n*st:=by rw[zAN fun r hr'=>hr r (List.mem_of_mem_take hr'),List.length_take,Nat.min_eq_left hnr]
    rw[h1,← h2,List.take_left]
   rw[e]
  ·have hrd:=zBG ((hN id rfl).trans hg)
   rcases hc with rfl | rfl
   ·have hav:n≤rows.flatten.length / st:=by
     rw[Nat.le_div_iff_mul_le hs,hfl];exact hms
    unfold slcO
    simp only[Nat.beq_refl,hrd,Nat.sub_zero,zDT _ _ _ _ hav,zCT,Nat.zero_mul,Nat.add_zero,Option.map_none]
   ·unfold slcO
    simp only[Nat.beq_refl,zCT,zDT _ _ _ _ hnr,Nat.sub_zero,Nat.zero_mul,Nat.add_zero,Option.map_some]
    cases Nat.beq rows.length 0 <;> rfl
theorem SlM.suf (h:SlM M st T a l)(hs:0<st){n:Nat}(hn:n≤l.length):∃ a',Prt M st T a a' (l.drop n) ∧ ∀ N,(∀ id,rowOf a=some id→N.get id=M.get id)→slcO N st a (some (.sc (.int .i64 n))) none none=some (a',N):=by
 rcases h with⟨rfl,rfl⟩ | ⟨id,rows,cap,rfl,hc,hg,hA,hr⟩
 ·obtain rfl:n=0:=by simpa using hn
  exact⟨.sc (.slice none 0 0),⟨rfl,rfl,fun _ h=>h,rfl,fun _ _=>rfl,[],fun _ _=>rfl,.nil,by simp⟩,fun N _=>rfl⟩
 ·have hl:=hA.length_eq
  have hfl:=zAN hr
  have hnr:n≤rows.length:=by omega
  have hnl:(l.drop n).length=rows.length - n:=by rw[List.length_drop];omega
  have hms:n*st+(rows.length - n)*st=rows.length*st:=by rw[← Nat.add_mul];congr 1;omega
  have hav:rows.flatten.length / st=rows.length:=by rw[hfl];exact Nat.mul_div_cancel _ hs
  have e1:slot rows.flatten (n*st) ((rows.length - n)*st)=(rows.drop n).flatten:=by
   unfold slot
   have h1:rows.flatten=(rows.take n).flatten++(rows.drop n).flatten:=by rw[← List.flatten_append,List.take_append_drop]
   have h2:(rows.take n).flatten.length=n*st:=by rw[zAN fun r hr'=>hr r (List.mem_of_mem_take hr'),List.length_take,Nat.min_eq_left hnr]
   have h3:(rows.drop n).flatten.length=(rows.length - n)*st:=by rw[zAN fun r hr'=>hr r (List.mem_of_mem_drop hr'),List.length_drop]
   rw[h1,← h2,List.drop_left,← h3,List.take_length]
  have cell:∀ (off:Nat) (c:Option Nat),(off=n*st∨(off=0∧n=rows.length)) → ∀ N,(∀ j,rowOf (.sl id 0 rows.length cap st)=some j→N.get j=M.get j)→cellsOf N (.sl id off (rows.length - n) c st)=some (rows.drop n).flatten:=fun off c ho N hN=>by
   have hrd:=zBG ((hN id rfl).trans hg)
   simp only[cellsOf,hrd]
   rcases ho with rfl | ⟨rfl,rfl⟩
   ·rw[Nat.ble_eq_true_of_le (by omega),e1]
   ·rw[Nat.ble_eq_true_of_le (by rw[Nat.sub_self,Nat.zero_mul];exact Nat.zero_le _),Nat.sub_self,Nat.zero_mul,List.drop_length]
    simp [slot]
  rcases hc with rfl | rfl
  ·refine⟨.sl id (n*st) (rows.length - n) none st,⟨rfl,rfl,fun _ h=>h,by rw[hnl];rfl,fun n hn=>by
   simp only[rowsOf,List.all_cons,List.all_nil,Bool.and_true]
   exact zD6 (Nat.lt_of_lt_of_le (Mem.get_lt hg) hn),rows.drop n,cell _ _ (.inl rfl),zEZ n hA,fun r hr'=>hr r (List.mem_of_mem_drop hr')⟩,fun N hN=>?_⟩
   have hrd:=zBG ((hN id rfl).trans hg)
   unfold slcO
   simp only[Nat.beq_refl,hrd,Nat.sub_zero,zDT _ _ _ _ hnr,zCT,Nat.zero_add]
  ·refine⟨.sl id (match Nat.beq rows.length n with | true=>0 | false=>0+n*st) (rows.length - n) (some (rows.length - n)) st,⟨rfl,rfl,fun _ h=>h,by rw[hnl];rfl,fun n hn=>by
   simp only[rowsOf,List.all_cons,List.all_nil,Bool.and_true]
   exact zD6 (Nat.lt_of_lt_of_le (Mem.get_lt hg) hn),rows.drop n,cell _ _ ?_,zEZ n hA,fun r hr'=>hr r (List.mem_of_mem_drop hr')⟩,fun N hN=>?_⟩
   ·cases hb:Nat.beq rows.length n with
    | true=>exact .inr ⟨rfl,(Nat.eq_of_beq_eq_true hb).symm⟩
    | false=>exact .inl (Nat.zero_add _)
   ·unfold slcO
    simp only[Nat.beq_refl,zCT,zDT _ _ _ _ hnr]
    cases Nat.beq rows.length n <;> rfl
theorem SlM.row_mem (h:SlM M st T a l){i:Nat}(hi:i∈rowsOf a):rowOf a=some i:=by
 rcases h with⟨rfl,rfl⟩ | ⟨id,rows,cap,rfl,hc,hg,hA,hr⟩
 ·simp [rowsOf] at hi
 ·simp only[rowsOf,List.mem_singleton] at hi
  subst hi;rfl
theorem zE4 (r w:List Nat)(n n' a b:Nat):zB8 (.acc [] []) (fpOf r w n n',a,b)=true:=by
 unfold fpOf
 cases hb:(r.isEmpty&&w.isEmpty&&Nat.beq n n') <;> simp [zB8,FP.apart,disj,FP.reads,FP.writes]
theorem zLG {r r' w':List Nat}{n n' m m' a b:Nat}(h:∀ i∈r,i ∉ w'∧(i<a∨b≤i)):zB8 (fpOf r [] n n') (fpOf r' w' m m',a,b)=true:=by
 have h1:∀ x,x∈r→Nat.ble a x=false∨Nat.blt x b=false:=fun i hi=>by
  rcases (h i hi).2 with k | k
  ·left
   cases hb:Nat.ble a i with
   | false=>rfl
   | true=>have:=Nat.le_of_ble_eq_true hb;omega
  ·right
   cases hb:Nat.blt i b with
   | false=>rfl
   | true=>have:i<b:=Nat.le_of_ble_eq_true hb;omega
 have h2:∀ i,i∈r → ¬i∈w':=fun i hi=>(h i hi).1
 unfold fpOf
 cases hb:(r.isEmpty&&([]:List Nat).isEmpty&&Nat.beq n n') <;> cases hc:(r'.isEmpty&&w'.isEmpty&&Nat.beq m m') <;> simp [zB8,FP.apart,disj,FP.reads,FP.writes] <;> first | exact⟨h2,h1⟩ | exact h1
theorem zFX {r r' w':List Nat}{n n' a b:Nat}(h:∀ i∈r,i ∉ w'∧(i<a∨b≤i)):zB8 (fpOf r [] n n') (.acc r' w',a,b)=true:=by
 have h1:∀ x,x∈r→Nat.ble a x=false∨Nat.blt x b=false:=fun i hi=>by
  rcases (h i hi).2 with k | k
  ·left
   cases hb:Nat.ble a i with
   | false=>rfl
   | true=>have:=Nat.le_of_ble_eq_true hb;omega
  ·right
   cases hb:Nat.blt i b with
   | false=>rfl
   | true=>have:i<b:=Nat.le_of_ble_eq_true hb;omega
 have h2:∀ i,i∈r → ¬i∈w':=fun i hi=>(h i hi).1
 unfold fpOf
 cases hb:(r.isEmpty&&([]:List Nat).isEmpty&&Nat.beq n n') <;> simp [zB8,FP.apart,disj,FP.reads,FP.writes] <;> first | exact⟨h2,h1⟩ | exact h1
end Go.Ax
namespace Go.Proofs.Ytdgikiebohcohaa
open Go Go.Ax
variable {fuel : Nat} {M : Mem} {Q : AV → Mem → Prop} {d : Nat}
theorem zIU (a b:Lb)(ha:a.ok)(hb:b.ok)(M:Mem):zCN fuel (d+1) 99 [lbA a,lbA b] M=some (BL (a.ahead b),M):=by
 obtain⟨a1,a2,a3,a4⟩:=ha
 obtain⟨b1,b2,b3,b4⟩:=hb
 have e:decide (a.lv*4294967296+a.cats<b.lv*4294967296+b.cats)=a.ahead b:=by
  unfold Lb.ahead
  rw[Bool.eq_iff_iff]
  simp only[decide_eq_true_eq,Bool.or_eq_true,Bool.and_eq_true]
  omega
 have w1:IntKind.i64.wrap a.lv=a.lv:=wrap_i64 (by omega) (by omega)
 have w2:IntKind.i64.wrap a.cats=a.cats:=wrap_i64 (by omega) (by omega)
 have w3:IntKind.i64.wrap b.lv=b.lv:=wrap_i64 (by omega) (by omega)
 have w4:IntKind.i64.wrap b.cats=b.cats:=wrap_i64 (by omega) (by omega)
 have w5:IntKind.i64.wrap (a.lv*4294967296)=a.lv*4294967296:=wrap_i64 (by omega) (by omega)
 have w6:IntKind.i64.wrap (b.lv*4294967296)=b.lv*4294967296:=wrap_i64 (by omega) (by omega)
 have w7:IntKind.i64.wrap (a.lv*4294967296+a.cats)=a.lv*4294967296+a.cats:=wrap_i64 (by omega) (by omega)
 have w8:IntKind.i64.wrap (b.lv*4294967296+b.cats)=b.lv*4294967296+b.cats:=wrap_i64 (by omega) (by omega)
 have cv1:=fun t r x=>zPN (P:=Try.prog) (t:=t) Try.underlying5 Try.underlying3 r x
 have cv2:=fun t r x=>zPN (P:=Try.prog) (t:=t) Try.underlying23 Try.underlying3 r x
 apply zBA
 refine zAL tf99 rfl (by simp (disch:=try exact SX) only[RV,seval,zA0]) (by simp [a99]) fun b' ht hx=>?_
 obtain⟨h0,h1⟩:=hx2 hx
 clear hx
 simp only[a99,c99] at ht ⊢
 simp (disch:=try exact SX) only[RV,seval,zA0,h0,h1,cv1,cv2,zKS,w1,w2,w3,w4,w5,w6,w7,w8,e]
theorem zR2 (x y:Eid)(hx:x.ok)(hy:y.ok)(M:Mem):zCN fuel (d+2) 98 [idA x,idA y] M=some (BL (x.less y),M):=by
 have h1':=fun M=>zIU (fuel:=fuel) (d:=d) x.hd.lb y.hd.lb hx.1.1 hy.1.1 M
 have h2':=fun M=>zIU (fuel:=fuel) (d:=d) y.hd.lb x.hd.lb hy.1.1 hx.1.1 M
 apply zBA
 refine zAL tf98 rfl (by simp (disch:=try exact SX) only[RV,seval,zA0]) (by simp [a98]) fun b' ht hx=>?_
 obtain⟨h0,h1⟩:=hx2 hx
 clear hx
 simp only[a98,c98] at ht ⊢
 have key:=zDN x y
 cases q1:decide (x.c<y.c) with
 | true =>
  have e:x.less y=true:=key.2 (.inl (of_decide_eq_true q1))
  simp (disch:=try exact SX) only[RV,seval,zA0,h0,h1,q1,e]
 | false =>
  have q1':=of_decide_eq_false q1
  cases q2:decide (y.c<x.c) with
  | true =>
   have q2':=of_decide_eq_true q2
   have e:x.less y=false:=by rw[← Bool.not_eq_true,key];omega
   simp (disch:=try exact SX) only[RV,seval,zA0,h0,h1,q1,q2,e,gt_iff_lt]
  | false =>
   have q2':=of_decide_eq_false q2
   have u1:x.hd.lb.ahead y.hd.lb=true↔x.hd.lb.lv<y.hd.lb.lv∨(x.hd.lb.lv=y.hd.lb.lv∧x.hd.lb.cats<y.hd.lb.cats):=by unfold Lb.ahead;simp
   have u2:y.hd.lb.ahead x.hd.lb=true↔y.hd.lb.lv<x.hd.lb.lv∨(y.hd.lb.lv=x.hd.lb.lv∧y.hd.lb.cats<x.hd.lb.cats):=by unfold Lb.ahead;simp
   cases q3:x.hd.lb.ahead y.hd.lb with
   | true =>
    rw[q3] at h1' u1
    have u1:=u1.1 rfl
    have e:x.less y=true:=key.2 (by omega)
    simp (disch:=try exact SX) only[RV,seval,zA0,h0,h1,q1,q2,h1',e,gt_iff_lt]
   | false =>
    rw[q3] at h1' u1
    have u1:¬_:=fun h=>absurd (u1.2 h) (by decide)
    cases q4:y.hd.lb.ahead x.hd.lb with
    | true =>
     rw[q4] at h2' u2
     have u2:=u2.1 rfl
     have e:x.less y=false:=by rw[← Bool.not_eq_true,key];omega
     simp (disch:=try exact SX) only[RV,seval,zA0,h0,h1,q1,q2,h1',h2',e,gt_iff_lt]
    | false =>
     rw[q4] at h2' u2
     have u2:¬_:=fun h=>absurd (u2.2 h) (by decide)
     have e:decide (x.hd.num<y.hd.num)=x.less y:=by
      rw[Bool.eq_iff_iff,key,decide_eq_true_iff]
      omega
     simp (disch:=try exact SX) only[RV,seval,zA0,h0,h1,q1,q2,h1',h2',e,gt_iff_lt]
def ahB:List Eid→List Eid→Bool
 | [],[]=>false
 | [],_::_=>true
 | _::_,[]=>false
 | a::p,b::q=>if a=b then ahB p q else b.less a
theorem zOR (a b:Eid)(p q:List Eid):ahB (a::p) (b::q)=if a=b then ahB p q else b.less a:=rfl
theorem zN4:∀ {p q:List Eid},ahB p q=true↔ahd p q
 | [],[]=>by simp [ahB,ahd]
 | [],_::_=>by simp [ahB,ahd]
 | _::_,[]=>by simp [ahB,ahd]
 | a::p,b::q=>by
  unfold ahB ahd
  by_cases e:a=b
  ·subst e
   rw[if_pos rfl,zN4]
   simp [zHP]
  ·rw[if_neg e]
   simp [e]
theorem zHE {a b:AV}{P R:List Eid}(hP:Sl 4 zDJ a P)(hR:Sl 4 zDJ b R)(hl:P.length≤1000000000)(hl2:R.length≤1000000000)(hf:P.length<fuel)(M:Mem):zCN fuel (d+3) 92 [a,b] M=some (BL (ahB P R),M):=by
 have lp:=hP.len
 have lr:=hR.len
 apply zBA
 refine zAL tf92 rfl (by simp only[icyL,fun M=>hP.icy M 12 (by omega),fun M=>hR.icy M 12 (by omega)]) (by simp [a92]) fun b' ht hx=>?_
 obtain⟨h0,h1⟩:=hx2 hx
 clear hx
 simp only[a92,c92] at ht ⊢
 simp (disch:=try exact SX) only[RV,seval,zA0,h0,h1,hP.fz.rows,hP.fz.one,hP.fz.cells,hP.fz.icy,hP.fz.frz,hR.fz.rows,hR.fz.one,hR.fz.cells,hR.fz.icy,hR.fz.frz]
 refine zB7 (I:=fun n t N => ∃ (i:Nat),n=P.length - i∧i≤P.length∧nth zA3 t 0=a∧nth zA3 t 1=b∧nth zA3 t 5=I64 i∧Wf N∧ahB P R=ahB (P.drop i) (R.drop i)∧i≤R.length) (n:=P.length) (by omega) ?_ ?_
 ·refine⟨0,rfl,Nat.zero_le _, ?_, ?_, ?_,Wf.mem0,rfl,Nat.zero_le _⟩ <;> simp (disch:=try exact SX) only[RV,seval,zA0,h0,h1]
  all_goals first | rfl | assumption | done
 ·rintro n t N hlt ⟨i,rfl,hi,g0,g1,g5,w,hj,hi2⟩
  simp only[ht] at hlt ⊢
  by_cases hc:i<P.length
  ·have q1:decide ((i:Int)<P.length)=true:=DT
   obtain⟨r1,hiad,⟨rfl,hok1⟩,_⟩:=hP.iad i hc
   by_cases hc2:i=R.length
   ·have q2:decide ((i:Int)=R.length)=true:=DT
    have e:ahB P R=false:=by
     rw[hj,List.drop_eq_getElem_cons hc,List.drop_eq_nil_of_le (show R.length≤i by omega)]
     rfl
    simp (disch:=try exact SX) only[RV,seval,zA0,g0,g1,g5,lp,lr,q1,q2,hP.fz.rows,hP.fz.one,hP.fz.cells,hP.fz.icy,hP.fz.frz,hR.fz.rows,hR.fz.one,hR.fz.cells,hR.fz.icy,hR.fz.frz,e]
   ·have q2:decide ((i:Int)=R.length)=false:=DF
    have hc3:i<R.length:=by omega
    obtain⟨r2,hiad2,⟨rfl,hok2⟩,_⟩:=hR.iad i hc3
    rw[List.drop_eq_getElem_cons hc,List.drop_eq_getElem_cons hc3] at hj
    have hle:=fun M=>zR2 (fuel:=fuel) (d:=d) R[i] P[i] hok2 hok1 M
    have w1:IntKind.i64.wrap ((i:Int)+1)=((i+1:Nat):Int):=WI
    cases q3:decide (P[i]=R[i]) with
    | true =>
     rw[zOR,if_pos (of_decide_eq_true q3)] at hj
     simp (disch:=try exact SX) only[RV,seval,zA0,g0,g1,g5,lp,lr,q1,q2,hP.fz.rows,hP.fz.one,hP.fz.cells,hP.fz.icy,hP.fz.frz,hR.fz.rows,hR.fz.one,hR.fz.cells,hR.fz.icy,hR.fz.frz,hiad,hiad2,q3,↓pIdE,zAE,↓pIdN,zAB,↓pHdE,zAC,↓pHdN,zAD,↓pLbE,zAF,↓pLbN,zAG,↓pSpE,zAH,↓pSpN,zAI,ETA,w1]
     exact⟨hlt,P.length - (i+1),by omega,i+1,rfl,by omega,rfl,w,hj,by omega⟩
    | false =>
     rw[zOR,if_neg (of_decide_eq_false q3)] at hj
     simp (disch:=try exact SX) only[RV,seval,zA0,g0,g1,g5,lp,lr,q1,q2,hP.fz.rows,hP.fz.one,hP.fz.cells,hP.fz.icy,hP.fz.frz,hR.fz.rows,hR.fz.one,hR.fz.cells,hR.fz.icy,hR.fz.frz,hiad,hiad2,q3,↓pIdE,zAE,↓pIdN,zAB,↓pHdE,zAC,↓pHdN,zAD,↓pLbE,zAF,↓pLbN,zAG,↓pSpE,zAH,↓pSpN,zAI,ETA,hle,hj]
  ·obtain rfl:i=P.length:=by omega
   have q1:decide ((P.length:Int)<P.length)=false:=DF
   have e:decide ((P.length:Int)<R.length)=ahB P R:=by
    rw[hj,List.drop_length]
    by_cases h:P.length=R.length
    ·rw[h,List.drop_length]
     simp [ahB]
    ·rw[List.drop_eq_getElem_cons (show P.length<R.length by omega)]
     unfold ahB
     exact decide_eq_true (by omega)
   simp (disch:=try exact SX) only[RV,seval,zA0,g0,g1,g5,lp,lr,q1,hP.fz.rows,hP.fz.one,hP.fz.cells,hP.fz.icy,hP.fz.frz,hR.fz.rows,hR.fz.one,hR.fz.cells,hR.fz.icy,hR.fz.frz,e]
theorem zb5 {E:List El}{x:Eid}{p:List Eid}(h:Pth E x p):∀ i (hi:i<p.reverse.length),∃ e∈E,e.id=p.reverse[i]∧e.af=p.reverse.getD (i+1) Eid.z:=by
 induction h with
 | @root x m e =>
  intro i hi
  obtain rfl:i=0:=by simpa using hi
  exact⟨x,m,rfl,e⟩
 | @step x p m hp ih =>
  intro i hi
  have er:(p++[x.id]).reverse=x.id::p.reverse:=by simp
  simp only[er] at hi ⊢
  cases i with
  | zero =>
   obtain⟨q,rfl⟩:=hp.last
   exact⟨x,m,rfl,by simp⟩
  | succ i =>
   obtain⟨e,h1,h2,h3⟩:=ih i (by simpa using hi)
   exact⟨e,h1,by simpa using h2,by simpa using h3⟩
theorem wh_at {E:List El}(hn:(E.map (·.id)).Nodup){e:El}(he:e∈E):∃ n,∃ h:n<E.length,whI E e.id=(n:Int)∧E[n]=e:=by
 obtain⟨n,hn',rfl⟩:=List.getElem_of_mem he
 refine⟨n,hn', ?_,rfl⟩
 unfold whI
 refine zFO (p:=fun y:El=>decide (y.id=E[n].id)) hn' (decide_eq_true rfl) fun j hj=>decide_eq_false fun heq=>?_
 have h1:j<(E.map (·.id)).length:=by rw[List.length_map];omega
 have h2:n<(E.map (·.id)).length:=by rw[List.length_map];omega
 have:=(List.pairwise_iff_getElem.1 hn) j n h1 h2 hj
 simp only[List.getElem_map] at this
 exact this heq
theorem wh_z {E:List El}(h:∀ x∈E,0<x.id.c):whI E Eid.z = -1:=by
 unfold whI
 refine zGU (p:=fun y:El=>decide (y.id=Eid.z)) fun j hj=>decide_eq_false fun e=>?_
 have:=h E[j] (List.getElem_mem hj)
 rw[e] at this
 exact absurd this (by decide)
theorem zO6 {a:AV}{E:List El}(hS:Sl 9 isEl a E)(hs:Set1 E){x:El}{p:List Eid}(hp:Pth E x.id p)(hpl:p.length≤1000000)(hl:E.length≤1000000)(hf:E.length+p.length<fuel):∃ r,Sl 4 zDJ r p ∧ ∀ M,zCN fuel (d+2) 91 [a,.agg (elR9 x)] M=some (r,M):=by
 have hw:=fun y M=>zDP (fuel:=fuel) (d:=d) hS y (by omega) (by omega) M
 have hz:=wh_z fun x hx=>(hs.ct x hx).2
 have hrv:=zb5 hp
 have e0:x.id=p.reverse.getD 0 Eid.z:=by
  obtain⟨q,rfl⟩:=hp.last
  simp
 have hpr:p=p.reverse.reverse:=by simp
 have hrl:p.reverse.length=p.length:=List.length_reverse
 generalize p.reverse=R at *
 refine zHI tf91 rfl (fun M=>by simp only[icyL,fun M=>hS.icy M 12 (by omega),zBS (zGQ x) (show 1<12 by omega)]) ?_
 refine zAL tf91 rfl (by simp only[icyL,fun M=>hS.icy M 12 (by omega),zBS (zGQ x) (show 1<12 by omega)]) (by simp [a91]) fun b' ht hx=>?_
 obtain⟨h0,h1⟩:=hx2 hx
 clear hx
 simp only[a91,c91] at ht ⊢
 simp (disch:=try exact SX) only[RV,seval,zA0,h0,h1,hS.fz.rows,hS.fz.one,hS.fz.cells,hS.fz.icy,hS.fz.frz,hw]
 rw[e0]
 refine zB7 (I:=fun n t N => ∃ (i:Nat) (o:AV),n=R.length - i∧i≤R.length∧nth zA3 t 0=a∧nth zA3 t 5=o∧nth zA3 t 6=I64 (whI E (R.getD i Eid.z))∧Wf N∧SlM N 4 zDJ o (R.take i).reverse) (n:=R.length) (by omega) ?_ ?_
 ·refine⟨0,NIL,rfl,Nat.zero_le _, ?_, ?_, ?_,Wf.mem0.add _,SlM.nil⟩ <;> simp (disch:=try exact SX) only[RV,seval,zA0,h0,h1]
  all_goals first | rfl | assumption | done
 ·rintro n t N hlt ⟨i,o,rfl,hi,g0,g5,g6,w,sm⟩
  simp only[ht] at hlt ⊢
  have oo:=sm.one
  have co:=sm.cells
  by_cases hc:i<R.length
  ·obtain⟨e,he,h2,h3⟩:=hrv i hc
   obtain⟨n,hn,h4,h5⟩:=wh_at hs.nd he
   have egd:R.getD i Eid.z=e.id:=by rw[List.getD_eq_getElem?_getD,List.getElem?_eq_getElem hc];exact h2.symm
   have hsn:(R.take (i+1)).reverse=[e.id]++(R.take i).reverse:=by rw[zB4 R i hc,List.reverse_append,h2];rfl
   rw[egd,h4] at g6
   obtain⟨r9,hiad,⟨hr9,hok1,hok2⟩,_⟩:=hS.iad n hn
   rw[h5] at hr9 hok1 hok2
   subst hr9
   have q1:decide ((0:Int)≤(n:Int))=true:=DT
   simp (disch:=try exact SX) only[RV,seval,zA0,g0,g5,g6,q1,hiad,hS.fz.rows,hS.fz.one,hS.fz.cells,hS.fz.icy,hS.fz.frz,oo,co,w,ge_iff_le]
   have hsm:=sm.keep (N:=N.add (.row false (idR e.id))) fun j hj=>zAP w _ _ (sm.lt j hj)
   obtain⟨rows,hcl,hla,hA,hr⟩:=hsm.cells2
   have hlit:SlM (N.add (.row false (idR e.id))) 4 zDJ (.sl N.size 0 1 (some 1) 4) [e.id]:=zOG (rows:=[idR e.id]) (.cons ⟨rfl,hok1⟩ .nil) (by simp) rfl (.inr rfl) (by rw[zAO w _ _ (Nat.le_refl _) (Nat.lt_succ_self _)];rfl)
   refine⟨zAM sm.rl (by omega), ?_⟩
   refine zFV (bytes:=24) (w.add _) hlit zP5.cel hcl (by rw[hla,hA.length_eq]) hA hr (by omega) (by rw[List.length_reverse,List.length_take];simp;omega) (by rw[List.length_reverse,List.length_take];simp;omega) fun o' M' m' w' le' sz' kp' nw' wm' rl' on' oc'=>?_
   simp (disch:=try exact SX) only[RV,seval,zA0,g0,g5,g6,hiad,hS.fz.rows,hS.fz.one,hS.fz.cells,hS.fz.icy,hS.fz.frz,hw,w',on',oc']
   exact⟨hlt,R.length - (i+1),by omega,i+1,o',rfl,by omega,rfl,by rw[h3],by rw[hsn];exact m'⟩
  ·obtain rfl:i=R.length:=by omega
   have egd:R.getD R.length Eid.z=Eid.z:=by rw[List.getD_eq_getElem?_getD,List.getElem?_eq_none (Nat.le_refl _)];rfl
   rw[egd,hz] at g6
   have q1:decide ((0:Int) ≤ -1)=false:=by decide
   rw[List.take_length,← hpr] at sm
   obtain⟨r,hzz,hsr⟩:=sm.frz zP5.cel (k:=12) (by omega)
   simp (disch:=try exact SX) only[RV,seval,zA0,g0,g5,g6,q1,hzz,oo,ge_iff_le]
   exact⟨r,hsr,rfl⟩
theorem zM9 {E:List El}(h:(E.map (·.id)).Nodup):E.Nodup:=(List.pairwise_map.1 h).imp fun h e=>h (congrArg _ e)
structure Srt (E T:List El) (P:List (List Eid)) (S:List El):Prop where
 pw:T.Pairwise (Ah E)
 mem:∀ x,x∈T↔x∈S
 pth:All2 (fun p (y:El)=>Pth E y.id p) P T
 len:T.length=S.length
theorem All2.app' {α β:Type}{R:α→β→Prop}:∀ {a:List α} {b:List β} {c:List α} {e:List β},All2 R a b→All2 R c e→All2 R (a++c) (b++e)
 | _,_,_,_,.nil,h=>h
 | _,_,_,_,.cons x t,h => .cons x (All2.app' t h)
theorem Srt.put {E T S:List El}{P:List (List Eid)}{x:El}{p:List Eid}{n:Nat}(h:Srt E T P S)(hs:Set1 E)(hS:∀ y∈S,y∈E)(hx:x∈E)(hxS:x ∉ S)(hp:Pth E x.id p)(hn:n≤T.length)(h1:∀ j (hj:j<P.length),j<n→ahB p P[j]=false)(h2:∀ hj:n<P.length,ahB p P[n]=true) :
  Srt E (T.take n++[x]++T.drop n) (P.take n++[p]++P.drop n) (S++[x]):=by
 obtain⟨pw,mem,pth,len⟩:=h
 have hl:=pth.length_eq
 have hT:∀ y∈T,y∈E:=fun y hy=>hS y ((mem y).1 hy)
 have hxT:x ∉ T:=fun h=>hxS ((mem x).1 h)
 have at_:∀ j (hj:j<T.length),Pth E T[j].id (P[j]'(by omega)):=fun j hj=>pth.get (by omega) hj
 have pre:∀ y∈T.take n,Ah E y x:=fun y hy=>by
  obtain⟨j,hj,rfl⟩:=List.getElem_of_mem hy
  rw[List.length_take] at hj
  rw[List.getElem_take] at hy ⊢
  have hjT:j<T.length:=by omega
  have hb:=h1 j (by omega) (by omega)
  have hpj:=at_ j hjT
  refine⟨_,p,hpj,hp, ?_⟩
  have hne:P[j]'(by omega)≠p:=fun e=>by
   obtain⟨q1,e1⟩:=hpj.last
   obtain⟨q2,e2⟩:=hp.last
   rw[e,e2] at e1
   have:=(List.append_inj' e1 rfl).2
   have hid:x.id=T[j].id:=by injection this
   exact hxT (by rw[zM4 hs.nd hx (hT _ (List.getElem_mem hjT)) hid];exact List.getElem_mem hjT)
  rcases zRQ hne with h | h
  ·exact h
  ·rw[zN4.2 h] at hb;cases hb
 have suf:∀ y∈T.drop n,Ah E x y:=fun y hy=>by
  have hlt:n<T.length:=by
   have:=List.length_pos_of_mem hy
   rw[List.length_drop] at this
   omega
  have hA:Ah E x T[n]:=⟨p,_,hp,at_ n hlt,zN4.1 (h2 (by omega))⟩
  rw[List.drop_eq_getElem_cons hlt] at hy
  rcases List.mem_cons.1 hy with rfl | hy
  ·exact hA
  ·have hpw:=pw.sublist (List.drop_sublist n T)
   rw[List.drop_eq_getElem_cons hlt,List.pairwise_cons] at hpw
   exact hA.trans hs (hpw.1 y hy)
 have hpw2:=pw
 rw[← List.take_append_drop n T,List.pairwise_append] at hpw2
 refine⟨?_,fun y=>?_, ?_, ?_⟩
 ·rw[List.pairwise_append,List.pairwise_append]
  refine⟨⟨hpw2.1,List.pairwise_singleton _ _,fun a ha b hb=>?_⟩,hpw2.2.1,fun a ha b hb=>?_⟩
  ·rw[List.mem_singleton] at hb;subst hb;exact pre a ha
  ·rcases List.mem_append.1 ha with ha | ha
   ·exact hpw2.2.2 a ha b hb
   ·rw[List.mem_singleton] at ha;subst ha;exact suf b hb
 ·rw[List.mem_append,List.mem_append,List.mem_append,← mem y]
  have:y∈T↔y∈T.take n∨y∈T.drop n:=by rw[← List.mem_append,List.take_append_drop]
  rw[this]
  constructor
  ·exact zB0H
  ·exact zB0H
 ·exact All2.app' (All2.app' (zJF n pth) (.cons hp .nil)) (zEZ n pth)
 ·rw[List.length_append,List.length_append,List.length_take,List.length_drop,List.length_append,← len]
  simp only[List.length_singleton]
  omega
theorem Srt.txt {E T:List El}{P:List (List Eid)}(h:Srt E T P E)(hs:Set1 E):Txt T:=by
 have hT:∀ y,y∈T↔y∈E:=h.mem
 have hnd:(T.map (·.id)).Nodup:=by
  rw[List.Nodup,List.pairwise_map]
  refine List.Pairwise.imp_of_mem (fun {a b} ha hb hab e=>?_) h.pw
  have:=zM4 hs.nd ((hT a).1 ha) ((hT b).1 hb) e
  subst this
  exact Ah.irr hs _ hab
 have h1:Set1 T:=⟨hnd,fun x hx=>hs.ct x ((hT x).1 hx),fun x hx=>by
  rcases hs.rt x ((hT x).1 hx) with e | ⟨y,hy,e⟩
  ·exact .inl e
  ·exact .inr ⟨y,(hT y).2 hy,e⟩⟩
 exact⟨h1,h.pw.imp fun k=>k.mono fun x hx=>(hT x).2 hx⟩
def isPa (r:List AV)(p:List Eid):Prop:=∃ a,r=[a]∧Sl 4 zDJ a p
theorem za2:FzT isPa:=fun r p h y hy=>by
 obtain⟨a,rfl,ha⟩:=h
 rw[List.mem_singleton] at hy
 subst hy
 exact ha.fz
theorem zNY {E:List El}(hs:Set1 E){x:Eid}{p:List Eid}(h:Pth E x p):p.length≤E.length:=by
 have hsub:∀ y∈p,y∈E.map (·.id):=fun y hy=>by
  obtain⟨q,r,rfl⟩:=List.append_of_mem hy
  obtain⟨e,he,h1⟩:=(h.pre rfl).mem
  exact List.mem_map.2 ⟨e,he,h1⟩
 have hnd:p.Nodup:=by
  clear hsub
  induction h with
  | root m e=>exact List.pairwise_singleton _ _
  | @step x p m hp ih =>
   rw[List.nodup_append]
   refine⟨ih,List.pairwise_singleton _ _,fun a ha b hb e=>?_⟩
   rw[List.mem_singleton] at hb
   have:=hp.grow (fun x hx=>(hs.ct x hx).1) a ha
   have:=(hs.ct x m).1
   rw[e,hb] at *
   omega
 have:=zL9 hnd hsub
 rwa [List.length_map] at this
theorem zGB {a:AV}{E:List El}(hS:Sl 9 isEl a E)(hs:Set1 E)(hl:E.length≤100000)(hf:2*E.length+100<fuel):∃ r T,(Sl 9 isEl r T∧Txt T∧(∀ x,x∈T↔x∈E)) ∧ ∀ M,zCN fuel (d+4) 68 [a] M=some (r,M):=by
 suffices h:∃ r,(∃ T,Sl 9 isEl r T∧Txt T ∧ ∀ x,x∈T↔x∈E) ∧ ∀ M,zCN fuel (d+4) 68 [a] M=some (r,M) by
  obtain⟨r,⟨T,h1⟩,h2⟩:=h
  exact⟨r,T,h1,h2⟩
 have ll:=hS.len
 have hnd:=zM9 hs.nd
 refine zHI tf68 rfl (fun M=>by simp only[icyL,fun M=>hS.icy M 12 (by omega)]) ?_
 refine zAL tf68 rfl (by simp only[icyL,fun M=>hS.icy M 12 (by omega)]) (by simp [a68]) fun b' ht hx=>?_
 have h0:=hx 0 _ rfl
 clear hx
 simp only[a68,c68] at ht ⊢
 simp (disch:=try exact SX) only[RV,seval,zA0,h0,hS.fz.rows,hS.fz.one,hS.fz.cells,hS.fz.icy,hS.fz.frz]
 refine zB7 (I:=fun nq tq Nq => ∃ (iq:Nat) (o:AV) (ph:AV) (T:List El) (P:List (List Eid)),nq=E.length - iq∧iq≤E.length∧nth zA3 tq 0=a∧nth zA3 tq 3=o∧nth zA3 tq 4=ph∧nth zA3 tq 5=I64 iq∧Wf Nq∧SlM Nq 9 isEl o T∧SlM Nq 1 isPa ph P∧Srt E T P (E.take iq)∧(∀ j,rowOf o=some j→rowOf ph≠some j)) (n:=E.length) (by omega) ?_ ?_
 ·refine⟨0,NIL,NIL,[],[],rfl,Nat.zero_le _, ?_, ?_, ?_, ?_,Wf.mem0,SlM.nil,SlM.nil,⟨.nil,fun _=>Iff.rfl,.nil,rfl⟩,(fun _ h=>by cases h)⟩ <;> simp (disch:=try exact SX) only[RV,seval,zA0,h0]
  all_goals first | rfl | assumption | done
 ·rintro nq tq Nq hltq ⟨iq,o,ph,T,P,rfl,hiq,gq0,gq3,gq4,gq5,wq,so,sp,hT,ne⟩
  simp only[ht] at hltq ⊢
  by_cases hc:iq<E.length
  ·have c1:decide ((iq:Int)<E.length)=true:=DT
   have w1:IntKind.i64.wrap ((iq:Int)+1)=((iq+1:Nat):Int):=WI
   obtain⟨rr,hiad,⟨rfl,hok⟩,_⟩:=hS.iad iq hc
   have hxE:=List.getElem_mem hc
   have hxn:E[iq] ∉ E.take iq:=fun hm=>by
    obtain⟨j,hj,e⟩:=List.getElem_of_mem hm
    rw[List.length_take] at hj
    rw[List.getElem_take] at e
    exact(List.pairwise_iff_getElem.1 hnd) j iq (by omega) hc (by omega) e
   have hsn:=zB4 E iq hc
   have hlen:=hT.len
   rw[List.length_take] at hlen
   have hlp:=hT.pth.length_eq
   generalize E[iq]=x at *
   obtain⟨p,hp⟩:=hs.path hxE
   have hpl:=zNY hs hp
   obtain⟨rp,hrp,hpa⟩:=zO6 (fuel:=fuel) (d:=d+1) hS hs hp (by omega) (by omega) (by omega)
   have lo:=so.len
   have lph:=sp.len
   have oo:=so.one
   have op:=sp.one
   simp (disch:=try exact SX) only[RV,seval,zA0,gq0,gq3,gq4,gq5,ll,c1,hiad,hS.fz.rows,hS.fz.one,hS.fz.cells,hS.fz.icy,hS.fz.frz,hpa,hrp.fz.rows,hrp.fz.one,hrp.fz.cells,hrp.fz.icy,hrp.fz.frz]
   refine zB7 (I:=fun nk tk Nk => ∃ (ik:Nat),nk=T.length - ik∧ik≤T.length∧nth zA3 tk 0=a∧nth zA3 tk 3=o∧nth zA3 tk 4=ph∧nth zA3 tk 5=I64 iq∧nth zA3 tk 6=rp∧nth zA3 tk 7=I64 ik∧Nk=Nq∧(∀ j (hj:j<P.length),j<ik→ahB p P[j]=false)) (n:=T.length) (by omega) ?_ ?_
   ·refine⟨0,rfl,Nat.zero_le _, ?_, ?_, ?_, ?_, ?_, ?_,rfl,(fun _ _ h=>absurd h (by omega))⟩ <;> simp (disch:=try exact SX) only[RV,seval,zA0,gq0,gq3,gq4,gq5]
    all_goals first | rfl | assumption | done
   ·rintro nk tk Nk hltk ⟨ik,rfl,hik,gk0,gk3,gk4,gk5,gk6,gk7,mk,hk⟩
    simp only[hltq] at hltk ⊢
    subst mk
    have w2:IntKind.i64.wrap ((ik:Int)+1)=((ik+1:Nat):Int):=WI
    have hcase:(∃ h:ik<P.length,ahB p P[ik]=false)∨(ik<P.length ∧ ∃ h:ik<P.length,ahB p P[ik]=true)∨ik=T.length:=by
     by_cases h:ik<P.length
     ·cases hb:ahB p P[ik] with
      | false=>exact .inl ⟨h,hb⟩
      | true=>exact .inr (.inl ⟨h,h,hb⟩)
     ·exact .inr (.inr (by omega))
    rcases hcase with⟨h,hb⟩ | hcase
    ·have c2:decide ((ik:Int)<T.length)=true:=DT
     obtain⟨id,cs,r,hrow,lid,hg,hcs,hiad2,⟨ap,hr1,hap⟩,hrl,_,hcell,_⟩:=sp.atS (i:=ik) h
     have hiad2:∀ N,iadO N 1 ph (some ik)=some (.ptr id ik,N):=fun N=>by simpa using hiad2 N
     have p0:cs[ik]? = some ap:=by have:=hcell 0 (by omega);rw[hr1] at this;simpa using this
     have hah:=fun M=>zHE (fuel:=fuel) (d:=d) hrp hap (by omega) (by
      have:=hT.pth.get h (by omega:ik<T.length)
      have:=zNY hs this
      omega) (by omega) M
     rw[hb] at hah
     simp (disch:=try exact SX) only[RV,seval,zA0,gk0,gk3,gk4,gk5,gk6,gk7,lo,lph,c2,hiad2,hg,p0,hah,hap.fz.rows,hap.fz.one,hap.fz.cells,hap.fz.icy,hap.fz.frz,hrp.fz.rows,hrp.fz.one,hrp.fz.cells,hrp.fz.icy,hrp.fz.frz,w2]
     exact⟨hltk,T.length - (ik+1),by omega,ik+1,rfl,by omega,rfl,fun j hj hji=>by
      rcases Nat.lt_succ_iff_lt_or_eq.1 hji with h' | rfl
      ·exact hk j hj h'
      ·exact hb⟩
    ·have hnT:ik≤T.length:=by rcases hcase with⟨h,_⟩ | h <;> omega
     have hput:=hT.put hs (fun y hy=>List.mem_of_mem_take hy) hxE hxn hp hnT hk (fun hj=>by
      rcases hcase with⟨_,h,hb⟩ | h
      ·exact hb
      ·omega)
     rw[← hsn] at hput
     obtain⟨o1,po1,hso1⟩:=so.pre (by omega:0<9) hnT
     obtain⟨o2,po2,hso2⟩:=so.suf (by omega:0<9) hnT
     obtain⟨p1,pp1,hsp1⟩:=sp.pre (by omega:0<1) (by omega:ik≤P.length)
     obtain⟨p2,pp2,hsp2⟩:=sp.suf (by omega:0<1) (by omega:ik≤P.length)
     have k1:=hso1 Nk (fun _ _=>rfl)
     rcases hcase with⟨_,h,hb⟩ | h
     case' inl =>
      have c2:decide ((ik:Int)<T.length)=true:=DT
      obtain⟨id,cs,r,hrow,lid,hg,hcs,hiad2,⟨ap,hr1,hap⟩,hrl,_,hcell,_⟩:=sp.atS (i:=ik) h
      have hiad2:∀ N,iadO N 1 ph (some ik)=some (.ptr id ik,N):=fun N=>by simpa using hiad2 N
      have p0:cs[ik]? = some ap:=by have:=hcell 0 (by omega);rw[hr1] at this;simpa using this
      have hah:=fun M=>zHE (fuel:=fuel) (d:=d) hrp hap (by omega) (by
       have:=hT.pth.get h (by omega:ik<T.length)
       have:=zNY hs this
       omega) (by omega) M
      rw[hb] at hah
      simp (disch:=try exact SX) only[RV,seval,zA0,gk0,gk3,gk4,gk5,gk6,gk7,lo,lph,c2,hiad2,hg,p0,hah,hap.fz.rows,hap.fz.one,hap.fz.cells,hap.fz.icy,hap.fz.frz,hrp.fz.rows,hrp.fz.one,hrp.fz.cells,hrp.fz.icy,hrp.fz.frz,k1,hiad,hS.fz.rows,hS.fz.one,hS.fz.cells,hS.fz.icy,hS.fz.frz,po1.one,po1.cells]
     case' inr =>
      have c2:decide ((ik:Int)<T.length)=false:=DF
      simp (disch:=try exact SX) only[RV,seval,zA0,gk0,gk3,gk4,gk5,gk6,gk7,lo,lph,c2,hrp.fz.rows,hrp.fz.one,hrp.fz.cells,hrp.fz.icy,hrp.fz.frz,k1,hiad,hS.fz.rows,hS.fz.one,hS.fz.cells,hS.fz.icy,hS.fz.frz,po1.one,po1.cells]
     all_goals
      refine⟨zAM so.rl (Nat.le_refl _),po1.rws _ (Nat.le_refl _), ?_⟩
      obtain⟨rw1,hc1,hA1,hr1⟩:=po1.rd
      refine zFV (bytes:=56) (l:=[]) wq SlM.nil zG4.cel (hc1 _ fun _ _=>rfl) po1.ln hA1 hr1 (by omega) (by rw[List.length_take];simp;omega) (by rw[List.length_take];simp;omega) fun a3 M3 m3 w3 le3 sz3 kp3 nw3 wm3 rl3 on3 oc3=>?_
      rw[List.nil_append] at m3
      have nw3:∀ j,rowOf a3=some j→Nk.size≤j:=fun j hj=>by
       rcases nw3 j hj with h | h
       ·cases h
       ·exact h
      have kp3:∀ j,j<Nk.size→M3.get j=Nk.get j:=fun j hj=>kp3 j hj (fun h=>by cases h)
      have k2:∀ N,(∀ j,j<Nk.size→N.get j=Nk.get j)→slcO N 9 o (some (I64 ik)) none none=some (o2,N):=fun N h=>hso2 N fun j hj=>h j (so.lt j hj)
      simp (disch:=try exact SX) only[RV,seval,zA0,gk0,gk3,gk4,gk5,gk6,gk7,hiad,hS.fz.rows,hS.fz.one,hS.fz.cells,hS.fz.icy,hS.fz.frz,w3,on3,oc3,zAK,zE4]
      refine⟨zAM m3.rl (by omega), ?_⟩
      have htk:(T.take ik).length≤100000:=by rw[List.length_take];omega
      have wl:Wf (M3.add (.row false (elR9 x))):=w3.add _
      refine app1 (bytes:=56) w3 m3 zG4 (x:=x) ⟨rfl,hok⟩ rfl (by omega) (by omega) (by omega) fun a5 M5 m5 w5 le5 kp5 nw5 wm5 rl5 on5 oc5=>?_
      have k5:∀ j,j<Nk.size→M5.get j=Nk.get j:=fun j hj=>by
       rw[kp5 j (by omega) (fun h=>by have:=nw3 j h;omega)];exact kp3 j hj
      have k5':=k2 M5 k5
      simp (disch:=try exact SX) only[RV,seval,zA0,gk0,gk3,gk4,gk5,gk6,gk7,w5,on5,oc5,k5',po2.one,po2.cells,zAK,zE4]
      have ro:∀ i∈rowsOf o,i<Nk.size:=fun i hi=>so.lt i (so.row_mem hi)
      have r3:∀ i∈rowsOf a3,Nk.size≤i:=fun i hi=>nw3 i (m3.row_mem hi)
      have r5:∀ j,rowOf a5=some j→Nk.size≤j:=fun j hj=>by
       rcases nw5 j hj with h | h
       ·exact nw3 j h
       ·omega
      have ap1:zB8 (fpOf (rowsOf o) [] M5.size M5.size) (fpOf (rowsOf o1) [] Nk.size M3.size,Nk.size,M3.size)=true:=zLG fun i hi=>⟨by simp,.inl (ro i hi)⟩
      have ap2:zB8 (fpOf (rowsOf o) [] M5.size M5.size) (FP.acc [] [],M3.size,M3.size+1)=true:=zFX fun i hi=>⟨by simp,.inl (by have:=ro i hi;omega)⟩
      have ap3:zB8 (fpOf (rowsOf o) [] M5.size M5.size) (FP.acc [M3.size] (rowsOf a3),M3.size+1,M5.size)=true:=zFX fun i hi=>⟨fun h=>by have:=ro i hi;have:=r3 i h;omega,.inl (by have:=ro i hi;omega)⟩
      refine⟨zAM so.rl (by omega),by rw[ap1,ap2,ap3];rfl,by rw[po2.rws _ (by omega),zAM m5.rl (Nat.le_refl _)];rfl, ?_⟩
      obtain⟨rw2,hc2,hA2,hr2⟩:=po2.rd
      refine zFV (bytes:=56) w5 m5 zG4.cel (hc2 _ fun j hj=>k5 j (so.lt j hj)) po2.ln hA2 hr2 (by omega) (by rw[List.length_append,List.length_drop];simp;omega) (by rw[List.length_append,List.length_drop];simp;omega) fun a6 M6 m6 w6 le6 sz6 kp6 nw6 wm6 rl6 on6 oc6=>?_
      have k6:∀ j,j<Nk.size→M6.get j=Nk.get j:=fun j hj=>by
       rw[kp6 j (by omega) (fun h=>by have:=r5 j h;omega)];exact k5 j hj
      have r6:∀ j,rowOf a6=some j→Nk.size≤j:=fun j hj=>by
       rcases nw6 j hj with h | h
       ·exact r5 j h
       ·omega
      have kp1:=hsp1 M6 (fun j hj=>k6 j (sp.lt j hj))
      simp (disch:=try exact SX) only[RV,seval,zA0,gk0,gk3,gk4,gk5,gk6,gk7,w6,on6,oc6,kp1,pp1.one,pp1.cells,zAK,zE4]
      refine⟨zAM sp.rl (by omega),pp1.rws _ (by omega), ?_⟩
      obtain⟨rw3,hc3,hA3,hr3⟩:=pp1.rd
      have hpk:(P.take ik).length≤100000:=by rw[List.length_take];omega
      refine zFV (bytes:=24) (l:=[]) w6 SlM.nil za2.cel (hc3 _ fun j hj=>k6 j (sp.lt j hj)) pp1.ln hA3 hr3 (by omega) (by simp;omega) (by simp;omega) fun a7 M7 m7 w7 le7 sz7 kp7 nw7 wm7 rl7 on7 oc7=>?_
      rw[List.nil_append] at m7
      have nw7:∀ j,rowOf a7=some j→M6.size≤j:=fun j hj=>by
       rcases nw7 j hj with h | h
       ·cases h
       ·exact h
      have kp7:∀ j,j<M6.size→M7.get j=M6.get j:=fun j hj=>kp7 j hj (fun h=>by cases h)
      have k4:∀ N,(∀ j,j<Nk.size→N.get j=Nk.get j)→slcO N 1 ph (some (I64 ik)) none none=some (p2,N):=fun N h=>hsp2 N fun j hj=>h j (sp.lt j hj)
      simp (disch:=try exact SX) only[RV,seval,zA0,gk0,gk3,gk4,gk5,gk6,gk7,hrp.fz.rows,hrp.fz.one,hrp.fz.cells,hrp.fz.icy,hrp.fz.frz,w7,on7,oc7,zAK,zE4]
      refine⟨zAM m7.rl (by omega), ?_⟩
      refine app1 (bytes:=24) w7 m7 za2 (x:=p) ⟨rp,rfl,hrp⟩ rfl (by omega) (by omega) (by omega) fun a8 M8 m8 w8 le8 kp8 nw8 wm8 rl8 on8 oc8=>?_
      have k8':∀ j,j<M6.size→M8.get j=M6.get j:=fun j hj=>by
       rw[kp8 j (by omega) (fun h=>by have:=nw7 j h;omega)];exact kp7 j hj
      have k8:∀ j,j<Nk.size→M8.get j=Nk.get j:=fun j hj=>(k8' j (by omega)).trans (k6 j hj)
      have k9:=k4 M8 k8
      have rp':∀ i∈rowsOf ph,i<Nk.size:=fun i hi=>sp.lt i (sp.row_mem hi)
      have r7:∀ i∈rowsOf a7,M6.size≤i:=fun i hi=>nw7 i (m7.row_mem hi)
      have r8:∀ j,rowOf a8=some j→M6.size≤j:=fun j hj=>by
       rcases nw8 j hj with h | h
       ·exact nw7 j h
       ·omega
      have ap4:zB8 (fpOf (rowsOf ph) [] M8.size M8.size) (fpOf (rowsOf p1) [] M6.size M7.size,M6.size,M7.size)=true:=zLG fun i hi=>⟨by simp,.inl (by have:=rp' i hi;omega)⟩
      have ap5:zB8 (fpOf (rowsOf ph) [] M8.size M8.size) (FP.acc [] [],M7.size,M7.size+1)=true:=zFX fun i hi=>⟨by simp,.inl (by have:=rp' i hi;omega)⟩
      have ap6:zB8 (fpOf (rowsOf ph) [] M8.size M8.size) (FP.acc [M7.size] (rowsOf a7),M7.size+1,M8.size)=true:=zFX fun i hi=>⟨fun h=>by have:=rp' i hi;have:=r7 i h;omega,.inl (by have:=rp' i hi;omega)⟩
      simp (disch:=try exact SX) only[RV,seval,zA0,gk0,gk3,gk4,gk5,gk6,gk7,w8,on8,oc8,k9,pp2.one,pp2.cells,zAK,zE4]
      refine⟨zAM sp.rl (by omega),by rw[ap4,ap5,ap6];rfl,by rw[pp2.rws _ (by omega),zAM m8.rl (Nat.le_refl _)];rfl, ?_⟩
      obtain⟨rw4,hc4,hA4,hr4⟩:=pp2.rd
      refine zFV (bytes:=24) w8 m8 za2.cel (hc4 _ fun j hj=>k8 j (sp.lt j hj)) pp2.ln hA4 hr4 (by omega) (by rw[List.length_append,List.length_drop];simp;omega) (by rw[List.length_append,List.length_drop];simp;omega) fun a9 M9 m9 w9 le9 sz9 kp9 nw9 wm9 rl9 on9 oc9=>?_
      have m6':SlM M9 9 isEl a6 (T.take ik++[x]++T.drop ik):=m6.keep fun j hj=>by
       have:=m6.lt j hj
       rw[kp9 j (by omega) (fun h=>by have:=r8 j h;omega),k8' j this]
      simp (disch:=try exact SX) only[RV,seval,zA0,gk0,gk3,gk4,gk5,gk6,gk7,w9,on9,oc9,on6,oc6,w1,zAK,zE4]
      refine⟨hltk,E.length - (iq+1),by omega,iq+1,a6,a9,_,_,rfl,by omega,rfl,rfl,rfl,m6',m9,hput,fun j hj hj'=>?_⟩
      have:=m6.lt j hj
      rcases nw9 j hj' with h | h
      ·have:=nw8 j h
       rcases this with h | h
       ·have:=nw7 j h;omega
       ·omega
      ·omega
  ·obtain rfl:iq=E.length:=by omega
   have c1:decide ((E.length:Int)<E.length)=false:=DF
   rw[List.take_length] at hT
   obtain⟨r,hz,hsr⟩:=so.frz zG4.cel (k:=12) (by omega)
   have oo:=so.one
   simp (disch:=try exact SX) only[RV,seval,zA0,gq0,gq3,gq4,gq5,ll,c1,hz,oo,hS.fz.rows,hS.fz.one,hS.fz.cells,hS.fz.icy,hS.fz.frz]
   exact⟨r,⟨T,hsr,hT.txt hs,hT.mem⟩,rfl⟩
end Go.Proofs.Ytdgikiebohcohaa
namespace Go.Ax
open Go
variable {α : Type} {M N : Mem} {st : Nat} {T : List AV → α → Prop} {v o : AV} {l : List α}
def SlR (M:Mem)(st:Nat)(T:List AV→α→Prop)(v:AV)(l:List α):Prop :=
 (v=NIL∧l=[]) ∨ ∃ (id:Nat) (rows:List (List AV)) (cap:Option Nat),v = .sl id 0 rows.length cap st∧M.rd id=some rows.flatten∧All2 T rows l ∧ ∀ r∈rows,r.length=st
theorem SlR.of (h:SlM M st T v l):SlR M st T v l:=by
 rcases h with h | ⟨id,rows,cap,rfl,_,hg,hA,hr⟩
 ·exact .inl h
 ·exact .inr ⟨id,rows,cap,rfl,zBG hg,hA,hr⟩
theorem SlR.keep (h:SlR M st T v l)(k:∀ j,N.rd j=M.rd j):SlR N st T v l:=by
 rcases h with h | ⟨id,rows,cap,h1,h2,h3,h4⟩
 ·exact .inl h
 ·exact .inr ⟨id,rows,cap,h1,(k id).trans h2,h3,h4⟩
theorem SlR.icyk (h:SlR M st T v l)(wf:Wf M)(hT:FzT T){k:Nat}(hk:1<k):∃ v' M',Go.Ax.icy k M v=some (v',M')∧Sl st T v' l∧Wf M'∧M'.size=M.size∧(∀ j,M'.rd j=M.rd j) ∧ ∀ j,rowOf v≠some j→M'.get j=M.get j:=by
 obtain⟨k,rfl⟩:∃ j,k=j+1:=⟨k - 1,by omega⟩
 rcases h with⟨rfl,rfl⟩ | ⟨id,rows,cap,rfl,hg,hA,hr⟩
 ·exact⟨NIL,M,rfl,.inl ⟨rfl,rfl⟩,wf,rfl,fun _=>rfl,fun _ _=>rfl⟩
 ·have hfl:=zAN hr
  have hcs:∀ N,icyL (Go.Ax.icy k) N rows.flatten=some (rows.flatten,N):=zDC (by omega) fun x hx N=>hT.celI.flat hA x hx N k (by omega)
  have hble:Nat.ble (0+rows.length*st) rows.flatten.length=true:=zBL (by omega)
  have hsl:slot rows.flatten 0 (rows.length*st)=rows.flatten:=zC3 _ _ hfl.symm
  have hrd:=hg
  rw[zEO] at hrd
  cases ho:M.get id with
  | none=>rw[ho] at hrd;cases hrd
  | some x =>
   rw[ho] at hrd
   cases x with
   | row b ds =>
    have e:ds=rows.flatten:=by simpa [rd1] using hrd
    subst e
    exact⟨_,M.upd id (.fro rows.flatten),by simp only[Go.Ax.icy,hg,hble,hcs,ho,zBD wf (Mem.get_lt ho),hsl],.inr ⟨rows,cap,rfl,hA,hr⟩,wf.upd _ _,rfl,NK.rd_fro wf ho,fun j hj=>zA2 wf _ _ _ (fun e=>hj (by rw[e];rfl))⟩
   | fro ds=>exact⟨_,M,by simp only[Go.Ax.icy,hg,hble,hcs,ho,hsl],.inr ⟨rows,cap,rfl,hA,hr⟩,wf,rfl,fun _=>rfl,fun _ _=>rfl⟩
   | _=>simp [rd1] at hrd
theorem SlR.hand {P:Program}{fs:Nat→Option AFunc}{fuel f n:Nat}{af:AFunc}{rest:List AV}{R:AV→Prop}{Q:AV→Mem→Prop}(h:fs f=some af)(hg:af.gc=1)(hN:SlR M st T o l)(wf:Wf M)(hT:FzT T)(hr:∀ M,icyL (Go.Ax.icy 12) M rest=some (rest,M))(hc:∀ o',Sl st T o' l → ∃ r,R r ∧ ∀ M,zAU P fs fuel (n+1) (.fn f) (o'::rest) M=some (r,M))
  (k:∀ r M',R r→Wf M'→M'.size=M.size→SlR M' st T o l→(∀ j,rowOf o≠some j→M'.get j=M.get j)→Q r M'):W3 (zAU P fs fuel (n+1) (.fn f) (o::rest) M) Q:=by
 obtain⟨o',M',i1,s1,w1,z1,r1,g1⟩:=hN.icyk wf hT (k:=12) (by omega)
 obtain⟨r,hR,hcall⟩:=hc o' s1
 refine⟨r,M',zK7 (bs:=o'::rest) h hg (hcall mem0) (M3:=mem0) ?_ ?_,k r M' hR w1 z1 (hN.keep r1) g1⟩
 ·simp only[icyL,s1.icy mem0 12 (by omega),hr]
 ·simp only[icyL,i1,hr]
end Go.Ax
namespace Go.Proofs.Ytdgikiebohcohaa
open Go Go.Ax
variable {fuel : Nat} {M : Mem} {Q : AV → Mem → Prop} {d : Nat}
open Classical in
noncomputable def zMQ (E:List El):Bool:=decide (Root E)
open Classical in
theorem zUF {E:List El}(h:Root E):zMQ E=true:=by unfold zMQ;exact decide_eq_true h
open Classical in
theorem zUE {E:List El}(h:¬Root E):zMQ E=false:=by unfold zMQ;exact decide_eq_false h
theorem zKY {a:AV}{E:List El}(hS:Sl 9 isEl a E)(hl:E.length≤1000000)(hf:E.length<fuel)(M:Mem):zCN fuel (d+2) 66 [a] M=some (BL (zMQ E),M):=by
 have ll:=hS.len
 have hw:=fun x M=>zDP (fuel:=fuel) (d:=d) hS x (by omega) hf M
 apply zBA
 refine zAL tf66 rfl (by simp only[icyL,fun M=>hS.icy M 12 (by omega)]) (by simp [a66]) fun b' ht hx=>?_
 have h0:=hx 0 _ rfl
 clear hx
 simp only[a66,c66] at ht ⊢
 simp (disch:=try exact SX) only[RV,seval,zA0,h0,hS.fz.rows,hS.fz.one,hS.fz.cells,hS.fz.icy,hS.fz.frz]
 refine zB7 (I:=fun n t N => ∃ (i:Nat),n=E.length - i∧i≤E.length∧nth zA3 t 0=a∧nth zA3 t 3=I64 i∧Wf N∧(∀ j (h:j<E.length),j<i→whI E E[j].id=j∧(E[j].af=Eid.z∨0≤whI E E[j].af))) (n:=E.length) (by omega) ?_ ?_
 ·exact zB0i
 ·rintro n t N hlt ⟨i,rfl,hi,g0,g3,wN,hk⟩
  simp only[ht] at hlt ⊢
  by_cases hc:i<E.length
  ·have q1:decide ((i:Int)<E.length)=true:=DT
   have w1:IntKind.i64.wrap ((i:Int)+1)=((i+1:Nat):Int):=WI
   obtain⟨r,hiad,⟨hr,_⟩,_⟩:=hS.iad i hc
   have nope:¬(whI E E[i].id=i∧(E[i].af=Eid.z∨0≤whI E E[i].af))→zMQ E=false:=fun h=>zUE fun k=>h (k i hc)
   have key:whI E E[i].id=i∧(E[i].af=Eid.z∨0≤whI E E[i].af) → ∀ j (h:j<E.length),j<i+1→whI E E[j].id=j∧(E[j].af=Eid.z∨0≤whI E E[j].af):=fun h0 j h hj=>by
    rcases Nat.lt_succ_iff_lt_or_eq.1 hj with h' | rfl
    ·exact hk j h h'
    ·exact h0
   generalize E[i]=x at *
   subst hr
   by_cases c1:whI E x.id=i
   ·have q2:decide (whI E x.id=(i:Int))=true:=decide_eq_true c1
    by_cases c2:x.af=Eid.z
    ·have q3:decide (x.af=Eid.z)=true:=decide_eq_true c2
     simp (disch:=try exact SX) only[RV,seval,zA0,g0,g3,ll,q1,hS.fz.rows,hS.fz.one,hS.fz.cells,hS.fz.icy,hS.fz.frz,hiad,hw,q2,↓pIdE,zAE,↓pIdN,zAB,↓pHdE,zAC,↓pHdN,zAD,↓pLbE,zAF,↓pLbN,zAG,↓pSpE,zAH,↓pSpN,zAI,ETA,q3,w1]
     exact⟨hlt,E.length - (i+1),by omega,i+1,rfl,by omega,rfl,wN,key ⟨c1,.inl c2⟩⟩
    ·have q3:decide (x.af=Eid.z)=false:=decide_eq_false c2
     by_cases c3:0≤whI E x.af
     ·have q4:decide (whI E x.af<0)=false:=DF
      simp (disch:=try exact SX) only[RV,seval,zA0,g0,g3,ll,q1,hS.fz.rows,hS.fz.one,hS.fz.cells,hS.fz.icy,hS.fz.frz,hiad,hw,q2,↓pIdE,zAE,↓pIdN,zAB,↓pHdE,zAC,↓pHdN,zAD,↓pLbE,zAF,↓pLbN,zAG,↓pSpE,zAH,↓pSpN,zAI,ETA,q3,q4,w1]
      exact⟨hlt,E.length - (i+1),by omega,i+1,rfl,by omega,rfl,wN,key ⟨c1,.inr c3⟩⟩
     ·have q4:decide (whI E x.af<0)=true:=DT
      have e:=nope fun h=>h.2.elim c2 c3
      simp (disch:=try exact SX) only[RV,seval,zA0,g0,g3,ll,q1,hS.fz.rows,hS.fz.one,hS.fz.cells,hS.fz.icy,hS.fz.frz,hiad,hw,q2,↓pIdE,zAE,↓pIdN,zAB,↓pHdE,zAC,↓pHdN,zAD,↓pLbE,zAF,↓pLbN,zAG,↓pSpE,zAH,↓pSpN,zAI,ETA,q3,q4,e]
   ·have q2:decide (whI E x.id=(i:Int))=false:=decide_eq_false c1
    have e:=nope fun h=>c1 h.1
    simp (disch:=try exact SX) only[RV,seval,zA0,g0,g3,ll,q1,hS.fz.rows,hS.fz.one,hS.fz.cells,hS.fz.icy,hS.fz.frz,hiad,hw,q2,↓pIdE,zAE,↓pIdN,zAB,↓pHdE,zAC,↓pHdN,zAD,↓pLbE,zAF,↓pLbN,zAG,↓pSpE,zAH,↓pSpN,zAI,ETA,e]
  ·obtain rfl:i=E.length:=by omega
   have q1:decide ((E.length:Int)<E.length)=false:=DF
   have e:zMQ E=true:=zUF fun j h=>hk j h h
   simp (disch:=try exact SX) only[RV,seval,zA0,g0,g3,ll,q1,hS.fz.rows,hS.fz.one,hS.fz.cells,hS.fz.icy,hS.fz.frz,e]
theorem zEE {a:AV}{l:List Rn}(hS:Sl 10 isRn a l)(hl:l.length≤1000)(hf:64*l.length+3001000<fuel)(M:Mem):zCN fuel (d+6) 32 [a] M=some (BL (zBF l),M):=by
 have ll:=hS.len
 apply zBA
 refine zAL tf32 rfl (by simp only[icyL,fun M=>hS.icy M 12 (by omega)]) (by simp [a32]) fun b' ht hx=>?_
 have h0:=hx 0 _ rfl
 clear hx
 simp only[a32,c32] at ht ⊢
 simp (disch:=try exact SX) only[RV,seval,zA0,h0,hS.fz.rows,hS.fz.one,hS.fz.cells,hS.fz.icy,hS.fz.frz]
 refine zB7 (I:=fun n t N => ∃ (i:Nat),n=l.length - i∧i≤l.length∧nth zA3 t 0=a∧nth zA3 t 3=I64 i∧Wf N∧(∀ j (h:j<l.length),j<i→l[j].may=true)) (n:=l.length) (by omega) ?_ ?_
 ·exact zB0i
 ·rintro n t N hlt ⟨i,rfl,hi,g0,g3,wN,hk⟩
  simp only[ht] at hlt ⊢
  by_cases hc:i<l.length
  ·have q1:decide ((i:Int)<l.length)=true:=DT
   have w1:IntKind.i64.wrap ((i:Int)+1)=((i+1:Nat):Int):=WI
   obtain⟨r,hiad,hr,_⟩:=hS.iad i hc
   have nope:l[i].may=false→zBF l=false:=fun h=>zUW fun k=>by rw[k _ (List.getElem_mem hc)] at h;cases h
   have key:l[i].may=true → ∀ j (h:j<l.length),j<i+1→l[j].may=true:=fun h0 j h hj=>by
    rcases Nat.lt_succ_iff_lt_or_eq.1 hj with h' | rfl
    ·exact hk j h h'
    ·exact h0
   generalize l[i]=x at *
   obtain⟨ra,rfl,hra,hok⟩:=hr
   have ora:=hra.one
   have hmy:=fun M=>zJV (fuel:=fuel) (d:=d) hra hok.2.2 (by omega) M
   cases hm:x.may with
   | false =>
    rw[hm] at hmy
    have e:=nope hm
    simp (disch:=try exact SX) only[RV,seval,zA0,g0,g3,ll,q1,hS.fz.rows,hS.fz.one,hS.fz.cells,hS.fz.icy,hS.fz.frz,hiad,hra.fz.rows,hra.fz.one,hra.fz.cells,hra.fz.icy,hra.fz.frz,hmy,e]
   | true =>
    rw[hm] at hmy
    simp (disch:=try exact SX) only[RV,seval,zA0,g0,g3,ll,q1,hS.fz.rows,hS.fz.one,hS.fz.cells,hS.fz.icy,hS.fz.frz,hiad,hra.fz.rows,hra.fz.one,hra.fz.cells,hra.fz.icy,hra.fz.frz,hmy,w1]
    exact⟨hlt,l.length - (i+1),by omega,i+1,rfl,by omega,rfl,wN,key hm⟩
  ·obtain rfl:i=l.length:=by omega
   have q1:decide ((l.length:Int)<l.length)=false:=DF
   have hm:∀ r∈l,r.may=true:=fun r hr=>by
    obtain⟨j,hj,rfl⟩:=List.getElem_of_mem hr
    exact hk j hj hj
   have hEl:=zCV hm
   have hmay:=zG1 hm
   have eB:elsB l=elsR l:=rfl
   simp (disch:=try exact SX) only[RV,seval,zA0,g0,g3,ll,q1,hS.fz.rows,hS.fz.one,hS.fz.cells,hS.fz.icy,hS.fz.frz]
   refine zCD (d:=d+2) (M0:=N) hS hm (by omega) (by omega) (by simp only[icyL,fun M=>hS.icy M 12 (by omega)]) wN fun r U kU sU nU=>?_
   rw[eB] at hEl sU
   have wU:=kU.wf
   have srU:=SlR.of sU
   have oU:=sU.one
   have lU:=sU.len
   by_cases c1:(elsR l).length≤8192
   ·have q2:decide (((elsR l).length:Int)≤8192)=true:=DT
    simp (disch:=try exact SX) only[RV,seval,zA0,g0,g3,wU,oU,lU,q2]
    refine SlR.hand (n:=d+4) (rest:=[]) (R:=fun v=>v=BL (zMQ (elsR l))) tf66 rfl srU wU zG4 (fun _=>rfl) (fun o' ho'=>⟨_,rfl,fun M=>zKY (d:=d+3) ho' (by omega) (by omega) M⟩) fun v N2 hv w2 z2 s2 k2=>?_
    subst hv
    have hri:=zXU fun x hx=>El.may_ct (hmay x hx)
    by_cases hr:Root (elsR l)
    ·have hs1:=hri.1 hr
     rw[zUF hr]
     simp (disch:=try exact SX) only[RV,seval,zA0,g0,g3,w2]
     refine SlR.hand (n:=d+4) (rest:=[]) (R:=fun v => ∃ T,(Sl 9 isEl v T ∧ ∀ x∈elsR l,x.id.ok∧x.af.ok)∧Txt T ∧ ∀ x,x∈T↔x∈elsR l) tf68 rfl s2 w2 zG4 (fun _=>rfl) (fun o' ho'=>?_) fun v N3 hv w3 z3 s3 k3=>?_
     ·obtain⟨r,T,⟨h1,h2,h3⟩,h4⟩:=zGB (fuel:=fuel) (d:=d+1) ho' hs1 (by omega) (by omega)
      exact⟨r,⟨T,⟨h1,zZP ho'⟩,h2,h3⟩,h4⟩
     ·obtain⟨T,⟨hT,hok⟩,hT2,hT3⟩:=hv
      have hlT:=zV2 hT2 hT3
      have hfT:∀ x∈T,FitX x:=fun x hx=>zNL (hmay x ((hT3 x).1 hx)) (hok x ((hT3 x).1 hx))
      obtain⟨hcf,hcl⟩:=zS8 T hfT
      obtain⟨rc,src,hrc⟩:=zFQ (fuel:=fuel) (d:=d+2) hT hfT (by omega) (by omega)
      have hsm:=fun M=>zCQ (fuel:=fuel) (d:=d+2) src hS (by omega) (fun e he=>by have:=(hcf e he).2.1;have:=(hcf e he).1;omega) (by omega) M
      rw[← zUX hm c1 hT2 hT3] at hsm
      simp (disch:=try exact SX) only[RV,seval,zA0,g0,g3,w3,hT.fz.one,hrc,src.fz.rows,src.fz.one,src.fz.cells,src.fz.icy,src.fz.frz,hsm,hS.fz.rows,hS.fz.one,hS.fz.cells,hS.fz.icy,hS.fz.frz]
    ·have e:zBF l=false:=zMW fun h=>hr (hri.2 h.2)
     rw[zUE hr]
     simp (disch:=try exact SX) only[RV,seval,zA0,g0,g3,w2,e]
   ·have q2:decide (((elsR l).length:Int)≤8192)=false:=DF
    have e:zBF l=false:=zMW fun h=>c1 h.1
    simp (disch:=try exact SX) only[RV,seval,zA0,g0,g3,wU,oU,lU,q2,e]
def idsE (E:List El):List Eid:=E.map (·.id)
theorem zV6 {l:List Rn}{x:Eid}{n:Nat}{k:Int}(hm:∀ r∈l,r.may=true)(h:zB2 l x=some (n,k)):∃ p:Nat,zB3 (l.take n)+k=p∧(idsE (elsR l))[p]? = some x:=by
 obtain⟨L1,q,L2,rfl,rfl,h1,h2,h3,h4⟩:=zEI h
 obtain⟨m,rfl⟩:∃ m:Nat,k=m:=⟨k.toNat,by omega⟩
 have hm1:∀ r∈L1,r.may=true:=fun r hr=>hm r (List.mem_append_left _ hr)
 refine⟨(elsR L1).length+m, ?_, ?_⟩
 ·rw[List.take_left' rfl,zD1 hm1];omega
 ·have e:elsR (L1++q::L2)=elsR L1++(q.elR++elsR L2):=by simp [elsR]
  have hl:m<q.elR.length:=by rw[zBH];omega
  unfold idsE
  rw[e,List.map_append,List.getElem?_append_right (by simp),List.length_map,Nat.add_sub_cancel_left,List.map_append,List.getElem?_append_left (by simpa using hl),List.getElem?_map,List.getElem?_eq_getElem hl,zBY]
  simp [h4]
theorem zOJ {l:List Rn}(hm:∀ r∈l,r.may=true){y:Eid}:zB2 l y=none↔whI (elsR l) y<0:=by
 rw[zJ9 hm]
 constructor
 ·intro h
  refine Int.lt_of_not_ge fun k=>?_
  obtain⟨e,he,h2⟩:=zLC.1 k
  exact h e he h2
 ·intro h e he h2
  have:=zLC.2 ⟨e,he,h2⟩
  omega
theorem zbZ {l:List Rn}(h:zE1 l){y:Eid}{p:Nat × Int}(hw:zB2 l y=some p):whI (elsR l) y=zB3 (l.take p.1)+p.2:=by
 obtain⟨n,k⟩:=p
 obtain⟨q,h1,h2⟩:=zV6 h.1 hw
 rw[h1]
 unfold idsE at h2
 have hnd:=(zCS h).1.t.s1.nd
 generalize elsR l=E at *
 have hq:q<E.length:=by
  have:=List.getElem?_eq_some_iff.1 h2
  obtain⟨h3,_⟩:=this
  simpa using h3
 have hy:E[q].id=y:=by
  rw[List.getElem?_map,List.getElem?_eq_getElem hq] at h2
  simpa using h2
 rw[← hy]
 refine zZ8 hq fun j hj e=>?_
 unfold List.Nodup at hnd
 have:=List.pairwise_iff_getElem.1 hnd j q (by simp;omega) (by simp;omega) hj
 simp only[List.getElem_map] at this
 exact this e
theorem zb8 {l:List Rn}{r:Rn}(h:putE l r=0):Set1 (elsR l++r.elR):=by
 have hX:=(zCS (zTA h)).1.t.s1
 have hm:∀ x,x∈elsR l++r.elR↔x∈elsR (insL l r):=fun x=>by rw[List.mem_append,zT8 h]
 refine⟨zM8 (l:=(elsR (insL l r)).map (·.id)) hX.nd (fun y hy=>?_) (by rw[List.length_map,List.length_map,zaF h,List.length_append];exact Nat.le_refl _),fun x hx=>hX.ct x ((hm x).1 hx),fun x hx=>?_⟩
 ·obtain⟨x,hx,rfl⟩:=List.mem_map.1 hy
  exact List.mem_map.2 ⟨x,(hm x).2 hx,rfl⟩
 ·rcases hX.rt x ((hm x).1 hx) with e | ⟨y,hy,e⟩
  ·exact .inl e
  ·exact .inr ⟨y,(hm y).2 hy,e⟩
theorem zb9 {l:List Rn}{r:Rn}(h:putE l r=0){T:List El}(hT:Txt T)(hm:∀ x,x∈T↔x∈elsR l++r.elR):zBO T=insL l r:=by
 obtain⟨h2,h3⟩:=zCS (zTA h)
 rw[hT.eq h2.t fun x=>by rw[hm,List.mem_append,zT8 h],← h3]
open Classical in
theorem zb7 {l:List Rn}{r:Rn}(hb:zBF l=true)(hr:r.may=true):putE l r=if r.af≠Eid.z∧whI (elsR l) r.af<0 then 6 else if ∃ i:Nat,(i:Int)<r.sp.n∧0≤whI (elsR l) (r.sp.at i) then 2 else if 8192<(elsR l).length+r.sp.n then 4 else 0:=by
 have hok:=zBI.1 hb
 have h1:∀ y,zB2 l y=none↔whI (elsR l) y<0:=fun y=>zOJ hok.1
 have h2:∀ y,zB2 l y≠none↔0≤whI (elsR l) y:=fun y=>by rw[Ne,h1];omega
 unfold putE
 rw[if_pos ⟨hok,hr⟩,zD1 hok.1]
 simp only[h1,h2]
theorem zQC {l:List Rn}(hm:∀ r∈l,r.may=true)(hrefl:∀ a:Lb,a.leq a=true):(elsR l).all (fun x=>x.af.hd.lb.leq x.id.hd.lb)=zDU l:=by
 rw[Bool.eq_iff_iff,zQD hm hrefl,List.all_eq_true]
 rfl
abbrev zRn:Value:=.agg #[.int .u8 0,.int .u32 0,.int .u8 0,.int .i64 0,.int .i64 0,.int .u8 0,.int .u32 0,.int .u8 0,.int .i64 0,.slice none 0 0]
theorem zcT {n:Nat}(wf:Wf M)(hn:0<n)(hb:n≤1000000)(k:Q (.sl M.size 0 0 none 10) (M.add (.row false (zAA zRn n)))) :
  W3 (zCN fuel (d+1) 87 [NIL,I64 n] M) Q:=by
 have hz:=zVP (X:=M) (st:=10) (bytes:=80) (z:=zRn) wf rfl rfl hn (by omega) (by omega) (by omega)
 have e0:decide ((n:Int)<0)=false:=DF
 have e1:decide ((0:Int)<n)=true:=DT
 have w0:IntKind.i64.wrap 0=0:=by decide
 have w1:IntKind.i64.wrap ((n:Int) - 0)=n:=WI
 refine zCZ tf87 rfl (by simp [a87]) fun b' ht hx=>?_
 obtain⟨h0,h1⟩:=hx2 hx
 clear hx
 simp only[a87,c87] at ht ⊢
 have hs:=zbK (M:=M.add (.row false (zAA zRn n))) (st:=10) (n:=n) (zAO wf (.row false (zAA zRn n)) M.size (Nat.le_refl _) (Nat.lt_succ_self _))
 simp (disch:=try exact SX) only[RV,seval,zA0,h0,h1,e0,e1,w0,w1,zeR,x_cap,zZJ,zY0,hz,hs]
 exact k
theorem zSC {id:Nat}{a0 a1 a2:AV}{l0 l1 l2:List Rn}(wf:Wf M)(hg:M.get id=some (.row false [a0,a1,a2]))(h0':Sl 10 isRn a0 l0)(h1':SlM M 10 isRn a1 l1)(h2':Sl 10 isRn a2 l2)(hn:0<l1.length)(hb0:l0.length≤10000)(hb1:l1.length≤10000)(hb2:l2.length≤10000)(hf:100<fuel)(hw:M.wm≤M.size)
  (k:∀ o N,SlM N 10 isRn o (l0++l1++l2)→Kept M N→(∀ j,rowOf o=some j→M.size≤j)→oneA o=true→cellsA o=[o]→((rowsOf o).all fun i=>Nat.blt i N.size)=true→Q o N) :
  W3 (zCN fuel (d+2) 60 [.sl id 0 3 (some 3) 1] M) Q:=by
 have x0:=h0'.len
 have x1:=h1'.len
 have x2:=h2'.len
 have o0:=h0'.one
 have o1:=h1'.one
 have o2:=h2'.one
 have li:=Mem.get_lt hg
 have c3:((3:Nat):Int)=3:=rfl
 have t0:zIA (I64 0)=some 0:=rfl
 have t1:zIA (I64 1)=some 1:=rfl
 have t2:zIA (I64 2)=some 2:=rfl
 have q03:decide ((0:Int)<3)=true:=rfl
 have q13:decide ((1:Int)<3)=true:=rfl
 have q23:decide ((2:Int)<3)=true:=rfl
 have q33:decide ((3:Int)<3)=false:=rfl
 have v1:IntKind.i64.wrap 1=1:=by decide
 have v2:IntKind.i64.wrap 2=2:=by decide
 have v3:IntKind.i64.wrap 3=3:=by decide
 have w0:IntKind.i64.wrap (0+(l0.length:Int))=(l0.length:Nat):=WI
 have w1:IntKind.i64.wrap ((l0.length:Int)+(l1.length:Int))=((l0.length+l1.length:Nat):Int):=WI
 have w2:IntKind.i64.wrap (((l0.length+l1.length:Nat):Int)+(l2.length:Int))=((l0.length+l1.length+l2.length:Nat):Int):=WI
 have n0:decide (((l0.length:Nat):Int)<0)=false:=DF
 have n1:decide (((l0.length+l1.length:Nat):Int)<0)=false:=DF
 have n2:decide (((l0.length+l1.length+l2.length:Nat):Int)<0)=false:=DF
 refine zCZ tf60 rfl (by simp [a60]) fun b' ht hx=>?_
 have h0:=hx 0 _ rfl
 clear hx
 simp only[a60,c60] at ht ⊢
 simp (disch:=try exact SX) only[RV,seval,zA0,h0]
 refine w_un (by omega) ?_
 simp (disch:=try exact SX) only[RV,seval,zA0,h0,hg,c3,t0,q03,x0,w0,n0,v1,o0,zC5,zDD,zEX]
 refine w_un (by omega) ?_
 simp (disch:=try exact SX) only[RV,seval,zA0,h0,hg,t1,q13,x1,w1,n1,v2,o1,zC5,zDD,zEX]
 refine w_un (by omega) ?_
 simp (disch:=try exact SX) only[RV,seval,zA0,h0,hg,t2,q23,x2,w2,n2,v3,o2,zC5,zDD,zEX]
 refine w_un (by omega) ?_
 simp (disch:=try exact SX) only[RV,seval,zA0,h0,q33,zC5,zDD,zEX]
 refine zcT (d:=d) (n:=l0.length+l1.length+l2.length) wf (by omega) (by omega) ?_
 have sq0:=SlQ.fresh (X:=M) (st:=10) (T:=isRn) (n:=l0.length+l1.length+l2.length) (z:=zRn) wf rfl
 have wX:=wf.add (.row false (zAA zRn (l0.length+l1.length+l2.length)))
 have kX:∀ j,j<M.size→(M.add (.row false (zAA zRn (l0.length+l1.length+l2.length)))).get j=M.get j:=fun j hj=>zAP wf _ _ hj
 have sX:(M.add (.row false (zAA zRn (l0.length+l1.length+l2.length)))).size=M.size+1:=rfl
 have dX:(M.add (.row false (zAA zRn (l0.length+l1.length+l2.length)))).dirty=M.dirty:=rfl
 have vX:(M.add (.row false (zAA zRn (l0.length+l1.length+l2.length)))).wm=M.wm:=rfl
 generalize (M.add (.row false (zAA zRn (l0.length+l1.length+l2.length))))=X at *
 have gX:=(kX id li).trans hg
 simp (disch:=try exact SX) only[RV,seval,zA0,h0,gX,wX,c3]
 refine w_un (by omega) ?_
 simp (disch:=try exact SX) only[RV,seval,zA0,h0,gX,c3,t0,q03,v1,h0'.fz.rows,h0'.fz.one,h0'.fz.cells,h0'.fz.icy,h0'.fz.frz,zC5,zDD,zEX]
 obtain⟨r0,y0,z0,A0,R0⟩:=h0'.cells2 X
 refine SlQ.app (bytes:=80) wX sq0 y0 z0 A0 R0 zDI.cel (by omega) (by simp;omega) (by simp;omega) fun o' Y sq1 wY sY kY rY wmY diY=>?_
 have on1:=sq1.one
 have oc1:=sq1.cells
 have rl1:=sq1.rl (Nat.le_refl _)
 have ro1:∀ j,rowOf o'=some j→j=M.size:=fun j hj=>by rw[rY] at hj;cases hj;rfl
 have gY:Y.get id=some (.row false [a0,a1,a2]):=(kY id (fun e=>by cases e;omega)).trans gX
 have mY:∀ j,j<M.size→Y.get j=M.get j:=fun j hj=>(kY j (fun e=>by cases e;omega)).trans (kX j hj)
 simp (disch:=try exact SX) only[RV,seval,zA0,h0,wY,on1,oc1,rl1,v1,zC5,zDD,zEX]
 refine w_un (by omega) ?_
 have sm1:SlM Y 10 isRn a1 l1:=h1'.keep fun j hj=>mY j (h1'.lt j hj)
 have rla:=zAM sm1.rl (Nat.le_refl _)
 simp (disch:=try exact SX) only[RV,seval,zA0,h0,gY,c3,t1,q13,v2,on1,o1,rl1,rla,zC5,zDD,zEX]
 obtain⟨r1,y1,z1,A1,R1⟩:=sm1.cells2
 refine SlQ.app (bytes:=80) wY sq1 y1 z1 A1 R1 zDI.cel (by omega) (by simp;omega) (by simp;omega) fun o2' Z sq2 wZ sZ kZ rZ wmZ diZ=>?_
 have on2:=sq2.one
 have oc2:=sq2.cells
 have rl2:=sq2.rl (Nat.le_refl _)
 have ro2:∀ j,rowOf o2'=some j→j=M.size:=fun j hj=>ro1 j (rZ ▸ hj)
 have gZ:Z.get id=some (.row false [a0,a1,a2]):=(kZ id (fun e=>by have:=ro1 _ e;omega)).trans gY
 have mZ:∀ j,j<M.size→Z.get j=M.get j:=fun j hj=>(kZ j (fun e=>by have:=ro1 _ e;omega)).trans (mY j hj)
 simp (disch:=try exact SX) only[RV,seval,zA0,h0,wZ,on2,oc2,rl2,v2,zC5,zDD,zEX]
 refine w_un (by omega) ?_
 simp (disch:=try exact SX) only[RV,seval,zA0,h0,gZ,c3,t2,q23,v3,on2,rl2,h2'.fz.rows,h2'.fz.one,h2'.fz.cells,h2'.fz.icy,h2'.fz.frz,zC5,zDD,zEX]
 obtain⟨r2,y2,z2,A2,R2⟩:=h2'.cells2 Z
 refine SlQ.app (bytes:=80) wZ sq2 y2 z2 A2 R2 zDI.cel (by omega) (by simp;omega) (by simp;omega) fun o3' U sq3 wU sU kU rU wmU diU=>?_
 have on3:=sq3.one
 have oc3:=sq3.cells
 have rl3:=sq3.rl (Nat.le_refl _)
 have ro3:∀ j,rowOf o3'=some j→j=M.size:=fun j hj=>ro2 j (rU ▸ hj)
 have mU:∀ j,j<M.size→U.get j=M.get j:=fun j hj=>(kU j (fun e=>by have:=ro2 _ e;omega)).trans (mZ j hj)
 simp (disch:=try exact SX) only[RV,seval,zA0,h0,wU,on3,oc3,rl3,v3,zC5,zDD,zEX]
 refine w_un (by omega) ?_
 simp (disch:=try exact SX) only[RV,seval,zA0,h0,q33,on3,oc3,rl3,zC5,zDD,zEX]
 have e0:l0.length+l1.length+l2.length - l0.length - l1.length - l2.length=0:=by omega
 rw[e0] at sq3
 have d1:=diY (fun j hj=>by cases hj;omega)
 have d2:=diZ (fun j hj=>by have:=ro1 j hj;omega)
 have d3:=diU (fun j hj=>by have:=ro2 j hj;omega)
 exact k o3' U (by have:=sq3.slm;simpa using this) ⟨wU,by omega,mU,by omega,d3.trans (d2.trans (d1.trans dX))⟩ (fun j hj=>by have:=ro3 j hj;omega) on3 oc3 rl3
theorem zMI {a:AV}{l:List Rn}{x:Eid}(hS:Sl 10 isRn a l)(hm:∀ r∈l,r.may=true)(hx:x=Eid.z∨zB2 l x≠none)(hl:l.length≤9000)(hf:l.length+100<fuel) :
  ∃ r,Sl 10 isRn r (zBB l x).1 ∧ ∀ M,zCN fuel (d+8) 27 [a,idA x] M=some (.tup [r,I64 (zBB l x).2],M):=by
 have oa:=hS.one
 have la:=hS.len
 have hw:=fun M=>@zJA fuel (d+1) a l x hS (by omega) (by omega) M
 refine zHI tf27 rfl (fun M=>by simp only[icyL,fun M=>hS.icy M 12 (by omega),zBS (zEN x) (show 1<12 by omega)]) ?_
 refine zAL tf27 rfl (by simp only[icyL,fun M=>hS.icy M 12 (by omega),zBS (zEN x) (show 1<12 by omega)]) (by simp [a27]) fun b' ht hx=>?_
 obtain⟨h0,h1⟩:=hx2 hx
 clear hx
 simp only[a27,c27] at ht ⊢
 by_cases hz:x=Eid.z
 ·have q:decide (x=Eid.z)=true:=decide_eq_true hz
  have hpl:zBB l x=(l,0):=by unfold zBB;rw[if_pos hz]
  rw[hpl]
  simp (disch:=try exact SX) only[RV,seval,zA0,h0,h1,hS.fz.rows,hS.fz.one,hS.fz.cells,hS.fz.icy,hS.fz.frz,↓pIdE,zAE,↓pIdN,zAB,↓pHdE,zAC,↓pHdN,zAD,↓pLbE,zAF,↓pLbN,zAG,↓pSpE,zAH,↓pSpN,zAI,ETA,q]
  exact⟨_,hS,rfl⟩
 ·have q:decide (x=Eid.z)=false:=decide_eq_false hz
  rcases hx with hx | hx
  ·exact absurd hx hz
  cases hwl:zB2 l x with
  | none=>exact absurd hwl hx
  | some p =>
   obtain⟨n,k⟩:=p
   obtain⟨L1,o,L2,hle,hln,h1',h2',h3',h4'⟩:=zEI hwl
   rw[hwl] at hw
   simp only[wN,wK] at hw
   have hnl:n<l.length:=by rw[hle,List.length_append,List.length_cons];omega
   obtain⟨r,hiad,hr,hrl⟩:=hS.iad n hnl
   have hgo:l.getD n Rn.z=l[n]:=by rw[List.getD_eq_getElem?_getD,List.getElem?_eq_getElem hnl];rfl
   have hpl:zBB l x=if (l.getD n Rn.z).cutE (k+1)=0 then (l.take n++[(l.getD n Rn.z).fst (k+1),(l.getD n Rn.z).snd (k+1)]++l.drop (n+1),n+1) else (l,n+1):=by unfold zBB;rw[if_neg hz];simp only[hwl]
   rw[hpl,hgo]
   clear hpl
   have hom:=hm l[n] (List.getElem_mem hnl)
   have hro:=zXT hS l[n] (List.getElem_mem hnl)
   have hon:o=l[n]:=by simp [hle,← hln]
   have hln':=hon ▸ h3'
   generalize l[n]=e at *
   obtain⟨ra,rfl,hra,_⟩:=hr
   have ora:=hra.one
   have hb:=Spn.may_le (Rn.may_sp hom)
   have w1:IntKind.i64.wrap (k+1)=k+1:=WI
   have w2:IntKind.i64.wrap ((n:Int)+1)=((n+1:Nat):Int):=WI
   obtain⟨v,⟨ca,cb,rfl,hca,hcb⟩,hcut⟩:=zJZ (fuel:=fuel) (d:=d) (n:=k+1) hra (by omega)
   have oca:=hca.one
   have ocb:=hcb.one
   by_cases hc:e.cutE (k+1)=0
   ·have q2:decide (e.cutE (k+1)=0)=true:=decide_eq_true hc
    rw[if_pos hc]
    obtain⟨r1,s1,b1⟩:=zbJ hS (j:=n) (by omega)
    obtain⟨r2,s2,b2⟩:=zUO hS (i:=n+1) (by omega)
    have ob1:=b1.one
    have ob2:=b2.one
    have eA:e.cutA (k+1)=e.fst (k+1):=by unfold Rn.cutA;rw[if_pos hc]
    have eB:e.cutB (k+1)=e.snd (k+1):=by unfold Rn.cutB;rw[if_pos hc]
    have okA:=zYJ hro hc
    have okB:=zZ4 hro hc
    rw[eA] at hca hcut
    rw[eB] at hcb hcut
    generalize e.fst (k+1)=eF at *
    generalize e.snd (k+1)=eS at *
    have oca:=hca.one
    have ocb:=hcb.one
    simp (disch:=try exact SX) only[RV,seval,zA0,h0,h1,hS.fz.rows,hS.fz.one,hS.fz.cells,hS.fz.icy,hS.fz.frz,↓pIdE,zAE,↓pIdN,zAB,↓pHdE,zAC,↓pHdN,zAD,↓pLbE,zAF,↓pLbN,zAG,↓pSpE,zAH,↓pSpN,zAI,ETA,q,hw,hiad,hra.fz.rows,hra.fz.one,hra.fz.cells,hra.fz.icy,hra.fz.frz,w1,w2,hcut,hca.fz.rows,hca.fz.one,hca.fz.cells,hca.fz.icy,hca.fz.frz,hcb.fz.rows,hcb.fz.one,hcb.fz.cells,hcb.fz.icy,hcb.fz.frz,q2,s1,s2,b1.fz.rows,b1.fz.one,b1.fz.cells,b1.fz.icy,b1.fz.frz,b2.fz.rows,b2.fz.one,b2.fz.cells,b2.fz.icy,b2.fz.frz,zAK]
    refine zSC (d:=d+5) (id:=4) (a0:=r1) (a1:=.sl 3 0 2 (some 2) 10) (a2:=r2) (l1:=[eF,eS]) (by simp (disch:=try exact SX) only[RV,seval,zA0]) ?_ b1 (zOG (zP8 hca hcb okA okB) (by simp) rfl (.inr rfl) ?_) b2 (by simp) (by rw[List.length_take];omega) (by simp) (by rw[List.length_drop];omega) (by omega) (Nat.le_refl _) fun o' N sm kN nr on oc rl=>?_
    ·exact zB05
    ·simp (disch:=try exact SX) only[RV,seval,zA0]
     rfl
    ·have wN:=kN.wf
     have dN:N.dirty=false:=kN.di
     simp (disch:=try exact SX) only[RV,seval,zA0,wN,dN,on,oc,rl]
     obtain⟨ro,hro2,hfr⟩:=zGG sm zDI.cel 12 (by omega)
     rw[hfr _ (fun id h=>by simp (disch:=try exact SX) only[RV,seval,zA0,wN])]
     exact⟨ro,hro2,by rw[w2] <;> rfl⟩
   ·have q2:decide (e.cutE (k+1)=0)=false:=decide_eq_false hc
    rw[if_neg hc]
    simp (disch:=try exact SX) only[RV,seval,zA0,h0,h1,hS.fz.rows,hS.fz.one,hS.fz.cells,hS.fz.icy,hS.fz.frz,↓pIdE,zAE,↓pIdN,zAB,↓pHdE,zAC,↓pHdN,zAD,↓pLbE,zAF,↓pLbN,zAG,↓pSpE,zAH,↓pSpN,zAI,ETA,q,hw,hiad,hra.fz.rows,hra.fz.one,hra.fz.cells,hra.fz.icy,hra.fz.frz,w1,w2,hcut,hca.fz.rows,hca.fz.one,hca.fz.cells,hca.fz.icy,hca.fz.frz,hcb.fz.rows,hcb.fz.one,hcb.fz.cells,hcb.fz.icy,hcb.fz.frz,q2]
    exact⟨_,hS,rfl⟩
end Go.Proofs.Ytdgikiebohcohaa
