/-
 The executor on abstract memory, part 2: what it is, and that what it finds is so of the program.
-/
import Derived.Test.YtliicocdhkcanaaGreatEa
import Derived.Laws.AppendOwn
set_option linter.unusedSimpArgs false
set_option linter.unusedVariables false
namespace Go.Ax
open Go
variable {Γ : Glob}
variable {P : Program} {W D : Nat -> Prop} {μ : Inj} {M M' : Mem} {w : World} {r : AV} {t : List AV} {a : Act} {o : Oper} {call : Tg->List AV->Mem->Option (AV × Mem)}
theorem zTT {m l x y:Nat}:(match Nat.beq m l with | true=>x | false=>y)=if m=l then x else y:=by
 by_cases h:m=l
 ·subst h;simp [Nat.beq_refl]
 ·rw[if_neg h,show Nat.beq m l=false by
   cases hb:Nat.beq m l with
   | false=>rfl
   | true=>exact absurd (Nat.eq_of_beq_eq_true hb) h]
theorem zG9 {id off c st m h l:Nat}{p:Pl}(hp:μ id=some p)(hb:p.o+off+c*st<=p.sz)(hmc:m<=c)(hlh:l<=h)(hhm:h<=m) :
  VRel μ (.sl id (match Nat.beq m l with | true=>off | false=>off+l*st) (h - l) (some (m - l)) st)
   (.slice (if m=l then some ⟨p.b,p.o+off,none⟩ else some ⟨p.b,p.o+off+l*st,none⟩) (h - l) (m - l)):=by
 rw[zTT]
 by_cases e:m=l
 ·rw[if_pos e,if_pos e]
  subst e
  exact .sl hp ⟨rfl,by omega,by simp;omega⟩
 ·rw[if_neg e,if_neg e,show p.o+off+l*st=p.o+(off+l*st) by omega]
  refine .sl hp ⟨rfl,by omega, ?_⟩
  have:l*st+(m - l)*st=m*st:=by rw[<- Nat.add_mul];congr 1;omega
  have:=Nat.mul_le_mul_right st hmc
  omega
theorem zMO {ty e:TypeId}{s:Nat}(hu:P.underlying ty=some (.slice e))(hs:szOf P e=some s){A:Option Addr}{len c' l h m:Nat}{lo hi mx:Option Value}
  (hb:(Instr.sliceBounds true len c' lo hi mx).run P w = .ok (l,h,m) w) :
  (Instr.sliceAt ty (.slice A len c') lo hi mx).run P w = .ok (.slice (if m=l then A else A.map (·.add (l*s))) (h - l) (m - l)) w:=by
 simp only[Instr.sliceAt,Sem.run_bind,run_underlying hu,Result.andThen_ok,Instr.slice,hb,run_sizeOf hs]
 simp
theorem zTY {p:Pl}{off st len c':Nat}(h:zcC p off st len c' none)(hst:st≠0):(p.L - off) / st<=c':=by
 obtain⟨_,_,h3⟩:=h
 rw[Nat.div_le_iff_le_mul_add_pred (by omega)]
 have:c'*st=st*c':=Nat.mul_comm ..
 omega
theorem zRH {cs:List AV}{len st l h m c':Nat}{cap cap2:Option Nat}{A:Addr}(H:VRel μ (.pv cs len cap st) (.slice (some A) len c'))(hlh:l<=h)(hhl:h<=len)(hhm:h<=m)(hc:∀ c,cap2=some c->m - l=c) :
  VRel μ (.pv (slot cs (l*st) ((h - l)*st)) (h - l) cap2 st) (.slice (if m=l then some A else some (A.add (l*st))) (h - l) (m - l)):=by
 by_cases e:h=l
 ·subst e
  rw[Nat.sub_self,Nat.zero_mul,show slot cs (h*st) 0=[] by simp [slot]]
  split <;> exact .pv0 hc
 ·rw[if_neg (by omega)]
  cases H with
  | pv h1 h2 h3 h4 h5 h6 =>
   rename_i c e r b o
   have e1:l*st+(h - l)*st=h*st:=by rw[<- Nat.add_mul];congr 1;omega
   have e2:h*st<=len*st:=Nat.mul_le_mul_right st hhl
   have hl:(slot cs (l*st) ((h - l)*st)).length=(h - l)*st:=by unfold slot;simp;omega
   rw[addr_add]
   refine .pv h1 (by rw[hl];omega) ?_ hl (by omega) hc
   rw[hl]
   exact h3.win (by omega)
  | pv0 _=>omega
theorem zhE {ty e:TypeId}{s:Nat}{x:Operand}{lo hi mx:Option Operand}(ho:o.op = .slice ty x lo hi mx)(hu:P.underlying ty=some (.slice e))(hs:szOf P e=some s)
  (h0:¬ (s=0∨(mx.isSome/\hi.isNone))) (R:RelOn Γ P D μ M.get w) (H:VRel μ (zA5 t x) (a.eval x))
  (Hlo:∀ x∈lo,VRel μ (zA5 t x) (a.eval x)) (Hhi:∀ x∈hi,VRel μ (zA5 t x) (a.eval x)) (Hmx:∀ x∈mx,VRel μ (zA5 t x) (a.eval x)) (hD:∀ i∈rowsOf (zA5 t x),D i)
  (h:zA6 P call t M (.slc s x lo hi mx)=some (r,M')):zAN Γ P o W D a μ M w r M':=by
 simp only[not_or,not_and] at h0
 obtain⟨hs0,hmh⟩:=h0
 have run:∀ {A:Option Addr} {len c' l h m:Nat},a.eval x = .slice A len c'->(Instr.sliceBounds true len c' (lo.map a.eval) (hi.map a.eval) (mx.map a.eval)).run P w = .ok (l,h,m) w ->
   (execOp a.eval o).run P w = .ok (.value (.slice (if m=l then A else A.map (·.add (l*s))) (h - l) (m - l))) w:=fun hv hb=>by
  simp only[execOp,ho,hv]
  simp [zMO hu hs hb]
 have hne:mx≠none->hi≠none:=fun h1 h2=>by
  subst h2
  cases mx with
  | none=>exact h1 rfl
  | some q=>exact absurd rfl (hmh rfl)
 simp only[zA6] at h
 generalize hv:a.eval x=v at H
 split at h
 ·-- nil
  rename_i hx
  rw[hx] at H
  have hv':=zCS H;subst hv'
  split at h
  ·rename_i h1 h2 h3
   cases h
   have hm:mx=none/\0=0∨(∃ x,mx=some x/\bound t 0 (some x) 0=some 0/\hi≠none):=by
    cases mx with
    | none=>exact .inl ⟨rfl,rfl⟩
    | some q=>exact .inr ⟨q,rfl,h1,hne (by simp)⟩
   obtain⟨hb,hlh,_⟩:=zBL (P:=P) (w:=w) (isS:=true) (cap:=0) (len:=0) (c':=0) (av:=0) (Nat.le_refl _) Hlo Hhi Hmx hm (by cases mx <;> exact h2) h3 (Nat.le_refl _)
   exact .val R (.sc _) (by rw[run hv hb];simp)
  ·cases h
 ·rename_i id off len cap st' hx
  rw[hx] at H hD
  split at h
  ·-- exact
   rename_i c hb
   have hst:=Nat.eq_of_beq_eq_true hb;subst hst
   split at h
   ·rename_i m hm'
    split at h
    ·rename_i hh hh'
     split at h
     ·rename_i l hl'
      cases h
      have hm:∀ c',c'=c->(mx=none/\m=c'∨(∃ x,mx=some x/\bound t c (some x) 0=some m/\hi≠none)):=fun c' hc'=>by
       cases mx with
       | none=>exact .inl ⟨rfl,(zB6 hm').trans hc'.symm⟩
       | some q=>exact .inr ⟨q,rfl,hm',hne (by simp)⟩
      have hmc:m<=c:=by
       cases mx with
       | none=>exact Nat.le_of_eq (zB6 hm')
       | some q=>exact(zC8 (P:=P) (w:=w) (Hmx q rfl) hm').1
      have hh'':bound t (if mx=none then c else m) hi len=some hh:=by
       cases mx with
       | none=>rw[zB6 hm'] at hh';simpa using hh'
       | some q=>simpa using hh'
      cases H with
      | sl hp hcap =>
       rename_i c' p
       obtain⟨hc1,hc2,hc3⟩:=hcap
       subst hc1
       obtain⟨hb,hlh,hhm⟩:=zBL (P:=P) (w:=w) (isS:=true) (cap:=0) (len:=len) (c':=c') (av:=c') (Nat.le_refl _) Hlo Hhi Hmx (hm c' rfl) hh'' hl' hc2
       have hhm':hh<=m:=hhm.elim (fun h=>h) fun hn=>by
        exact zE0f
       refine .val R (zG9 hp hc3 hmc hlh hhm') ?_
       rw[run hv hb]
       simp [addr_add]
      | sl0 hp hcap =>
       rename_i xx p
       have hc0:c=0:=hcap
       subst hc0
       obtain⟨hb,hlh,hhm⟩:=zBL (P:=P) (w:=w) (isS:=true) (cap:=0) (len:=0) (c':=0) (av:=0) (Nat.le_refl _) Hlo Hhi Hmx (hm 0 rfl) hh'' hl' (Nat.le_refl _)
       have hm0:m=0:=by omega
       have hh0:hh=0:=by
        rcases hhm with h | hn
        ·omega
        ·subst hn;exact zB6 hh'
       have hl0:l=0:=by omega
       subst hm0;subst hh0;subst hl0
       refine .val R (v:=.slice (some ⟨p.b,xx,none⟩) 0 0) (VRel.sl0 (cap:=some 0) hp rfl) ?_
       rw[run hv hb];simp
     ·cases h
    ·cases h
   ·cases h
  ·-- unknown
   rename_i hb
   have hst:=Nat.eq_of_beq_eq_true hb;subst hst
   split at h
   ·rename_i cs hg
    -- what the concrete slice is
    have key:∃ p c' A,μ id=some p/\v = .slice (some A) len c'/\cs.length=p.L/\(p.L - off) / s<=c'/\len<=c' /\
      ((A=⟨p.b,p.o+off,none⟩/\p.o+off+c'*s<=p.sz/\p.L<=off+c'*s)∨(c'=0/\A.block=p.b/\A.spot=none/\p.L<=off)):=by
     cases H with
     | sl hp hcap =>
      obtain⟨c,e',fz,_,_,h3,_⟩:=zMJ R (hD id (by simp [rowsOf])) hp hg
      exact⟨_,_,_,hp,rfl,h3,zTY hcap hs0,hcap.1,.inl ⟨rfl,hcap.2.1,hcap.2.2⟩⟩
     | sl0 hp hcap =>
      rename_i x p
      obtain⟨c,e',fz,_,_,h3,_⟩:=zMJ R (hD id (by simp [rowsOf])) hp hg
      have hcap':p.L<=off:=hcap
      refine⟨_,_,_,hp,rfl,h3, ?_,Nat.le_refl _,.inr ⟨rfl,rfl,rfl,hcap'⟩⟩
      rw[Nat.sub_eq_zero_of_le hcap',Nat.zero_div];exact Nat.le_refl _
    obtain⟨p,c',A,hp,rfl,hL,hav,hlc,hA⟩:=key
    rw[hL] at h
    split at h
    ·-- no max
     split at h
     ·rename_i hh hh'
      split at h
      ·rename_i l hl'
       cases h
       obtain⟨hb,hlh,hhm⟩:=zBL (P:=P) (w:=w) (isS:=true) (cap:=0) (mx:=none) (len:=len) (c':=c') (av:=(p.L - off) / s) hav Hlo Hhi Hmx (.inl ⟨rfl,rfl⟩) (by simpa using hh') hl' hlc
       have hhc:hh<=c':=hhm.elim (fun h=>h) fun hn=>by subst hn;have:=zB6 hh';omega
       have hrun:=run hv hb
       by_cases e:c'=l
       ·rw[if_pos e] at hrun
        have e1:hh - l=0:=by omega
        have e2:c' - l=0:=by omega
        rw[e1,e2] at hrun
        rw[e1]
        rcases hA with⟨rfl,h1,h2⟩ | ⟨h1,h2,h3,h4⟩
        ·refine .val R (VRel.sl0 (cap:=none) hp ?_) hrun
         show p.L<=off+l*s
         rw[<- e];exact h2
        ·obtain⟨A1,A2,A3⟩:=A
         simp only at h2 h3;subst h2;subst h3
         refine .val R (VRel.sl0 (cap:=none) hp ?_) hrun
         show p.L<=off+l*s
         omega
       ·rw[if_neg e] at hrun
        rcases hA with⟨rfl,h1,h2⟩ | ⟨h1,h2,h3,h4⟩
        ·simp only[Option.map_some,addr_add,Nat.add_assoc] at hrun
         have e3:l*s+(c' - l)*s=c'*s:=by rw[<- Nat.add_mul];congr 1;omega
         refine .val R (.sl (p:=p) hp ⟨by omega,by omega,by omega⟩) hrun
        ·omega
      ·cases h
     ·cases h
    ·-- max
     rename_i q
     split at h
     ·rename_i m hm'
      split at h
      ·rename_i hh hh'
       split at h
       ·rename_i l hl'
        cases h
        have hma:=(zC8 (P:=P) (w:=w) (Hmx q rfl) hm').1
        obtain⟨hb,hlh,hhm⟩:=zBL (P:=P) (w:=w) (isS:=true) (cap:=0) (mx:=some q) (len:=len) (c':=c') (av:=(p.L - off) / s) hav Hlo Hhi Hmx (.inr ⟨q,rfl,hm',hne (by simp)⟩) (by simpa using hh') hl' hlc
        have hhm':hh<=m:=hhm.elim (fun h=>h) fun hn=>absurd hn (hne (by simp))
        have hrun:=run hv hb
        rcases hA with⟨rfl,h1,h2⟩ | ⟨h1,h2,h3,h4⟩
        ·refine .val R (zG9 hp h1 (Nat.le_trans hma hav) hlh hhm') ?_
         rw[hrun];simp [addr_add]
        ·have hm0:m=0:=by omega
         have hh0:hh=0:=by omega
         have hl0:l=0:=by omega
         subst hm0;subst hh0;subst hl0
         obtain⟨A1,A2,A3⟩:=A
         simp only at h2 h3;subst h2;subst h3
         refine .val R (v:=.slice (some ⟨p.b,A2,none⟩) 0 0) (VRel.sl0 (cap:=some 0) hp rfl) ?_
         rw[hrun];simp
       ·cases h
      ·cases h
     ·cases h
   ·cases h
  ·cases h
 ·-- frozen
  rename_i cs len cap st' hx
  rw[hx] at H
  obtain⟨A,c',rfl,hlc,hcap,hcl,_⟩:=zKQ R H
  split at h
  ·rename_i hb
   have hst:=Nat.eq_of_beq_eq_true hb;subst hst
   split at h
   ·-- no max
    split at h
    ·rename_i hh hh'
     split at h
     ·rename_i l hl'
      cases h
      obtain⟨hb,hlh,hhm⟩:=zBL (P:=P) (w:=w) (isS:=true) (cap:=0) (mx:=none) (len:=len) (c':=c') (av:=len) hlc Hlo Hhi Hmx (.inl ⟨rfl,rfl⟩) (by simpa using hh') hl' hlc
      have hhl:hh<=len:=by
       cases hi with
       | none=>exact Nat.le_of_eq (zB6 hh')
       | some q=>exact(zC8 (P:=P) (w:=w) (Hhi q rfl) hh').1
      refine .val R (zRH (m:=c') H hlh hhl (by omega) ?_) (by rw[run hv hb];split <;> rfl)
      intro c hc
      cases cap with
      | none=>cases hc
      | some d=>simp only[zIP,Option.some.injEq] at hc;rw[hcap d rfl];exact hc
     ·cases h
    ·cases h
   ·-- max
    rename_i q
    split at h
    ·rename_i m hm'
     split at h
     ·rename_i hh hh'
      split at h
      ·rename_i l hl'
       cases h
       have hma:=(zC8 (P:=P) (w:=w) (Hmx q rfl) hm').1
       obtain⟨hb,hlh,hhm⟩:=zBL (P:=P) (w:=w) (isS:=true) (cap:=0) (mx:=some q) (len:=len) (c':=c') (av:=len) hlc Hlo Hhi Hmx (.inr ⟨q,rfl,hm',hne (by simp)⟩) (by simpa using hh') hl' hlc
       have hhm':hh<=m:=hhm.elim (fun h=>h) fun hn=>absurd hn (hne (by simp))
       refine .val R (zRH (m:=m) H hlh (by omega) hhm' (fun c hc=>by cases hc;rfl)) (by rw[run hv hb];split <;> rfl)
      ·cases h
     ·cases h
    ·cases h
  ·cases h
 ·cases h
theorem zhD {ty e:TypeId}{n s:Nat}{x:Operand}{lo hi mx:Option Operand}(ho:o.op = .slice ty x lo hi mx)(hu:P.underlying ty=some (.array n e))(hs:szOf P e=some s)
  (hmh:¬ (mx.isSome/\hi.isNone)) (R:RelOn Γ P D μ M.get w) (H:VRel μ (zA5 t x) (a.eval x))
  (Hlo:∀ x∈lo,VRel μ (zA5 t x) (a.eval x)) (Hhi:∀ x∈hi,VRel μ (zA5 t x) (a.eval x)) (Hmx:∀ x∈mx,VRel μ (zA5 t x) (a.eval x)) (hD:∀ i∈rowsOf (zA5 t x),D i)
  (h:zA6 P call t M (.sla n s x lo hi mx)=some (r,M')):zAN Γ P o W D a μ M w r M':=by
 have hne:mx≠none->hi≠none:=fun h1 h2=>by
  subst h2
  cases mx with
  | none=>exact h1 rfl
  | some q=>exact hmh ⟨rfl,rfl⟩
 simp only[zA6] at h
 split at h
 ·rename_i id off hx
  rw[hx] at H hD
  obtain⟨p,hp,hv⟩:=zFF H
  split at h
  ·rename_i str cs hg
   obtain⟨c,e',fz,h1,h2,h3,h4,h5,_⟩:=row_of R (hD id (by simp [rowsOf])) hp hg
   split at h
   ·rename_i hb
    have hb:=Nat.le_of_ble_eq_true hb
    split at h
    ·rename_i m hm'
     split at h
     ·rename_i hh hh'
      split at h
      ·rename_i l hl'
       cases h
       have hm:mx=none/\m=n∨(∃ x,mx=some x/\bound t n (some x) 0=some m/\hi≠none):=by
        cases mx with
        | none=>exact .inl ⟨rfl,zB6 hm'⟩
        | some q=>exact .inr ⟨q,rfl,hm',hne (by simp)⟩
       have hmn:m<=n:=by
        cases mx with
        | none=>exact Nat.le_of_eq (zB6 hm')
        | some q=>exact(zC8 (P:=P) (w:=w) (Hmx q rfl) hm').1
       obtain⟨hbd,hlh,hhm⟩:=zBL (P:=P) (w:=w) (isS:=false) (cap:=0) (len:=n) (c':=n) (av:=n) (Nat.le_refl _) Hlo Hhi Hmx hm
        (by cases mx with
          | none=>rw[zB6 hm'] at hh';simpa using hh'
          | some q=>simpa using hh') hl' (Nat.le_refl _)
       have hhm':hh<=m:=hhm.elim (fun h=>h) fun hn=>by
        exact zE0f
       refine .val R (zG9 hp (by omega) hmn hlh hhm') ?_
       simp only[execOp,ho,hv]
       simp [Instr.sliceAt,run_underlying hu,Instr.sureAddr,hbd,run_sizeOf hs,addr_add]
       split <;> rfl
      ·cases h
     ·cases h
    ·cases h
   ·cases h
  ·cases h
 ·cases h
theorem zb0 {cs:List AV}{off:Nat}{v:Value}(h:VRel μ (.cp cs off) v)(d:Nat):∃ b x,v = .pointer (some ⟨b,x,none⟩)/\VRel μ (.cp cs (off+d)) (.pointer (some ⟨b,x+d,none⟩)):=by
 cases h with
 | cp h1 h2 h3=>exact⟨_,_,rfl,by rw[Nat.add_assoc];exact .cp h1 h2 h3⟩
theorem zh3 {ty:TypeId}{fs:Array Field}{f:Field}{i k:Nat}{x:Operand}(ho:o.op = .fieldAddr ty x i)(hu:P.underlying ty=some (.struct fs))(hf:fs[i]? = some f)(hs:szOf P f.type=some k)(hk:k≠0)
  (R:RelOn Γ P D μ M.get w) (H:VRel μ (zA5 t x) (a.eval x)) (h:zA6 P call t M (.fad f.offset x)=some (r,M')):zAN Γ P o W D a μ M w r M':=by
 simp only[zA6] at h
 split at h
 ·rename_i id off hx
  rw[hx] at H
  obtain⟨p,hp,hv⟩:=zFF H
  cases h
  refine .val R (.ptr hp) ?_
  simp only[execOp,ho,hv]
  simp [Instr.fieldAt,run_underlying hu,hf,Instr.sureAddr,fieldPlace,run_sizeOf hs,hk,addr_add,Nat.add_assoc]
 ·rename_i cs off hx
  rw[hx] at H
  obtain⟨b,o',hv,hr⟩:=zb0 H f.offset
  cases h
  refine .val R hr ?_
  simp only[execOp,ho,hv]
  simp [Instr.fieldAt,run_underlying hu,hf,Instr.sureAddr,fieldPlace,run_sizeOf hs,hk,addr_add]
 ·cases h
theorem zH1 {ty:TypeId}{n off:Nat}{ag:Bool}{cs:Array Value}{l:List AV}{x:AV}(hz:szOf P ty=some n)(ha:zG7 P ty=some ag)(hl:VRels μ l cs.toList)(hp:part l off n ag=some x) :
  ∃ v,(Go.part ty cs off).run P w = .ok v w/\VRel μ x v:=by
 obtain⟨h1,h2,h3⟩:=zNY hl hp
 cases ag with
 | true =>
  obtain⟨m,rfl,hm⟩:=h2 rfl
  refine⟨.agg (cs.extract off (off+n)),by simp [Go.part,zJT ha,run_sizeOf hz],.agg ?_⟩
  rw[Array.toList_extract,List.extract_eq_take_drop,show off+n - off=n by omega]
  exact hm
 | false =>
  obtain⟨v,hv,hr⟩:=h3 rfl
  have:=zEY hv
  rw[Array.getElem?_toList] at this
  exact⟨v,by simp [Go.part,zJT ha,this],hr⟩
theorem zTE {l:List AV}{v:Value}(h:VRel μ (.agg l) v):∃ cs,v = .agg cs/\VRels μ l cs.toList:=by
 cases h with
 | agg h=>exact⟨_,rfl,h⟩
theorem zh4 {ty:TypeId}{fs:Array Field}{f:Field}{i k:Nat}{ag:Bool}{x:Operand}(ho:o.op = .field ty x i)(hu:P.underlying ty=some (.struct fs))(hf:fs[i]? = some f)(hs:szOf P f.type=some k)(ha:zG7 P f.type=some ag)
  (R:RelOn Γ P D μ M.get w) (H:VRel μ (zA5 t x) (a.eval x)) (h:zA6 P call t M (.fld f.offset k ag x)=some (r,M')):zAN Γ P o W D a μ M w r M':=by
 have fin:∀ l (cs:Array Value) y,a.eval x = .agg cs->VRels μ l cs.toList->part l f.offset k ag=some y->zAN Γ P o W D a μ M w y M:=fun l cs y hv hl hp=>by
  obtain⟨v,h1,h2⟩:=zH1 (P:=P) (w:=w) hs ha hl hp
  refine .val R h2 ?_
  simp only[execOp,ho,hv]
  simp [Instr.field,run_underlying hu,hf,asAgg,h1]
 simp only[zA6] at h
 split at h
 ·rename_i l hx
  rw[hx] at H
  obtain⟨cs,hv,hl⟩:=zTE H
  split at h
  ·rename_i y hy;cases h;exact fin l cs _ hv hl hy
  ·cases h
 ·rename_i cs hx
  rw[hx] at H
  have hv:=zCS H
  split at h
  ·rename_i y hy;cases h;exact fin _ cs _ hv (VRels.scs _) hy
  ·cases h
 ·cases h
theorem zh5 {ty e:TypeId}{s:Nat}{x i:Operand}(ho:o.op = .indexAddr ty x i)(hu:P.underlying ty=some (.slice e))(hs:szOf P e=some s)(R:RelOn Γ P D μ M.get w)
  (H:VRel μ (zA5 t x) (a.eval x)) (Hi:VRel μ (zA5 t i) (a.eval i)) (h:zA6 P call t M (.iad s x i)=some (r,M')):zAN Γ P o W D a μ M w r M':=by
 simp only[zA6] at h
 split at h
 ·rename_i id off len cap st' n hx hn
  rw[hx] at H
  obtain⟨k,hk⟩:=zDC Hi hn
  split at h
  ·rename_i hc
   cases h
   simp only[Bool.and_eq_true] at hc
   have hst:=Nat.eq_of_beq_eq_true hc.1;subst hst
   have hlt:=(zAJ _ _).1 hc.2
   generalize hv:a.eval x=v at H
   cases H with
   | sl hp hcap =>
    refine .val R (.ptr hp) ?_
    simp only[execOp,ho,hv,hk]
    have h1:0<=(n:Int)/\(n:Int)<(len:Int):=⟨by omega,by omega⟩
    simp [Instr.indexAt,asIntOf,run_underlying hu,run_sizeOf hs,hlt,addr_add,Nat.add_assoc]
   | sl0 hp hcap=>omega
  ·cases h
 ·rename_i cs len cap st' n hx hn
  rw[hx] at H
  obtain⟨k,hk⟩:=zDC Hi hn
  split at h
  ·rename_i hc
   cases h
   simp only[Bool.and_eq_true] at hc
   have hst:=Nat.eq_of_beq_eq_true hc.1;subst hst
   have hlt:=(zAJ _ _).1 hc.2
   generalize hv:a.eval x=v at H
   cases H with
   | pv h1 h2 h3 h4 h5 h6 =>
    rename_i c e r b o' c'
    have e1:n*s+s<=len*s:=by have:=Nat.mul_le_mul_right s (show n+1<=len by omega);rw[Nat.add_mul] at this;omega
    have hl:(slot cs (n*s) s).length=s:=by unfold slot;simp;omega
    refine .val R (v:=.pointer (some ⟨b,o'+n*s+0,none⟩)) (.cp h1 (by rw[hl];omega) ?_) ?_
    ·rw[hl]
     exact h3.win (by omega)
    ·simp only[execOp,ho,hv,hk]
     simp [Instr.indexAt,asIntOf,run_underlying hu,run_sizeOf hs,hlt,addr_add,Nat.add_assoc]
   | pv0 _=>omega
  ·cases h
 ·cases h
theorem zh6 {ty e:TypeId}{len s:Nat}{x i:Operand}(ho:o.op = .indexAddr ty x i)(hu:P.underlying ty=some (.array len e))(hs:szOf P e=some s)(R:RelOn Γ P D μ M.get w)
  (H:VRel μ (zA5 t x) (a.eval x)) (Hi:VRel μ (zA5 t i) (a.eval i)) (h:zA6 P call t M (.ida len s x i)=some (r,M')):zAN Γ P o W D a μ M w r M':=by
 simp only[zA6] at h
 split at h
 ·rename_i id off n hx hn
  rw[hx] at H
  obtain⟨k,hk⟩:=zDC Hi hn
  obtain⟨p,hp,hv⟩:=zFF H
  split at h
  ·rename_i hc
   cases h
   have hlt:=(zAJ _ _).1 hc
   refine .val R (.ptr hp) ?_
   simp only[execOp,ho,hv,hk]
   have h1:0<=(n:Int)/\(n:Int)<(len:Int):=⟨by omega,by omega⟩
   simp [Instr.indexAt,Instr.sureAddr,asIntOf,run_underlying hu,run_sizeOf hs,hlt,addr_add,Nat.add_assoc]
  ·cases h
 ·rename_i cs off n hx hn
  rw[hx] at H
  obtain⟨k,hk⟩:=zDC Hi hn
  obtain⟨b,o',hv,hr⟩:=zb0 H (n*s)
  split at h
  ·rename_i hc
   cases h
   have hlt:=(zAJ _ _).1 hc
   refine .val R hr ?_
   simp only[execOp,ho,hv,hk]
   simp [Instr.indexAt,Instr.sureAddr,asIntOf,run_underlying hu,run_sizeOf hs,hlt,addr_add]
  ·cases h
 ·cases h
theorem zh7 {ty e:TypeId}{len s:Nat}{ag:Bool}{x i:Operand}(ho:o.op = .index ty x i)(hu:P.underlying ty=some (.array len e))(hs:szOf P e=some s)(ha:zG7 P e=some ag)(R:RelOn Γ P D μ M.get w)
  (H:VRel μ (zA5 t x) (a.eval x)) (Hi:VRel μ (zA5 t i) (a.eval i)) (h:zA6 P call t M (.idx len s ag x i)=some (r,M')):zAN Γ P o W D a μ M w r M':=by
 simp only[zA6] at h
 split at h
 ·rename_i n hn
  obtain⟨k,hk⟩:=zDC Hi hn
  split at h
  ·rename_i hc
   have hlt:=(zAJ _ _).1 hc
   have h1:0<=(n:Int)/\(n:Int)<(len:Int):=⟨by omega,by omega⟩
   have fin:∀ l (cs:Array Value) y,a.eval x = .agg cs->VRels μ l cs.toList->part l (n*s) s ag=some y->zAN Γ P o W D a μ M w y M:=fun l cs y hv hl hp=>by
    obtain⟨v,h1',h2⟩:=zH1 (P:=P) (w:=w) hs ha hl hp
    refine .val R h2 ?_
    simp only[execOp,ho,hv,hk]
    simp [Instr.index,asIntOf,run_underlying hu,run_sizeOf hs,hlt,h1']
   split at h
   ·rename_i l hx
    rw[hx] at H
    obtain⟨cs,hv,hl⟩:=zTE H
    split at h
    ·rename_i y hy;cases h;exact fin l cs _ hv hl hy
    ·cases h
   ·rename_i cs hx
    rw[hx] at H
    split at h
    ·rename_i y hy;cases h;exact fin _ cs _ (zCS H) (VRels.scs _) hy
    ·cases h
   ·cases h
  ·cases h
 ·cases h
theorem zGR:∀ (xs:List Operand),(∀ x∈xs,VRel μ (zA5 t x) (a.eval x))->VRels μ (xs.map (zA5 t)) (xs.map a.eval)
 | [],_ => .nil
 | x::xs,h => .cons (h x (by simp)) (zGR xs fun y hy=>h y (by simp [hy]))
theorem zdV {f:FuncId}{first cap:Array Operand}(ho:o.op = .makeFunc (.func f) first cap)(R:RelOn Γ P D μ M.get w)(H1:∀ x∈first.toList,VRel μ (zA5 t x) (a.eval x))(H2:∀ x∈cap.toList,VRel μ (zA5 t x) (a.eval x))
  (h:zA6 P call t M (.mkfn f first.toList cap.toList)=some (r,M')):zAN Γ P o W D a μ M w r M':=by
 simp only[zA6] at h
 cases h
 refine .val R (v:=.func (.func f) (first.map a.eval) (cap.map a.eval)) (.fn ?_ ?_) (by simp [execOp,ho,Instr.makeFunc])
 ·rw[Array.toList_map];exact zGR _ H1
 ·rw[Array.toList_map];exact zGR _ H2
theorem zRB {ty:TypeId}{rv:Option Operand}(ho:o.op = .makeMap ty rv)(hr:rv=none ∨ ∃ k n kt et,rv=some (.const (.int k n))/\P.underlying ty=some (.map kt et))(R:RelOn Γ P D μ M.get w)(hfr:M.size<M'.size->μ M.size=none)
  (h:zA6 P call t M .mkmap=some (r,M')):zAN Γ P o W D a μ M w r M':=by
 simp only[zA6] at h
 split at h
 ·rename_i id M1 hn
  cases h
  have hid:=(Mem.new_spec hn).1;subst hid
  have hx:(execOp a.eval o).run P w = .ok (.value (.map (some w.heap.size))) { w with heap:=w.heap.push (.map #[] 0) }:=by
   rcases hr with rfl | ⟨k,n,kt,et,rfl,hu⟩
   ·simp [execOp,ho,Instr.makeMap]
   ·simp [execOp,ho,Instr.makeMap,run_underlying hu,asInt,asIntOf,Act.eval]
  exact⟨_,_,_,.inl hx,Res.alloc (w':={ w with heap:=w.heap.push (.map #[] 0) }) hn (hfr (by have:=(Mem.new_spec hn).2.1;omega)) R ⟨w.heap.size,0,0,0⟩ rfl rfl rfl rfl rfl ⟨#[],by simp,rfl,fun i k v n h=>by simp at h⟩ (.mp (p:=⟨w.heap.size,0,0,0⟩) (Inj.upd_same ..))⟩
 ·cases h
theorem zeT {l:List AV}{v:Value}(h:VRel μ (.tup l) v):∃ cs,v = .tuple cs/\VRels μ l cs.toList:=by
 cases h with
 | tup h=>exact⟨_,rfl,h⟩
theorem zh2 {x:Operand}{i:Nat}(ho:o.op = .extract x i)(R:RelOn Γ P D μ M.get w)(H:VRel μ (zA5 t x) (a.eval x))(h:zA6 P call t M (.ext x i)=some (r,M')):zAN Γ P o W D a μ M w r M':=by
 simp only[zA6] at h
 split at h
 ·rename_i l hx
  rw[hx] at H
  obtain⟨cs,hv,hl⟩:=zeT H
  split at h
  ·rename_i y hy
   cases h
   obtain⟨v,h1,h2⟩:=hl.get i hy
   rw[Array.getElem?_toList] at h1
   exact .val R h2 (by simp [execOp,ho,hv,Instr.extract,h1])
  ·cases h
 ·rename_i vs hx
  rw[hx] at H
  have hv:=zCS H
  split at h
  ·rename_i y hy
   cases h
   exact .val R (.sc y) (by simp [execOp,ho,hv,Instr.extract,hy])
  ·cases h
 ·cases h
theorem zdW {ty e:TypeId}{ti:TypeInfo}{z:Value}{l c:Operand}(ho:o.op = .makeSlice ty l c)(hu:P.underlying ty=some (.slice e))(hi:P.info? e=some ti)(hz:ti.zero=some z)
  (h0:¬ (ti.size=0∨z.cells.size≠ti.size)) (R:RelOn Γ P D μ M.get w) (hfr:M.size<M'.size->μ M.size=none) (Hl:VRel μ (zA5 t l) (a.eval l)) (Hc:VRel μ (zA5 t c) (a.eval c))
  (h:zA6 P call t M (.mksl e ti.size ti.bytes z l c)=some (r,M')):zAN Γ P o W D a μ M w r M':=by
 simp only[not_or,Decidable.not_not] at h0
 obtain⟨h0,hzs⟩:=h0
 simp only[zA6] at h
 split at h
 ·rename_i ln cn hln hcn
  obtain⟨k1,hl⟩:=zDC Hl hln
  obtain⟨k2,hc⟩:=zDC Hc hcn
  split at h
  ·rename_i hb
   simp only[Bool.and_eq_true] at hb
   obtain⟨⟨b1,b2⟩,b3⟩:=hb
   have b1:=Nat.le_of_ble_eq_true b1
   have b2:=Nat.le_of_ble_eq_true b2
   have b3:=Nat.le_of_ble_eq_true b3
   split at h
   ·rename_i id M1 hn
    cases h
    have hzr:=zPU μ z cn
    have hlen:=zEJ z cn
    have hwl:∀ n:Nat,n<=140737488355328->IntKind.i64.wrap (n:Int)=n:=fun n hn=>by
     unfold IntKind.wrap;simp [IntKind.signed,IntKind.bits];omega
    have hzero:zeroOf P e=some z:=by simp [zeroOf,hi,hz]
    have hsz:szOf P e=some ti.size:=by simp [szOf,hi]
    refine zCQ (c:=(Array.range (cn*z.cells.size)).map (z.cells[· % z.cells.size]!)) (e:=e) (w':={ w with heap:=w.heap.push (.cells ((Array.range (cn*z.cells.size)).map (z.cells[· % z.cells.size]!)) e) }) hn (hfr (by have:=(Mem.new_spec hn).2.1;omega)) R
     (by rw[List.take_of_length_le (by rw[hlen];simp)];exact hzr) (by rw[hlen];simp) (0,0) (fun _ _ h=>by simp at h) (fun _=>rfl) ⟨rfl,b1,by simp;rw[<- hzs];omega⟩ rfl rfl rfl rfl ?_
    simp only[execOp,ho,hl,hc,Instr.makeSlice]
    simp only[Sem.run_bind,run_underlying hu,Result.andThen_ok,asInt,asIntOf,Sem.run_pure,run_typeInfo hi,Sem.run_map]
    rw[hwl cn b3,hwl ln (by omega)]
    have e1:(decide ((cn:Int)<0) || decide (((ti.bytes:Nat):Int)*(cn:Int) > 2 ^ 48))=false:=by
     have:((ti.bytes:Nat):Int)*(cn:Int)=((cn*ti.bytes:Nat):Int):=by rw[Nat.mul_comm];simp
     rw[this];simp;omega
    have e2:¬ ((decide ((cn:Int)<0) || decide (((ti.bytes:Nat):Int)*(cn:Int) > 2 ^ 48)) || decide ((ln:Int)<0) || decide ((ln:Int) > (cn:Int)))=true:=by
     rw[e1];simp;omega
    simp only[if_neg e2]
    simp only[Int.toNat_natCast]
    by_cases hn0:cn*ti.size=0
    ·have hc0:cn=0:=by rcases Nat.mul_eq_zero.1 hn0 with h | h <;> omega
     subst hc0
     have e3:∀ f:Nat->Value,(Array.range 0).map f = #[]:=fun f=>by simp
     simp [run_sizeOf hsz,newRow,e3]
    ·simp [run_sizeOf hsz,hn0,zBT hzero,newRow,hzs]
   ·cases h
  ·cases h
 ·cases h
theorem zBY {c:Call}{b:Builtin}(ho:o.op = .call c)(hc:c.callee = .builtin b)(ρ:Operand->Value) :
  ∃ consts,∀ w,(execOp ρ o).run P w=(builtin b c.argTypes o.type consts (c.args.map ρ)).run P w:=by
 refine⟨c.args.map fun | .const _=>true | _=>false,fun w=>?_⟩
 simp only[execOp,ho,resolve,hc,Sem.run_bind,Sem.run_pure,Result.andThen_ok,invoke]
 rfl
theorem zc4 {c:Call}{x y:Operand}(h:c.args.toList=[x,y]):c.args = #[x,y]:=by
 cases hc:c.args with
 | mk l=>rw[hc] at h;simp at h;rw[h]
theorem zTQ {c:Call}{x:Operand}(h:c.args.toList=[x]):c.args = #[x]:=by
 cases hc:c.args with
 | mk l=>rw[hc] at h;simp at h;rw[h]
theorem zDK {x:AV}{v:Value}{cs:List AV}{n size:Nat}(H:VRel μ x v)(hc:cellsOf M x=some cs)(hn:lenA x=some n)(hl:cs.length=n*size)(R:RelOn Γ P D μ M.get w)(hD:∀ i∈rowsOf x,D i) :
  (Builtin.lenOf v).run P w = .ok n w /\ ∃ arr:Array Value,(∀ k,(Builtin.firstCells size n v).run P { w with drawn:=k } = .ok arr { w with drawn:=k })/\VRels μ cs arr.toList:=by
 cases H with
 | sc v =>
  cases v <;> simp [cellsOf] at hc
  ·rename_i s
   simp [lenA] at hn
   subst hc;subst hn
   refine⟨rfl,s.data.map (fun b => .int .u8 b.toNat),fun k=>?_, ?_⟩
   ·have:s.extract 0 s.size=s:=by
     apply ByteArray.ext
     rw[ByteArray.data_extract]
     simp
    simp [Builtin.firstCells,this]
   ·rw[Array.toList_map,show (s.data.toList.map fun b=>AV.sc (.int .u8 b.toNat))=(s.data.toList.map fun b=>Value.int .u8 b.toNat).map .sc by simp]
    exact VRels.scs _
  ·rename_i A l c
   cases A with
   | some _=>simp at hc
   | none =>
    simp at hc;subst hc
    simp [lenA] at hn;subst hn
    exact⟨rfl,#[],fun k=>rfl,.nil⟩
 | sl hp hcap =>
  simp only[cellsOf] at hc
  simp [lenA] at hn;subst hn
  split at hc
  ·rename_i row hg
   split at hc
   ·rename_i hb
    have hb:=Nat.le_of_ble_eq_true hb
    cases hc
    obtain⟨c,e,fz,h1,h2,h3,h4,h5⟩:=zMJ R (hD _ (by simp [rowsOf])) hp hg
    rw[zER _ _ _ hb] at hl
    refine⟨rfl,_,fun k=>?_,zML h5 h3 hb⟩
    simp only[Builtin.firstCells,<- hl]
    exact run_loadCells (w:={ w with drawn:=k }) h1 _ _ (by omega)
   ·cases hc
  ·cases hc
 | sl0 hp hcap =>
  simp only[cellsOf] at hc
  simp [lenA] at hn;subst hn
  split at hc
  ·split at hc
   ·cases hc
    refine⟨rfl,#[],fun k=>?_,by simpa [slot] using VRels.nil⟩
    simp [Builtin.firstCells,loadCells,loadCellsFrom]
   ·cases hc
  ·cases hc
 | pv h1 h2 h3 h4 h5 h6 =>
  rename_i cs' c0 e0 r0 len' st' b' o' c' cap'
  simp only[cellsOf,Option.some.injEq] at hc;subst hc
  simp [lenA] at hn;subst hn
  obtain⟨c,e,fz,k1,k2,k3⟩:=zGU R h1 h2 h3
  refine⟨rfl,c.extract o' (o'+cs'.length),fun k=>?_, ?_⟩
  ·simp only[Builtin.firstCells,<- hl]
   exact run_loadCells (w:={ w with drawn:=k }) k1 _ _ k2
  ·rw[Array.toList_extract,List.extract_eq_take_drop,Nat.add_sub_cancel_left]
   exact k3
 | pv0 h1 =>
  rename_i A st c' cap
  simp only[cellsOf,Option.some.injEq] at hc;subst hc
  simp [lenA] at hn;subst hn
  refine⟨rfl,#[],fun k=>?_,.nil⟩
  simp [Builtin.firstCells,loadCells,loadCellsFrom]
 | _=>simp [cellsOf] at hc
section runs
variable {xt yt e : TypeId} {ty : TypeId} {ti : TypeInfo} {z : Value} {ats : Array TypeId} {base : Option Addr} {sLen sCap n : Nat} {y : Value} {arr : Array Value}
structure Appd (P:Program) (w:World) (ats:Array TypeId) (e:TypeId) (ti:TypeInfo) (z:Value) (y:Value) (n:Nat) (arr:Array Value):Prop where
 run:(∃ yt d,ats[1]? = some yt/\P.underlying yt=some d/\(∀ k,d ≠ .int k)/\(Builtin.lenOf y).run P w = .ok n w /\ ∀ k,(Builtin.firstCells ti.size n y).run P { w with drawn:=k } = .ok arr { w with drawn:=k }) ∨
  (∃ yt k k',ats[1]? = some yt/\P.underlying yt=some (.int k)/\y = .int k' n/\n<=140737488355328/\n*ti.bytes<=140737488355328/\n≠0/\ti.size≠0/\arr=Builtin.zeroCells z.cells n)
theorem zH6 (h0:ats[0]? = some xt)(hu:P.underlying xt=some (.slice e))(hi:P.info? e=some ti)(hz:ti.zero=some z)(ha:Appd P w ats e ti z y n arr)(hroom:sLen+n<=sCap) :
  (Builtin.append_ ats ty #[.slice base sLen sCap,y]).run P w =
   ((match base with | some a=>storeCells (a.add (sLen*ti.size)) arr.toList | none=>pure ():Sem Unit).run P w).andThen fun _ w' => .ok (.slice base (sLen+n) sCap) w':=by
 have hwl:∀ n:Nat,n<=140737488355328->IntKind.i64.wrap (n:Int)=n:=fun n hn=>by
  unfold IntKind.wrap;simp [IntKind.signed,IntKind.bits];omega
 rcases ha.run with⟨yt,d,h1,hd,hk,hl,hf⟩ | ⟨yt,k,k',h1,hd,rfl,hb1,hb2,hn0,hs0,rfl⟩
 ·have hm:(match d with | .int _=>true | _=>false)=false:=by cases d <;> first | rfl | exact absurd rfl (hk _)
  simp only[Builtin.append_,h0,h1]
  simp [run_underlying hu,run_underlying hd,sizeOf,run_typeInfo hi,hl,hroom,hm]
  have:=hf w.drawn
  cases base <;> simp [this]
 ·simp only[Builtin.append_,h0,h1]
  have e1:¬ ((n:Int)<0):=by omega
  have e2:¬ ((n:Int)*(ti.bytes:Int) > 2 ^ 48):=by
   have:(n:Int)*(ti.bytes:Int)=((n*ti.bytes:Nat):Int):=by simp
   rw[this];simp;omega
  have e3:¬ (n*ti.size=0):=by
   intro h;rcases Nat.mul_eq_zero.1 h with h | h <;> omega
  have e2':¬ ((281474976710656:Int)<(n:Int)*(ti.bytes:Int)):=by simpa using e2
  simp [run_underlying hu,run_underlying hd,sizeOf,run_typeInfo hi,asInt,asIntOf,hwl n hb1,e1,e2',hroom,hn0,hs0,zeroValue,hz]
  cases base
  ·simp
  ·simp;exact fun h=>absurd h e3
theorem zD4 (h0:ats[0]? = some xt)(hu:P.underlying xt=some (.slice e))(hi:P.info? e=some ti)(hz:ti.zero=some z)(ha:Appd P w ats e ti z y n arr)(hroom:¬ sLen+n<=sCap)
  {old:Array Value} (hold:∀ k,(Builtin.firstCells ti.size sLen (.slice base sLen sCap)).run P { w with drawn:=k } = .ok old { w with drawn:=k }) (hb:(sLen+n)*ti.bytes<=140737488355328) (hb':sLen+n<=140737488355328) (hb0:ti.bytes≠0∨True) :
  (Builtin.append_ ats ty #[.slice base sLen sCap,y]).run P w =
   .ok (.slice (some ⟨w.heap.size,0,none⟩) (sLen+n) (grownCap w (sLen+n) sCap e)) (w.drew.alloc (.cells (old++arr++Builtin.zeroCells z.cells (grownCap w (sLen+n) sCap e - (sLen+n))) e)):=by
 have hwl:∀ n:Nat,n<=140737488355328->IntKind.i64.wrap (n:Int)=n:=fun n hn=>by
  unfold IntKind.wrap;simp [IntKind.signed,IntKind.bits];omega
 have hfit:=growslice_fits (need:=sLen+n) (old:=sCap) (bytes:=ti.bytes) (by omega) (by omega)
 have h63':¬ (9223372036854775807<((sLen:Int)+(n:Int))):=by omega
 have h48':¬ (281474976710656<Builtin.nextslicecap (sLen+n) sCap*ti.bytes):=by omega
 have ho:=hold (w.drawn+1)
 rcases ha.run with⟨yt,d,h1,hd,hk,hl,hf⟩ | ⟨yt,k,k',h1,hd,rfl,hb1,hb2,hn0,hs0,rfl⟩
 ·have hm:(match d with | .int _=>true | _=>false)=false:=by cases d <;> first | rfl | exact absurd rfl (hk _)
  have hf':=hf (w.drawn+1)
  simp only[World.drew_eq] at ho hf'
  simp only[Builtin.append_,h0,h1]
  simp [run_underlying hu,run_underlying hd,sizeOf,run_typeInfo hi,hl,hroom,hm,h63',h48',Question.forced,zeroValue,hz,newRow,grownCap,ho,hf']
 ·simp only[World.drew_eq] at ho
  simp only[Builtin.append_,h0,h1]
  have e1:¬ ((n:Int)<0):=by omega
  have e2':¬ ((281474976710656:Int)<(n:Int)*(ti.bytes:Int)):=by
   have:(n:Int)*(ti.bytes:Int)=((n*ti.bytes:Nat):Int):=by simp
   rw[this];omega
  have e3:¬ (n*ti.size=0):=by
   intro h;rcases Nat.mul_eq_zero.1 h with h | h <;> omega
  simp [run_underlying hu,run_underlying hd,sizeOf,run_typeInfo hi,asInt,asIntOf,hwl n hb1,e1,e2',hroom,hn0,hs0,h63',h48',Question.forced,zeroValue,hz,newRow,grownCap,ho]
  exact fun h=>absurd h e3
end runs
theorem zHB (z:Value)(n:Nat):VRels μ (zA9 z n) (Builtin.zeroCells z.cells n).toList:=zPU μ z n
theorem zGK {c:Call}{x y:Operand}{xt e:TypeId}{ti:TypeInfo}{z yv:Value}{old new:List AV}{n:Nat}{arr:Array Value}(ho:o.op = .call c)(hc:c.callee = .builtin .append)(hargs:c.args.toList=[x,y])
  (h0:c.argTypes[0]? = some xt) (hu:P.underlying xt=some (.slice e)) (hi:P.info? e=some ti) (hz:ti.zero=some z) (hsz:¬ (ti.size=0∨z.cells.size≠ti.size))
  (R:RelOn Γ P D μ M.get w) (hfr:M.size<M'.size->μ M.size=none) (Hx:VRel μ (zA5 t x) (a.eval x)) (hyv:a.eval y=yv)
  (hA:n≠0->n*ti.bytes<=140737488355328->n<=140737488355328->Appd P w c.argTypes e ti z yv n arr) (hA0:n=0->new=[]/\(∃ yt d,c.argTypes[1]? = some yt/\P.underlying yt=some d/\((∀ k,d ≠ .int k)/\(Builtin.lenOf yv).run P w = .ok 0 w/\(∀ k,(Builtin.firstCells ti.size 0 yv).run P { w with drawn:=k } = .ok #[] { w with drawn:=k })∨(∃ k k',d = .int k/\yv = .int k' 0))))
  (hnew:VRels μ new arr.toList) (hold:cellsOf M (zA5 t x)=some old) (hD:∀ i∈rowsOf (zA5 t x),D i) (hW:∀ i∈rowsOf (zA5 t x),W i)
  (h:zBF M (zA5 t x) old new n ti.size ti.bytes=some (r,M')):zAN Γ P o W D a μ M w r M':=by
 simp only[not_or,Decidable.not_not] at hsz
 obtain⟨hs0,hzs⟩:=hsz
 obtain⟨consts,hrun⟩:=zBY (P:=P) ho hc a.eval
 have hrun':∀ v w',(Builtin.append_ c.argTypes o.type #[a.eval x,yv]).run P w = .ok v w'->(execOp a.eval o).run P w = .ok (.value v) w':=fun v w' hb=>by
  rw[hrun,zc4 hargs]
  simp only[builtin,List.map_toArray,List.map_cons,List.map_nil,hyv]
  simp [hb]
 unfold zBF at h
 generalize hxv:a.eval x=v at Hx hrun'
 split at h
 ·-- nothing is appended
  rename_i hn
  have hn:=Nat.eq_of_beq_eq_true hn
  subst hn
  obtain⟨_,yt,d,h1,hd,hy⟩:=hA0 rfl
  have hroom0:∀ base sLen sCap,sLen<=sCap->(Builtin.append_ c.argTypes o.type #[.slice base sLen sCap,yv]).run P w = .ok (.slice base sLen sCap) w:=fun base sLen sCap hle=>by
   rcases hy with⟨hk,hl,hf⟩ | ⟨k,k',rfl,rfl⟩
   ·have hm:(match d with | .int _=>true | _=>false)=false:=by cases d <;> first | rfl | exact absurd rfl (hk _)
    have:=hf w.drawn
    simp only[Builtin.append_,h0,h1]
    simp [run_underlying hu,run_underlying hd,sizeOf,run_typeInfo hi,hl,hle,hm]
    cases base <;> simp [this,storeCells]
   ·have hw0:IntKind.i64.wrap 0=0:=rfl
    simp only[Builtin.append_,h0,h1]
    simp [run_underlying hu,run_underlying hd,sizeOf,run_typeInfo hi,asInt,asIntOf,hw0,hle]
    cases base <;> simp [storeCells]
  split at h
  ·rename_i hx
   cases h
   rw[hx] at Hx;have:=zCS Hx;subst this
   exact .val R (.sc _) (hrun' _ _ (hroom0 none 0 0 (Nat.le_refl _)))
  ·rename_i id off len cap st' hx
   cases h
   rw[hx] at Hx
   cases Hx with
   | sl hp hcap =>
    refine .val R (.sl hp hcap) (hrun' _ _ (hroom0 _ _ _ ?_))
    cases cap with
    | none=>exact hcap.1
    | some c=>exact hcap.2.1
   | sl0 hp hcap=>exact .val R (.sl0 hp hcap) (hrun' _ _ (hroom0 _ _ _ (Nat.le_refl _)))
  ·rename_i cs len cap st' hx
   cases h
   rw[hx] at Hx
   obtain⟨A,c',rfl,hlc,_⟩:=zKQ R Hx
   exact .val R Hx (hrun' _ _ (hroom0 _ _ _ hlc))
  ·cases h
 ·rename_i hn
  have hn0:n≠0:=fun e=>by subst e;simp at hn
  split at h
  ·rename_i hone
   simp only[Bool.and_eq_true] at hone
   obtain⟨hone,hnl⟩:=hone
   have hnl:=Nat.eq_of_beq_eq_true hnl
   have hal:=hnew.length
   split at h
   ·-- a slice
    rename_i id off len cap st' hx
    rw[hx] at Hx hold hD hW
    split at h
    ·rename_i hb
     simp only[Bool.and_eq_true] at hb
     obtain⟨⟨hb1,hb2⟩,hb3⟩:=hb
     have hb1:=Nat.le_of_ble_eq_true hb1
     have hb2:=Nat.le_of_ble_eq_true hb2
     have hb3:=Nat.eq_of_beq_eq_true hb3
     subst hb3
     have hA:=hA hn0 (by rw[Nat.add_mul] at hb1;omega) (by omega)
     split at h
     ·rename_i str cs hg
      -- the place,and the old cells
      have holdl:old.length=len*ti.size:=by
       simp only[cellsOf,zC4 hg] at hold
       split at hold
       ·rename_i hbb;cases hold;exact zER _ _ _ (Nat.le_of_ble_eq_true hbb)
       ·cases hold
      obtain⟨hlen,oarr,hof,hor⟩:=zDK (P:=P) (w:=w) (size:=ti.size) (n:=len) Hx hold rfl holdl R hD
      have hDid:=hD id (by simp [rowsOf])
      have hWid:=hW id (by simp [rowsOf])
      have holdeq:old=slot cs off (len*ti.size):=by
       simp only[cellsOf,zC4 hg] at hold
       split at hold
       ·cases hold;rfl
       ·cases hold
      have holdb:off+len*ti.size<=cs.length:=by
       simp only[cellsOf,zC4 hg] at hold
       split at hold
       ·rename_i hbb;exact Nat.le_of_ble_eq_true hbb
       ·cases hold
      split at h
      ·-- in place
       rename_i hin
       split at h
       ·rename_i hfit
        have hfit:=Nat.le_of_ble_eq_true hfit
        split at h
        ·rename_i M1 hput
         cases h
         -- the concrete capacity has room
         cases Hx with
         | sl hp hcap =>
          rename_i c' p
          obtain⟨cc,ee,fz,h1,h2,h3,h4,h5,h6,h7⟩:=row_of R hDid hp hg
          have hroom:len+n<=c':=by
           cases cap with
           | some cx=>obtain⟨rfl,_,_⟩:=hcap;exact Nat.le_of_ble_eq_true hin
           | none =>
            obtain⟨_,_,h8⟩:=hcap
            have:(len+n)*ti.size<=c'*ti.size:=by omega
            exact Nat.le_of_mul_le_mul_right this (by omega)
          have hr:=zH6 (ty:=o.type) (base:=some ⟨p.b,p.o+off,none⟩) h0 hu hi hz hA hroom
          rw[Nat.add_mul] at hfit
          obtain⟨w',hw',hres⟩:=Res.cells (W:=W) (off:=off+len*ti.size) (r:=.sl id off (len+n) cap ti.size) (v:=.slice (some ⟨p.b,p.o+off,none⟩) (len+n) c') R hp hDid hWid hg hnew hone (by omega) hput
           (.sl hp (by cases cap with
            | some cx=>exact⟨hcap.1,hroom,hcap.2.2⟩
            | none=>exact⟨hroom,hcap.2.1,hcap.2.2⟩))
          refine⟨_,w',μ,.inl (hrun' _ _ ?_),hres⟩
          rw[hr]
          simp only[addr_add]
          rw[show p.o+off+len*ti.size=p.o+(off+len*ti.size) by omega,hw']
          rfl
         | sl0 hp hcap =>
          obtain⟨cc,ee,fz,h1,h2,h3,h4,h5,h6,h7⟩:=row_of R hDid hp hg
          exfalso
          cases cap with
          | some cx =>
           have hz0:cx=0:=hcap
           rw[hz0] at hin
           have:=Nat.le_of_ble_eq_true hin
           omega
          | none =>
           have hL0:=hcap
           simp only[cap0] at hL0
           have h9:0<n*ti.size:=Nat.mul_pos (by omega) (by omega)
           simp only[Nat.zero_add] at hfit
           omega
        ·cases h
       ·cases h
      ·rename_i hin
       split at h
       ·-- an exact capacity,that is too small
        rename_i cx
        split at h
        ·rename_i id' M1 hnw
         cases h
         have hcx:¬ len+n<=cx:=fun hle=>by
          have:Nat.ble (len+n) cx=true:=Nat.ble_eq_true_of_le hle
          simp [this] at hin
         have fin:∀ A,v = .slice A len cx->zAN Γ P o W D a μ M w (.sl id' 0 (len+n) none ti.size) M':=fun A hv=>by
          subst hv
          have hr:=zD4 (ty:=o.type) (base:=A) h0 hu hi hz hA hcx (old:=oarr) (fun k=>by simpa using hof k) hb1 hb2 (.inr trivial)
          have hge:=grownCap_ge w (len+n) cx e
          have hall:=(hor.append hnew)
          have hol:=hor.length
          refine zCQ (str:=false) (cs:=old++new) (c:=oarr++arr++Builtin.zeroCells z.cells (grownCap w (len+n) cx e - (len+n))) (e:=e) (c':=grownCap w (len+n) cx e) (w':=w.drew.alloc (.cells (oarr++arr++Builtin.zeroCells z.cells (grownCap w (len+n) cx e - (len+n))) e)) hnw (hfr (by have:=(Mem.new_spec hnw).2.1;omega)) R ?_ ?_ (0,0) (fun _ _ h=>by simp at h) (fun _=>rfl) ?_ rfl rfl rfl rfl (hrun' _ _ hr)
          ·simp only[Array.toList_append]
           rw[List.take_left' (by simp at hol hal ⊢;omega)]
           exact hall
          ·simp at hol hal ⊢;omega
          ·have hzl:(Builtin.zeroCells z.cells (grownCap w (len+n) cx e - (len+n))).size=(grownCap w (len+n) cx e - (len+n))*ti.size:=by simp [Builtin.zeroCells,hzs]
           have e4:(len+n)*ti.size+(grownCap w (len+n) cx e - (len+n))*ti.size=grownCap w (len+n) cx e*ti.size:=by rw[<- Nat.add_mul];congr 1;omega
           exact zE0d
         cases Hx with
         | sl hp hcap=>obtain⟨rfl,_,_⟩:=hcap;exact fin _ rfl
         | sl0 hp hcap=>have:cx=0:=hcap;subst this;exact fin _ rfl
        ·cases h
       ·-- the row dies
        split at h
        ·rename_i M1 hput
         split at h
         ·rename_i id' M2 hnw
          cases h
          have hnfit:¬ off+(len+n)*ti.size<=cs.length:=fun hle=>by
           have:Nat.ble (off+(len+n)*ti.size) cs.length=true:=Nat.ble_eq_true_of_le hle
           simp [this] at hin
          have hlive:live M.get id:=zCH hg rfl
          have hall:=(hor.append hnew)
          have hol:=hor.length
          have hid':id'=M.size:=by
           have:=(Mem.put_spec hput).2.1
           rw[<- this];exact(Mem.new_spec hnw).1
          subst hid'
          have hle:=fun (p:Pl)=>Inj.le_upd (μ:=μ) (i:=M.size) (p:=p) (hfr (by have:=(Mem.new_spec hnw).2.1;have:=(Mem.put_spec hput).2.1;omega))
          -- the concrete slice
          have key:∃ p c' A,μ id=some p/\v = .slice (some A) len c'/\((A=⟨p.b,p.o+off,none⟩/\len<=c'/\p.o+off+c'*ti.size<=p.sz)∨c'=0):=by
           cases Hx with
           | sl hp hcap=>exact⟨_,_,_,hp,rfl,.inl ⟨rfl,hcap.1,hcap.2.1⟩⟩
           | sl0 hp hcap=>exact⟨_,_,_,hp,rfl,.inr rfl⟩
          obtain⟨p,c',A,hp,rfl,hA'⟩:=key
          obtain⟨cc,ee,fz,h1,h2,h3,h4,h5,h6,h7⟩:=row_of R hDid hp hg
          have hbl:p.b<w.heap.size:=(R.ok id p hDid hp).1
          by_cases hroom:len+n<=c'
          ·-- the block has room
           rcases hA' with⟨rfl,hlc,hsz⟩ | rfl
           ·have hr:=zH6 (ty:=o.type) (base:=some ⟨p.b,p.o+off,none⟩) h0 hu hi hz hA hroom
            have hm:=Nat.mul_le_mul_right ti.size hroom
            rw[Nat.add_mul] at hm
            have hst:=zG5 (P:=P) arr.toList w cc (p.o+off+len*ti.size) 0 h1 (by simp at hal ⊢;omega) (fun j k1 k2=>h6 j (by simp at hal k2;omega)) (zJD hnew hone)
            refine⟨_,_,_,.inl (hrun' _ _ (by rw[hr];simp only[addr_add];rw[hst];rfl)),Res.move hput hnw (hfr (by have:=(Mem.new_spec hnw).2.1;have:=(Mem.put_spec hput).2.1;omega)) hp hDid hWid R hlive ⟨p.b,p.o+off,(old++new).length,p.sz⟩ (.inl ⟨rfl,zOI ..⟩)
             (fun k _ hk=>zKW w hk _ _ _) rfl rfl rfl ?_ (.sl (Inj.upd_same ..) ?_)⟩
            ·refine⟨_,ee,fz,zQ5 w hbl _ _ _,by rw[zNX _ _ _ (by simp at hal ⊢;omega)];exact h2,rfl, ?_, ?_,h6,h7⟩
             ·simp only[List.length_append,holdl,hnl];omega
             ·refine VRels.mono (hle _) ?_
              have e1:((over cc (p.o+off+len*ti.size+0) arr.toList).toList.drop (p.o+off)).take (old++new).length=(cc.extract (p.o+off) (p.o+off+len*ti.size)).toList++arr.toList:=by
               rw[Array.toList_extract,List.extract_eq_take_drop,show p.o+off+len*ti.size - (p.o+off)=len*ti.size by omega]
               unfold over
               have hcc:cc.toList.length=cc.size:=by simp
               have hal':arr.toList.length=n*ti.size:=by omega
               apply List.ext_getElem?
               intro i
               simp only[List.getElem?_take,List.getElem?_drop,List.getElem?_append,List.length_append,List.length_take,List.length_drop,hcc,holdl,hnl,hal',Nat.add_zero]
               by_cases i1:i<len*ti.size
               ·rw[if_pos (by omega),if_pos (by omega),if_pos (by omega),if_pos (by omega),if_pos i1]
                rw[if_pos (by omega)]
               ·by_cases i2:i<len*ti.size+n*ti.size
                ·rw[if_pos i2,if_pos (by omega),if_neg (by omega),if_neg (by omega)]
                 congr 1;omega
                ·rw[if_neg i2,if_neg (by omega),List.getElem?_eq_none (by rw[hal'];omega)]
              rw[e1,holdeq]
              exact(zML h5 h3 holdb).append hnew
            ·exact⟨hroom,by simpa using hsz,by simp only[List.length_append,holdl,hnl,Nat.zero_add];rw[<- Nat.add_mul];exact Nat.mul_le_mul_right _ hroom⟩
           ·omega
          ·-- a new block
           have hr:=zD4 (ty:=o.type) (base:=some A) h0 hu hi hz hA hroom (old:=oarr) (fun k=>by simpa using hof k) hb1 hb2 (.inr trivial)
           have hge:=grownCap_ge w (len+n) c' e
           have hzl:(Builtin.zeroCells z.cells (grownCap w (len+n) c' e - (len+n))).size=(grownCap w (len+n) c' e - (len+n))*ti.size:=by simp [Builtin.zeroCells,hzs]
           have e4:(len+n)*ti.size+(grownCap w (len+n) c' e - (len+n))*ti.size=grownCap w (len+n) c' e*ti.size:=by rw[<- Nat.add_mul];congr 1;omega
           have e5:(len+n)*ti.size=len*ti.size+n*ti.size:=Nat.add_mul ..
           refine⟨_,_,_,.inl (hrun' _ _ hr),Res.move hput hnw (hfr (by have:=(Mem.new_spec hnw).2.1;have:=(Mem.put_spec hput).2.1;omega)) hp hDid hWid R hlive ⟨w.heap.size,0,(old++new).length,(oarr++arr++Builtin.zeroCells z.cells (grownCap w (len+n) c' e - (len+n))).size⟩ (.inr ⟨rfl,by simp⟩)
            (fun k hk _=>by rw[World.alloc,Array.getElem?_push,if_neg (by simp;omega)];rfl) rfl rfl rfl ?_ ?_⟩
           ·refine⟨_,e,(0,0),heap_alloc_new w.drew _,rfl,rfl, ?_, ?_,fun _ _ h=>by simp at h,fun _=>rfl⟩
            ·simp at hol hal ⊢;omega
            ·refine VRels.mono (hle _) ?_
             simp only[Array.toList_append,List.drop_zero]
             rw[List.take_left' (by simp at hol hal ⊢;omega)]
             exact hall
           ·refine .sl (p:=⟨w.heap.size,0,(old++new).length,(oarr++arr++Builtin.zeroCells z.cells (grownCap w (len+n) c' e - (len+n))).size⟩) (Inj.upd_same ..) ⟨hge, ?_, ?_⟩
            ·simp only[Array.size_append,hzl,Nat.zero_add];simp at hol hal;omega
            ·simp only[List.length_append,Nat.zero_add];omega
         ·cases h
        ·cases h
     ·cases h
    ·cases h
   ·-- a frozen slice of an exact capacity,that is too small
    rename_i cs len cx st' hx
    rw[hx] at Hx hold hD
    split at h
    ·rename_i hb
     simp only[Bool.and_eq_true] at hb
     obtain⟨⟨⟨hb1,hb2⟩,hb3⟩,hb4⟩:=hb
     have hb1:=Nat.le_of_ble_eq_true hb1
     have hb2:=Nat.le_of_ble_eq_true hb2
     have hb3:=Nat.eq_of_beq_eq_true hb3
     have hb4:=(zAJ _ _).1 hb4
     subst hb3
     have hA:=hA hn0 (by rw[Nat.add_mul] at hb1;omega) (by omega)
     split at h
     ·rename_i id' M1 hnw
      cases h
      obtain⟨A,c',hv,hlc,hcap,hcl,_⟩:=zKQ R Hx
      have hcc:=hcap cx rfl
      subst hcc
      have holdl:old.length=len*ti.size:=by
       simp only[cellsOf,Option.some.injEq] at hold
       rw[<- hold];exact hcl
      obtain⟨hlen,oarr,hof,hor⟩:=zDK (P:=P) (w:=w) (size:=ti.size) (n:=len) Hx hold rfl holdl R hD
      subst hv
      have hr:=zD4 (ty:=o.type) (base:=some A) h0 hu hi hz hA (show ¬ len+n<=c' by omega) (old:=oarr) (fun k=>by simpa using hof k) hb1 hb2 (.inr trivial)
      have hge:=grownCap_ge w (len+n) c' e
      have hall:=(hor.append hnew)
      have hol:=hor.length
      refine zCQ (str:=false) (cs:=old++new) (c:=oarr++arr++Builtin.zeroCells z.cells (grownCap w (len+n) c' e - (len+n))) (e:=e) (c':=grownCap w (len+n) c' e) (w':=w.drew.alloc (.cells (oarr++arr++Builtin.zeroCells z.cells (grownCap w (len+n) c' e - (len+n))) e)) hnw (hfr (by have:=(Mem.new_spec hnw).2.1;omega)) R ?_ ?_ (0,0) (fun _ _ h=>by simp at h) (fun _=>rfl) ?_ rfl rfl rfl rfl (hrun' _ _ hr)
      ·simp only[Array.toList_append]
       rw[List.take_left' (by simp at hol hal ⊢;omega)]
       exact hall
      ·simp at hol hal ⊢;omega
      ·have hzl:(Builtin.zeroCells z.cells (grownCap w (len+n) c' e - (len+n))).size=(grownCap w (len+n) c' e - (len+n))*ti.size:=by simp [Builtin.zeroCells,hzs]
       have e4:(len+n)*ti.size+(grownCap w (len+n) c' e - (len+n))*ti.size=grownCap w (len+n) c' e*ti.size:=by rw[<- Nat.add_mul];congr 1;omega
       exact zE0d
     ·cases h
    ·cases h
   ·-- nil
    rename_i hx
    rw[hx] at Hx hold
    have:=zCS Hx;subst this
    split at h
    ·rename_i hb
     simp only[Bool.and_eq_true] at hb
     have hb1:=Nat.le_of_ble_eq_true hb.1
     have hb2:=Nat.le_of_ble_eq_true hb.2
     have hA:=hA hn0 hb1 hb2
     split at h
     ·rename_i id' M1 hnw
      cases h
      have hr:=zD4 (ty:=o.type) (sLen:=0) (sCap:=0) (base:=none) h0 hu hi hz hA (by omega) (old:=#[]) (fun k=>rfl) (by simpa using hb1) (by simpa using hb2) (.inr trivial)
      rw[Nat.zero_add] at hr
      have hge:=grownCap_ge w n 0 e
      have hzl:(Builtin.zeroCells z.cells (grownCap w n 0 e - n)).size=(grownCap w n 0 e - n)*ti.size:=by simp [Builtin.zeroCells,hzs]
      have e4:n*ti.size+(grownCap w n 0 e - n)*ti.size=grownCap w n 0 e*ti.size:=by rw[<- Nat.add_mul];congr 1;omega
      refine zCQ (str:=false) (cs:=new) (c:=#[]++arr++Builtin.zeroCells z.cells (grownCap w n 0 e - n)) (e:=e) (c':=grownCap w n 0 e) (w':=w.drew.alloc (.cells (#[]++arr++Builtin.zeroCells z.cells (grownCap w n 0 e - n)) e)) hnw (hfr (by have:=(Mem.new_spec hnw).2.1;omega)) R ?_ ?_ (0,0) (fun _ _ h=>by simp at h) (fun _=>rfl) ?_ rfl rfl rfl rfl (hrun' _ _ hr)
      ·simp only[Array.toList_append]
       rw[List.nil_append,List.take_left' (by omega)]
       exact hnew
      ·simp at hal ⊢;omega
      ·refine⟨hge, ?_, ?_⟩
       ·simp only[Array.size_append,hzl,Nat.zero_add];simp at hal ⊢;omega
       ·simp only[Nat.zero_add];omega
     ·cases h
    ·cases h
   ·cases h
  ·cases h
theorem zHX {x:AV}{v:Value}{cs:List AV}(H:VRel μ x v)(hc:cellsOf M x=some cs)(hn:lenA x=some 0):cs=[]:=by
 unfold cellsOf at hc
 split at hc
 ·cases hc;rfl
 ·rename_i s
  simp [lenA] at hn
  cases hc
  subst hn;rfl
 ·simp [lenA] at hn
  subst hn
  split at hc
  ·split at hc
   ·cases hc;simp [slot]
   ·cases hc
  ·cases hc
 ·simp [lenA] at hn
  subst hn
  cases hc
  cases H with
  | pv h1 h2 h3 h4 h5 h6=>exact List.eq_nil_of_length_eq_zero (by rw[h4,Nat.zero_mul])
  | pv0 _=>rfl
 ·cases hc
theorem zgV {c:Call}{x y:Operand}{xt yt e:TypeId}{d:TypeDesc}{ti:TypeInfo}{z:Value}(ho:o.op = .call c)(hc:c.callee = .builtin .append)(hargs:c.args.toList=[x,y])
  (h0:c.argTypes[0]? = some xt) (hu:P.underlying xt=some (.slice e)) (h1:c.argTypes[1]? = some yt) (hd:P.underlying yt=some d) (hk:∀ k,d ≠ .int k) (hi:P.info? e=some ti) (hz:ti.zero=some z) (hsz:¬ (ti.size=0∨z.cells.size≠ti.size))
  (R:RelOn Γ P D μ M.get w) (hfr:M.size<M'.size->μ M.size=none) (Hx:VRel μ (zA5 t x) (a.eval x)) (Hy:VRel μ (zA5 t y) (a.eval y))
  (hD:∀ i∈rowsOf (zA5 t x),D i) (hDy:∀ i∈rowsOf (zA5 t y),D i) (hW:∀ i∈rowsOf (zA5 t x),W i)
  (h:zA6 P call t M (.app e ti.size ti.bytes z x y)=some (r,M')):zAN Γ P o W D a μ M w r M':=by
 simp only[zA6] at h
 split at h
 ·rename_i new n old hnew hn hold
  have hl:new.length=n*ti.size:=by
   by_cases hl:new.length=n*ti.size
   ·exact hl
   ·exfalso
    by_cases hn0:n=0
    ·subst hn0
     rw[zHX Hy hnew hn] at hl
     simp at hl
    ·unfold zBF at h
     have e1:Nat.beq n 0=false:=by
      cases hb:Nat.beq n 0 with
      | false=>rfl
      | true=>exact absurd (Nat.eq_of_beq_eq_true hb) hn0
     have e2:(new.all oneA&&Nat.beq new.length (n*ti.size))=false:=by
      cases hb:Nat.beq new.length (n*ti.size) with
      | false=>simp
      | true=>exact absurd (Nat.eq_of_beq_eq_true hb) hl
     simp [e1,e2] at h
  obtain⟨hlen,arr,hf,hr⟩:=zDK (P:=P) (w:=w) (size:=ti.size) (n:=n) Hy hnew hn hl R hDy
  refine zGK ho hc hargs h0 hu hi hz hsz R hfr Hx rfl (fun _ _ _=>⟨.inl ⟨yt,d,h1,hd,hk,hlen,hf⟩⟩) (fun e0=>?_) hr hold hD hW h
  subst e0
  have e1:=zHX Hy hnew hn
  subst e1
  refine⟨rfl,yt,d,h1,hd,.inl ⟨hk,hlen,fun k=>?_⟩⟩
  have:arr = #[]:=by
   have:=hr.length
   simp at this;exact this
  rw[<- this];exact hf k
 ·cases h
theorem zdS {c:Call}{x y:Operand}{xt yt e:TypeId}{k:IntKind}{ti:TypeInfo}{z:Value}(ho:o.op = .call c)(hc:c.callee = .builtin .append)(hargs:c.args.toList=[x,y])
  (h0:c.argTypes[0]? = some xt) (hu:P.underlying xt=some (.slice e)) (h1:c.argTypes[1]? = some yt) (hd:P.underlying yt=some (.int k)) (hi:P.info? e=some ti) (hz:ti.zero=some z) (hsz:¬ (ti.size=0∨z.cells.size≠ti.size))
  (R:RelOn Γ P D μ M.get w) (hfr:M.size<M'.size->μ M.size=none) (Hx:VRel μ (zA5 t x) (a.eval x)) (Hy:VRel μ (zA5 t y) (a.eval y))
  (hD:∀ i∈rowsOf (zA5 t x),D i) (hW:∀ i∈rowsOf (zA5 t x),W i)
  (h:zA6 P call t M (.appz e ti.size ti.bytes z x y)=some (r,M')):zAN Γ P o W D a μ M w r M':=by
 simp only[zA6] at h
 split at h
 ·rename_i n old hn hold
  obtain⟨k',hyv⟩:=zDC Hy hn
  have hs0:ti.size≠0:=fun e=>hsz (.inl e)
  refine zGK (arr:=Builtin.zeroCells z.cells n) ho hc hargs h0 hu hi hz hsz R hfr Hx hyv (fun hn0 hb1 hb2=>⟨.inr ⟨yt,k,k',h1,hd,rfl,hb2,hb1,hn0,hs0,rfl⟩⟩) (fun e0=>?_) (zHB z n) hold hD hW h
  subst e0
  exact⟨rfl,yt,.int k,h1,hd,.inr ⟨k,k',rfl,rfl⟩⟩
 ·cases h
theorem zh8 {c:Call}{x:Operand}{xt e:TypeId}(ho:o.op = .call c)(hc:c.callee = .builtin .len)(hargs:c.args.toList=[x])(h0:c.argTypes[0]? = some xt)(hu:P.underlying xt=some (.slice e))
  (R:RelOn Γ P D μ M.get w) (Hx:VRel μ (zA5 t x) (a.eval x)) (h:zA6 P call t M (.len x)=some (r,M')):zAN Γ P o W D a μ M w r M':=by
 obtain⟨consts,hrun⟩:=zBY (P:=P) ho hc a.eval
 have fin:∀ A n cp,a.eval x = .slice A n cp->zAN Γ P o W D a μ M w (.sc (goInt n)) M:=fun A n cp hv=>by
  refine .val R (.sc _) ?_
  rw[hrun,zTQ hargs]
  simp [builtin,hv,Builtin.len_,h0,run_underlying hu]
 simp only[zA6] at h
 generalize hv:a.eval x=v at Hx
 split at h
 ·rename_i n cp hx;cases h
  rw[hx] at Hx
  exact fin none n cp (by rw[hv,zCS Hx])
 ·rename_i hx;cases h
  rw[hx] at Hx
  cases Hx with
  | sl hp hcap=>exact fin _ _ _ hv
  | sl0 hp hcap=>exact fin _ _ _ hv
 ·rename_i hx;cases h
  rw[hx] at Hx
  obtain⟨A,c',rfl,_⟩:=zKQ R Hx
  exact fin _ _ _ hv
 ·cases h
theorem zgZ {c:Call}{x:Operand}{xt e:TypeId}(ho:o.op = .call c)(hc:c.callee = .builtin .cap)(hargs:c.args.toList=[x])(h0:c.argTypes[0]? = some xt)(hu:P.underlying xt=some (.slice e))
  (R:RelOn Γ P D μ M.get w) (Hx:VRel μ (zA5 t x) (a.eval x)) (h:zA6 P call t M (.cap x)=some (r,M')):zAN Γ P o W D a μ M w r M':=by
 obtain⟨consts,hrun⟩:=zBY (P:=P) ho hc a.eval
 have fin:∀ A n cp,a.eval x = .slice A n cp->zAN Γ P o W D a μ M w (.sc (goInt cp)) M:=fun A n cp hv=>by
  refine .val R (.sc _) ?_
  rw[hrun,zTQ hargs]
  simp [builtin,hv,Builtin.cap_,h0,run_underlying hu]
 simp only[zA6] at h
 generalize hv:a.eval x=v at Hx
 split at h
 ·rename_i n cp hx;cases h
  rw[hx] at Hx
  exact fin none n cp (by rw[hv,zCS Hx])
 ·rename_i hx;cases h
  rw[hx] at Hx
  cases Hx with
  | sl hp hcap=>obtain⟨rfl,_,_⟩:=hcap;exact fin _ _ _ hv
  | sl0 hp hcap =>
   have h0:=hcap
   simp only[cap0] at h0
   subst h0
   exact fin _ _ _ hv
 ·rename_i cx st hx;cases h
  rw[hx] at Hx
  obtain⟨A,c',rfl,_,hcap,_⟩:=zKQ R Hx
  have:=hcap cx rfl;subst this
  exact fin _ _ _ hv
 ·cases h
theorem zSL {x:AV}{v:Value}{cs:List AV}{n m size:Nat}(H:VRel μ x v)(hc:zE9 M n size x=some cs)(hm:lenA x=some m)(hn:n<=m)(R:RelOn Γ P D μ M.get w)(hD:∀ i∈rowsOf x,D i) :
  (Builtin.lenOf v).run P w = .ok m w /\ ∃ arr:Array Value,(Builtin.firstCells size n v).run P w = .ok arr w/\VRels μ cs arr.toList:=by
 cases H with
 | sc v =>
  cases v <;> simp [zE9] at hc
  ·rename_i s
   simp [lenA] at hm;subst hm
   split at hc
   case h_2=>cases hc
   case h_1 =>
   cases hc
   refine⟨rfl,(s.extract 0 n).data.map (fun b => .int .u8 b.toNat),rfl, ?_⟩
   rw[ByteArray.data_extract,Array.toList_map,Array.toList_extract,List.extract_eq_take_drop]
   simp only[Nat.sub_zero,List.drop_zero,<- List.map_take]
   rw[show (((s.data.toList.take n).map fun b=>AV.sc (.int .u8 b.toNat)))=((s.data.toList.take n).map fun b=>Value.int .u8 b.toNat).map .sc by simp only[List.map_map,Function.comp_def]]
   exact VRels.scs _
  ·rename_i A l c
   cases A with
   | some _=>simp at hc
   | none =>
    simp [lenA] at hm;subst hm
    simp only at hc
    split at hc
    ·cases hc;exact⟨rfl,#[],rfl,.nil⟩
    ·cases hc
 | sl hp hcap =>
  simp only[zE9] at hc
  simp [lenA] at hm;subst hm
  split at hc
  ·rename_i row hg
   split at hc
   ·rename_i hb
    simp only[Bool.and_eq_true] at hb
    have hb1:=Nat.eq_of_beq_eq_true hb.1.1
    subst hb1
    have hb:=Nat.le_of_ble_eq_true hb.2
    cases hc
    obtain⟨c,e,fz,h1,h2,h3,h4,h5⟩:=zMJ R (hD _ (by simp [rowsOf])) hp hg
    refine⟨rfl,_, ?_,zML h5 h3 hb⟩
    simp only[Builtin.firstCells]
    exact run_loadCells h1 _ _ (by omega)
   ·cases hc
  ·cases hc
 | sl0 hp hcap =>
  simp only[zE9] at hc
  simp [lenA] at hm;subst hm
  have hn0:n=0:=by omega
  subst hn0
  split at hc
  ·split at hc
   ·cases hc
    refine⟨rfl,#[], ?_,by simpa [slot] using VRels.nil⟩
    simp [Builtin.firstCells,loadCells,loadCellsFrom]
   ·cases hc
  ·cases hc
 | pv h1 h2 h3 h4 h5 h6 =>
  rename_i cs' c0 e0 r0 len' st' b' o' c' cap'
  simp only[zE9] at hc
  simp [lenA] at hm;subst hm
  split at hc
  ·rename_i hb
   simp only[Bool.and_eq_true] at hb
   have hb1:=Nat.eq_of_beq_eq_true hb.1
   subst hb1
   cases hc
   obtain⟨c,e,fz,k1,k2,k3⟩:=zGU R h1 h2 h3
   have hle:n*size<=len'*size:=Nat.mul_le_mul_right _ hn
   refine⟨rfl,c.extract o' (o'+n*size), ?_, ?_⟩
   ·simp only[Builtin.firstCells]
    exact run_loadCells k1 _ _ (by omega)
   ·rw[Array.toList_extract,List.extract_eq_take_drop,Nat.add_sub_cancel_left]
    have:=k3.take (n*size)
    rw[List.take_take,Nat.min_eq_left (by omega)] at this
    exact this
  ·cases hc
 | pv0 h1 =>
  simp only[zE9] at hc
  simp [lenA] at hm;subst hm
  have hn0:n=0:=by omega
  subst hn0
  split at hc
  ·cases hc
   refine⟨rfl,#[], ?_,by simpa using VRels.nil⟩
   simp [Builtin.firstCells,loadCells,loadCellsFrom]
  ·cases hc
 | _=>simp [zE9] at hc
theorem zh1 {c:Call}{x y:Operand}{xt e:TypeId}{s:Nat}(ho:o.op = .call c)(hc:c.callee = .builtin .copy)(hargs:c.args.toList=[x,y])(h0:c.argTypes[0]? = some xt)(hu:P.underlying xt=some (.slice e))(hs:szOf P e=some s)
  (R:RelOn Γ P D μ M.get w) (Hx:VRel μ (zA5 t x) (a.eval x)) (Hy:VRel μ (zA5 t y) (a.eval y))
  (hD:∀ i∈rowsOf (zA5 t x),D i) (hDy:∀ i∈rowsOf (zA5 t y),D i) (hW:∀ i∈rowsOf (zA5 t x),W i)
  (h:zA6 P call t M (.cpy s x y)=some (r,M')):zAN Γ P o W D a μ M w r M':=by
 obtain⟨consts,hrun⟩:=zBY (P:=P) ho hc a.eval
 have hrun':∀ v w',(Builtin.copy_ c.argTypes o.type #[a.eval x,a.eval y]).run P w = .ok v w'->(execOp a.eval o).run P w = .ok (.value v) w':=fun v w' hb=>by
  rw[hrun,zc4 hargs]
  simp only[builtin,List.map_toArray,List.map_cons,List.map_nil]
  simp [hb]
 simp only[zA6] at h
 split at h
 ·rename_i lx ly hlx hly
  split at h
  ·rename_i new hnew
   have hmin:Nat.min ly lx=min ly lx:=rfl
   obtain⟨hl,arr,hf,hr⟩:=zSL (P:=P) (w:=w) Hy hnew hly (Nat.min_le_left ly lx) R hDy
   have hal:=hr.length
   generalize hxv:a.eval x=v at Hx hrun'
   split at h
   ·rename_i hx
    cases h
    rw[hx] at Hx hlx
    have:=zCS Hx;subst this
    simp [lenA] at hlx;subst hlx
    refine .val R (.sc _) (hrun' _ _ ?_)
    have hf0:(Builtin.firstCells s 0 (a.eval y)).run P w = .ok arr w:=by simpa using hf
    simp only[Builtin.copy_,h0]
    simp [run_underlying hu,hl,run_sizeOf hs,hf0]
   ·rename_i id off len cap st' hx
    rw[hx] at Hx hlx hD hW
    simp [lenA] at hlx;subst hlx
    split at h
    ·rename_i str cs hg
     split at h
     ·rename_i hb
      simp only[Bool.and_eq_true] at hb
      have hb1:=Nat.le_of_ble_eq_true hb.1
      split at h
      ·rename_i M1 hput
       cases h
       cases Hx with
       | sl hp hcap =>
        rename_i c' p
        obtain⟨w',hw',hres⟩:=Res.cells (W:=W) (r:=.sc (goInt (Nat.min ly len))) (v:=goInt (Nat.min ly len)) R hp (hD id (by simp [rowsOf])) (hW id (by simp [rowsOf])) hg hr hb.2 hb1 hput (.sc _)
        refine⟨_,w',μ,.inl (hrun' _ _ ?_),hres⟩
        simp only[Builtin.copy_,h0,List.getElem?_toArray,List.getElem?_cons_zero,List.getElem?_cons_succ]
        simp only[Sem.run_bind,run_underlying hu,Result.andThen_ok,hl,run_sizeOf hs,hf,hw',Sem.run_pure,Sem.run_map]
       | sl0 hp hcap =>
        rename_i xx p
        have hn0:new=[]:=by
         have:=hr.length
         have h9:arr.toList.length=0∨True:=.inr trivial
         have hmin0:Nat.min ly 0=0:=Nat.min_zero _
         rw[hmin0] at hnew
         unfold zE9 at hnew
         split at hnew
         ·simpa using hnew.symm
         ·split at hnew
          ·simpa using hnew.symm
          ·cases hnew
         ·split at hnew
          ·split at hnew
           ·simpa [slot] using hnew.symm
           ·cases hnew
          ·cases hnew
         ·split at hnew
          ·simpa using hnew.symm
          ·cases hnew
         ·cases hnew
        subst hn0
        have harr:arr.toList=[]:=List.eq_nil_of_length_eq_zero (by simpa using hal)
        obtain⟨w',hw',hres⟩:=Res.cells (W:=W) (vs:=[]) (r:=.sc (goInt (Nat.min ly 0))) (v:=goInt (Nat.min ly 0)) R hp (hD id (by simp [rowsOf])) (hW id (by simp [rowsOf])) hg .nil hb.2 hb1 hput (.sc _)
        simp only[storeCells,Sem.run_pure,Result.ok.injEq,true_and] at hw'
        subst hw'
        refine⟨_,w,μ,.inl (hrun' _ _ ?_),hres⟩
        simp only[Builtin.copy_,h0,List.getElem?_toArray,List.getElem?_cons_zero,List.getElem?_cons_succ]
        simp only[Sem.run_bind,run_underlying hu,Result.andThen_ok,hl,run_sizeOf hs,hf,harr,storeCells,Sem.run_pure,Sem.run_map]
      ·cases h
     ·cases h
    ·cases h
   ·cases h
  ·cases h
 ·cases h
theorem zh0 {c:Call}{x:Operand}{xt e:TypeId}{s:Nat}{z:Value}(ho:o.op = .call c)(hc:c.callee = .builtin .clear)(hargs:c.args.toList=[x])(h0:c.argTypes[0]? = some xt)(hu:P.underlying xt=some (.slice e))
  (hs:szOf P e=some s) (hz:zeroOf P e=some z) (hsz:¬ (s=0∨z.cells.size≠s)) (R:RelOn Γ P D μ M.get w) (Hx:VRel μ (zA5 t x) (a.eval x))
  (hD:∀ i∈rowsOf (zA5 t x),D i) (hW:∀ i∈rowsOf (zA5 t x),W i)
  (h:zA6 P call t M (.clr s z x)=some (r,M')):zAN Γ P o W D a μ M w r M':=by
 simp only[not_or,Decidable.not_not] at hsz
 obtain⟨hs0,hzs⟩:=hsz
 obtain⟨consts,hrun⟩:=zBY (P:=P) ho hc a.eval
 have hrun':∀ v w',(Builtin.clear_ c.argTypes o.type #[a.eval x]).run P w = .ok v w'->(execOp a.eval o).run P w = .ok (.value v) w':=fun v w' hb=>by
  rw[hrun,zTQ hargs]
  simp only[builtin,List.map_toArray,List.map_cons,List.map_nil]
  simp [hb]
 simp only[zA6] at h
 generalize hxv:a.eval x=v at Hx hrun'
 split at h
 ·rename_i n c' hx
  cases h
  rw[hx] at Hx;have:=zCS Hx;subst this
  refine .val R (.sc _) (hrun' _ _ ?_)
  simp [Builtin.clear_,h0,run_underlying hu]
 ·rename_i id off len cap st' hx
  rw[hx] at Hx hD hW
  split at h
  ·rename_i hl
   have hl:=Nat.eq_of_beq_eq_true hl
   subst hl
   cases h
   refine .val R (.sc _) (hrun' _ _ ?_)
   cases Hx with
   | sl hp hcap=>simp [Builtin.clear_,h0,run_underlying hu]
   | sl0 hp hcap=>simp [Builtin.clear_,h0,run_underlying hu]
  ·rename_i hl
   have hl0:len≠0:=fun e=>by subst e;simp at hl
   split at h
   ·rename_i str cs hg
    split at h
    ·rename_i hb
     simp only[Bool.and_eq_true] at hb
     obtain⟨⟨hb1,hb2⟩,hb3⟩:=hb
     have hb1:=Nat.le_of_ble_eq_true hb1
     have hb3:=Nat.eq_of_beq_eq_true hb3
     split at h
     ·rename_i M1 hput
      cases h
      cases Hx with
      | sl hp hcap =>
       rename_i c' p
       obtain⟨w',hw',hres⟩:=Res.cells (W:=W) (r:=.sc (.tuple #[])) (v:=.tuple #[]) R hp (hD id (by simp [rowsOf])) (hW id (by simp [rowsOf])) hg (zHB z len) hb2 (by omega) hput (.sc _)
       refine⟨_,w',μ,.inl (hrun' _ _ ?_),hres⟩
       have hl1:∃ k,len=k+1:=⟨len - 1,by omega⟩
       obtain⟨k,rfl⟩:=hl1
       simp only[Builtin.clear_,h0,List.getElem?_toArray,List.getElem?_cons_zero]
       simp only[Sem.run_bind,run_underlying hu,Result.andThen_ok,zBT hz,hw',Sem.run_pure]
      | sl0 hp hcap=>exact absurd rfl hl0
     ·cases h
    ·cases h
   ·cases h
 ·cases h
theorem zLD {src dst:TypeId}{x:Operand}{v:Value}{w':World}(ho:o.op = .convert src dst x)(h:(convert src dst (a.eval x)).run P w = .ok v w'):(execOp a.eval o).run P w = .ok (.value v) w':=by
 simp [execOp,ho,h]
theorem zhC {src dst e:TypeId}{x:Operand}(ho:o.op = .convert src dst x)(hs:P.underlying src=some .string)(hd:P.underlying dst=some (.slice e))(he:P.underlying e=some (.int .u8))
  (R:RelOn Γ P D μ M.get w) (hfr:M.size<M'.size->μ M.size=none) (Hx:VRel μ (zA5 t x) (a.eval x)) (h:zA6 P call t M (.s2b e x)=some (r,M')):zAN Γ P o W D a μ M w r M':=by
 simp [zA6] at h
theorem zh9 {src dst e s0:TypeId}{x:Operand}(ho:o.op = .convert src dst x)(hs:P.underlying src=some (.slice s0))(hd:P.underlying dst=some (.slice e))(hq:(src == dst)=true)(he:P.underlying e=some (.int .u8))
  (R:RelOn Γ P D μ M.get w) (Hx:VRel μ (zA5 t x) (a.eval x)) (hD:∀ i∈rowsOf (zA5 t x),D i) (hW:∀ i∈rowsOf (zA5 t x),W i) (h:zA6 P call t M (.mrk x)=some (r,M')):zAN Γ P o W D a μ M w r M':=by
 simp [zA6] at h
theorem zIN:∀ {cs:List AV} {vs:List Value} {bs:List UInt8},VRels μ cs vs->bytesOf cs=some bs -> ∀ (acc:ByteArray) (w:World),
  (forIn vs acc fun (c:Value) (s:ByteArray)=>(do
   match c with
   | .int .u8 n=>pure (ForInStep.yield (s.push (UInt8.ofNat n.toNat)))
   | _ => do let x <- stuck "bytesToString: byte expected"; pure (ForInStep.yield x) : Sem (ForInStep ByteArray))).run P w = .ok ⟨(acc.data.toList ++ bs).toArray⟩ w := by
 intro cs
 induction cs with
 | nil =>
  intro vs bs h hb acc w
  cases h
  simp [bytesOf] at hb;subst hb
  simp
 | cons x cs ih =>
  intro vs bs h hb acc w
  cases h with
  | cons h1 h2 =>
   unfold bytesOf at hb
   split at hb
   ·rename_i heq;cases heq
   ·rename_i n l heq
    cases heq
    split at hb
    ·rename_i bs' hbs
     cases hb
     have:=zCS h1;subst this
     simp only[List.forIn_cons]
     simp only[Sem.run_bind,Sem.run_pure,Result.andThen_ok]
     rw[ih h2 hbs]
     congr 1
     apply ByteArray.ext
     simp [ByteArray.push]
    ·cases hb
   ·cases hb
theorem zgW {src dst e:TypeId}{x:Operand}(ho:o.op = .convert src dst x)(hs:P.underlying src=some (.slice e))(hd:P.underlying dst=some .string)(he:P.underlying e=some (.int .u8))
  (R:RelOn Γ P D μ M.get w) (Hx:VRel μ (zA5 t x) (a.eval x)) (hD:∀ i∈rowsOf (zA5 t x),D i) (h:zA6 P call t M (.b2s x)=some (r,M')):zAN Γ P o W D a μ M w r M':=by
 simp only[zA6] at h
 generalize hv:a.eval x=v at Hx
 split at h
 ·rename_i n c' hx
  cases h
  rw[hx] at Hx;have:=zCS Hx;subst this
  refine .val R (.sc _) (zLD ho ?_)
  rw[hv]
  simp only[convert,Sem.run_bind,run_underlying hs,run_underlying hd,run_underlying he,Result.andThen_ok,Conv.bytesToString,Sem.run_pure]
  rfl
 ·rename_i id off len cap st hx
  rw[hx] at Hx hD
  split at h
  ·rename_i hst
   have hst:=Nat.eq_of_beq_eq_true hst
   subst hst
   split at h
   ·rename_i cs hcs
    split at h
    ·rename_i bs hbs
     cases h
     have main:∀ (A:Addr) (len c':Nat) (arr:Array Value),v = .slice (some A) len c'->(loadCells A len).run P w = .ok arr w->VRels μ cs arr.toList->zAN Γ P o W D a μ M w (.sc (.string ⟨bs.toArray⟩)) M:=fun A len c' arr hvv hl hr=>by
      exact zE0a
     have hcl:cs.length=len*1:=by
      simp only[cellsOf] at hcs
      split at hcs
      ·split at hcs
       ·rename_i hb;cases hcs;exact zER _ _ _ (Nat.le_of_ble_eq_true hb)
       ·cases hcs
      ·cases hcs
     obtain⟨_,arr,hf,hr⟩:=zDK (P:=P) (w:=w) (size:=1) (n:=len) Hx hcs rfl hcl R hD
     have hf:=hf w.drawn
     cases Hx with
     | sl hp hcap=>exact main _ _ _ arr rfl (by simpa [Builtin.firstCells] using hf) hr
     | sl0 hp hcap=>exact main _ _ _ arr rfl (by simpa [Builtin.firstCells] using hf) hr
    ·cases h
   ·cases h
  ·cases h
 ·rename_i cs len cap st hx
  rw[hx] at Hx hD
  split at h
  ·rename_i hst
   have hst:=Nat.eq_of_beq_eq_true hst
   subst hst
   split at h
   ·rename_i bs hbs
    cases h
    obtain⟨A,c',hvv,_,_,hcl,_⟩:=zKQ R Hx
    obtain⟨_,arr,hf,hr⟩:=zDK (P:=P) (w:=w) (M:=M) (size:=1) (n:=len) Hx rfl rfl hcl R hD
    have hf:=hf w.drawn
    have hl:(loadCells A len).run P w = .ok arr w:=by rw[hvv] at hf;simpa [Builtin.firstCells] using hf
    exact zE0a
   ·cases h
  ·cases h
 ·cases h
theorem zhB {ty:TypeId}{x:Operand}(ho:o.op = .range ty x)(hu:P.underlying ty=some .string)(R:RelOn Γ P D μ M.get w)(hfr:M.size<M'.size->μ M.size=none)(Hx:VRel μ (zA5 t x) (a.eval x))
  (h:zA6 P call t M (.rng x)=some (r,M')):zAN Γ P o W D a μ M w r M':=by
 simp only[zA6] at h
 split at h
 ·rename_i s hx
  rw[hx] at Hx
  have hv:=zCS Hx
  split at h
  ·rename_i id M1 hn
   cases h
   have hid:=(Mem.new_spec hn).1;subst hid
   refine⟨_,_,_,.inl (by simp only[execOp,ho,hv];simp [Instr.range,run_underlying hu]),Res.alloc (w':=w.alloc (.stringIter s 0)) (v:=.pointer (some ⟨w.heap.size,0,none⟩)) hn (hfr (by have:=(Mem.new_spec hn).2.1;omega)) R ⟨w.heap.size,0,0,0⟩ rfl rfl rfl rfl rfl ⟨heap_alloc_new w _,rfl⟩ (.ptr (p:=⟨w.heap.size,0,0,0⟩) (Inj.upd_same ..))⟩
  ·cases h
 ·cases h
theorem zhA {x:Operand}(ho:o.op = .next x true)(R:RelOn Γ P D μ M.get w)(Hx:VRel μ (zA5 t x) (a.eval x))(hD:∀ i∈rowsOf (zA5 t x),D i)(hW:∀ i∈rowsOf (zA5 t x),W i)
  (h:zA6 P call t M (.nxt x)=some (r,M')):zAN Γ P o W D a μ M w r M':=by
 simp only[zA6] at h
 split at h
 ·rename_i id hx
  rw[hx] at Hx hD hW
  obtain⟨p,hp,hv⟩:=zFF Hx
  split at h
  ·rename_i s pos hg
   obtain⟨hbl,obj,h1,h2⟩:=R.ok id p (hD id (by simp [rowsOf])) hp
   rw[hg] at h1;cases h1
   obtain⟨h2,h3⟩:=h2
   have hlive:live M.get id:=zCH hg rfl
   have hD0:=hD id (by simp [rowsOf])
   have hW0:=hW id (by simp [rowsOf])
   rw[h3] at hv
   simp only[Nat.zero_add] at hv
   have hget:(getObj p.b).run P w = .ok (.stringIter s pos) w:=by simp only[getObj,Sem.run,h2]
   split at h
   ·rename_i hlt
    have hlt:=(zAJ _ _).1 hlt
    split at h
    ·rename_i M1 hput
     cases h
     have hset:(setObj p.b (.stringIter s (pos+(Utf8.decode s pos).2))).run P w = .ok () { w with heap:=w.heap.setIfInBounds p.b (.stringIter s (pos+(Utf8.decode s pos).2)) }:=by simp only[setObj,Sem.run,h2]
     refine⟨_,_,_,.inl ?_,Res.write (w':={ w with heap:=w.heap.setIfInBounds p.b (.stringIter s (pos+(Utf8.decode s pos).2)) }) (v:=.tuple #[.bool true,goInt pos,.int .i32 (Utf8.decode s pos).1]) hput hp hD0 hW0 R hlive (by simp) (fun k hk=>by simp only;rw[Array.getElem?_setIfInBounds_ne (Ne.symm hk)]) rfl rfl rfl ⟨by simp [hbl],h3⟩ (.tup (.cons (.sc _) (.cons (.sc _) (.cons (.sc _) .nil))))⟩
     simp only[execOp,ho,hv,Instr.next]
     simp only[Sem.run_bind,hget,Result.andThen_ok,if_pos hlt,hset,Sem.run_pure]
    ·cases h
   ·rename_i hlt
    have hlt:=(zCE _ _).1 hlt
    cases h
    refine .val R (.tup (cs:=#[.bool false]) (.cons (.sc _) .nil)) ?_
    simp only[execOp,ho,hv,Instr.next]
    simp only[Sem.run_bind,hget,Result.andThen_ok,if_neg hlt,Sem.run_pure]
  ·cases h
 ·cases h
theorem zVH {id:Nat}{p:Pl}{es:List (AV × AV × Nat)}{clock:Nat}(R:RelOn Γ P D μ M.get w)(hD:D id)(hp:μ id=some p)(hg:M.get id=some (.map es clock)) :
  ∃ es',w.heap[p.b]? = some (.map es' clock)/\zIF μ es es'.toList/\p.b<w.heap.size:=by
 obtain⟨hb,obj,h1,h2⟩:=R.ok id p hD hp
 rw[hg] at h1;cases h1
 obtain⟨es',h3,h4⟩:=h2
 exact⟨es',h3,h4,hb⟩
theorem zIF.tail {x:AV × AV × Nat}{es:List (AV × AV × Nat)}{e:MapEntry}{es':List MapEntry}(h:zIF μ (x::es) (e::es')):zIF μ es es' :=
 ⟨by simpa using h.1,fun i k v n hi=>by simpa using h.2 (i+1) k v n (by simpa using hi)⟩
theorem zH8 {kt:TypeId}{d:TypeDesc}{k kv:Value}{b c:Bool}(hd:P.underlying kt=some d)(h:Instr.sameNow d k kv=some b)(n:Nat)(he:(Op.equalIn (n+1) kt k kv).run P w = .ok c w):b=c:=by
 cases d <;> cases k <;> cases kv <;> simp [Instr.sameNow] at h
 all_goals simp only[Op.equalIn,Sem.run_bind,run_underlying hd,Result.andThen_ok] at he
 ·simp at he;rw[<- h,<- he]
 ·obtain⟨rfl,rfl⟩:=h
  simp at he;exact he
 ·simp at he;rw[<- h,<- he]
def zQM (μ:Inj):Option (Nat × AV × AV × Nat)->Option (Nat × Value)->List MapEntry->Prop
 | none,none,_=>True
 | some (i,k,v,n),some (j,u),es=>i=j/\VRel μ v u /\ ∃ e,es[j]? = some e/\VRel μ k e.key/\e.val=u/\e.born=n
 | _,_,_=>False
theorem zYL {kt:TypeId}{d:TypeDesc}{kv:Value}(hd:P.underlying kt=some d):∀ (es:List (AV × AV × Nat)) (es':List MapEntry) (all:List MapEntry) (i:Nat) (res:Option (Nat × AV × AV × Nat)),
  zIF μ es es'->(∀ j,es'[j]? = all[i+j]?)->zHG P kt kv es i=some res ->
  ∃ res',(Instr.findAsking kt kv es' i).run P w = .ok res' w/\(∀ r,Instr.findNow d kv es' i=some r->r=res')/\zQM μ res res' all:=by
 intro es
 induction es with
 | nil =>
  intro es' all i res h _ hf
  have:es'=[]:=List.eq_nil_of_length_eq_zero (by simpa using h.1)
  subst this
  simp [zHG] at hf;subst hf
  exact⟨none,rfl,fun r hr=>by simpa [Instr.findNow] using hr.symm,trivial⟩
 | cons x es ih =>
  intro es' all i res h hall hf
  obtain⟨k',v,n⟩:=x
  cases es' with
  | nil=>have:=h.1;simp at this
  | cons e es' =>
   obtain⟨e0,he0,hk,hv,hn⟩:=h.2 0 k' v n rfl
   simp at he0;subst he0
   simp only[zHG] at hf
   split at hf
   ·rename_i kv' hkv
    have hkey:=zEM hk hkv
    split at hf
    ·rename_i hp
     cases hf
     have hr:=zD1 hp w
     refine⟨some (i,e.val), ?_,fun r hr'=>?_,rfl,hv,e,by have:=hall 0;simpa using this.symm,hk,rfl,hn⟩
     ·simp only[Instr.findAsking,Sem.run_bind,hkey,hr,Result.andThen_ok];simp
     ·simp only[Instr.findNow] at hr'
      split at hr'
      ·simpa using hr'.symm
      ·rename_i hs
       rw[hkey] at hs
       have:=zH8 (w:=w) hd hs 9999 hr
       cases this
      ·cases hr'
    ·rename_i hp
     have hr:=zD1 hp w
     obtain⟨res',h1,h2,h3⟩:=ih es' all (i+1) res h.tail (fun j=>by have:=hall (j+1);simp at this;rw[this];congr 1;omega) hf
     refine⟨res', ?_,fun r hr'=>?_,h3⟩
     ·simp only[Instr.findAsking,Sem.run_bind,hkey,hr,Result.andThen_ok];simpa using h1
     ·simp only[Instr.findNow] at hr'
      split at hr'
      ·rename_i hs
       rw[hkey] at hs
       have:=zH8 (w:=w) hd hs 9999 hr
       cases this
      ·exact h2 r hr'
      ·cases hr'
    ·cases hf
   ·cases hf
theorem zEP {kt:TypeId}{d:TypeDesc}{kv:Value}{es:List (AV × AV × Nat)}{es':List MapEntry}{res:Option (Nat × AV × AV × Nat)}(hd:P.underlying kt=some d)(h:zIF μ es es')(hf:zHG P kt kv es 0=some res) :
  ∃ res',(Instr.findKey kt kv es').run P w = .ok res' w/\zQM μ res res' es':=by
 obtain⟨res',h1,h2,h3⟩:=zYL (w:=w) hd es es' es' 0 res h (fun j=>by simp) hf
 refine⟨res', ?_,h3⟩
 simp only[Instr.findKey,Sem.run_bind,run_underlying hd,Result.andThen_ok]
 split
 ·rename_i r hr
  rw[h2 r hr];rfl
 ·exact h1
theorem zVI {id:Nat}{v:Value}(h:VRel μ (.mp id) v):∃ p,μ id=some p/\v = .map (some p.b):=by
 cases h with
 | mp e=>exact⟨_,e,rfl⟩
theorem zYI {es:List (AV × AV × Nat)}{es':Array MapEntry}(h:zIF μ es es'.toList):es'.isEmpty=es.isEmpty:=by
 have:=h.1
 cases es with
 | nil=>simp at this;simp [this]
 | cons _ _ =>
  simp at this
  simp [Array.isEmpty,this]
theorem zVU {ty kt et:TypeId}{d:TypeDesc}{z:Value}{m k:Operand}{ok:Bool}(ho:o.op = .lookup ty m k ok)(hu:P.underlying ty=some (.map kt et))(hd:P.underlying kt=some d)(hz:zeroOf P et=some z)
  (R:RelOn Γ P D μ M.get w) (Hm:VRel μ (zA5 t m) (a.eval m)) (Hk:VRel μ (zA5 t k) (a.eval k)) (hD:∀ i∈rowsOf (zA5 t m),D i)
  (h:zA6 P call t M (.lookup kt z m k ok)=some (r,M')):zAN Γ P o W D a μ M w r M':=by
 have fin:∀ (v:AV) (u:Value) (b:Bool),VRel μ v u->VRel μ (okA ok v b) (if ok then .tuple #[u,.bool b] else u):=fun v u b hv=>by
  cases ok
  ·exact hv
  ·exact .tup (.cons hv (.cons (.sc _) .nil))
 simp only[zA6] at h
 split at h
 ·rename_i kv hkv
  have hkey:=zEM Hk hkv
  split at h
  ·-- nil
   rename_i hx
   rw[hx] at Hm
   have hv:=zCS Hm
   split at h
   ·rename_i u hc
    cases h
    have hc:=zD1 hc w
    refine .val R (fin _ _ _ (.sc z)) ?_
    simp only[execOp,ho,hv,hkey,Instr.lookup]
    simp only[Sem.run_bind,run_underlying hu,Result.andThen_ok,Sem.run_pure]
    simp [hc,Instr.findKey,run_underlying hd,Instr.findNow,zBT hz]
   ·cases h
  ·rename_i id hx
   rw[hx] at Hm hD
   obtain⟨p,hp,hv⟩:=zVI Hm
   split at h
   ·rename_i es clock hg
    obtain⟨es',h1,h2,_⟩:=zVH R (hD id (by simp [rowsOf])) hp hg
    have hget:(getObj p.b).run P w = .ok (.map es' clock) w:=by simp only[getObj,Sem.run,h1]
    split at h
    ·rename_i u hc
     have hc:=zD1 hc w
     rw[<- zYI h2] at hc
     split at h
     ·rename_i i k' v n hf
      cases h
      obtain⟨res',h3,h4⟩:=zEP (w:=w) hd h2 hf
      cases res' with
      | none=>exact h4.elim
      | some ju =>
       obtain⟨j,u'⟩:=ju
       refine .val R (fin _ _ _ h4.2.1) ?_
       simp only[execOp,ho,hv,hkey,Instr.lookup]
       simp only[Sem.run_bind,run_underlying hu,Result.andThen_ok,Sem.run_pure,hget,hc,h3]
     ·rename_i hf
      cases h
      obtain⟨res',h3,h4⟩:=zEP (w:=w) hd h2 hf
      cases res' with
      | some _=>exact h4.elim
      | none =>
       refine .val R (fin _ _ _ (.sc z)) ?_
       simp only[execOp,ho,hv,hkey,Instr.lookup]
       simp only[Sem.run_bind,run_underlying hu,Result.andThen_ok,Sem.run_pure,hget,hc,h3,zBT hz]
     ·cases h
    ·cases h
   ·cases h
  ·cases h
 ·cases h
theorem zdX {c:Call}{x:Operand}{xt kt et:TypeId}(ho:o.op = .call c)(hc:c.callee = .builtin .len)(hargs:c.args.toList=[x])(h0:c.argTypes[0]? = some xt)(hu:P.underlying xt=some (.map kt et))
  (R:RelOn Γ P D μ M.get w) (Hx:VRel μ (zA5 t x) (a.eval x)) (hD:∀ i∈rowsOf (zA5 t x),D i) (h:zA6 P call t M (.mlen x)=some (r,M')):zAN Γ P o W D a μ M w r M':=by
 obtain⟨consts,hrun⟩:=zBY (P:=P) ho hc a.eval
 simp only[zA6] at h
 split at h
 ·rename_i hx;cases h
  rw[hx] at Hx
  have hv:=zCS Hx
  refine .val R (.sc _) ?_
  rw[hrun,zTQ hargs]
  simp [builtin,hv,Builtin.len_,h0,run_underlying hu]
 ·rename_i id hx
  rw[hx] at Hx hD
  obtain⟨p,hp,hv⟩:=zVI Hx
  split at h
  ·rename_i es clock hg
   cases h
   obtain⟨es',h1,h2,_⟩:=zVH R (hD id (by simp [rowsOf])) hp hg
   have hget:(getObj p.b).run P w = .ok (.map es' clock) w:=by simp only[getObj,Sem.run,h1]
   have hl:=h2.1
   simp only[Array.length_toList] at hl
   refine .val R (.sc _) ?_
   rw[hrun,zTQ hargs]
   simp [builtin,hv,Builtin.len_,h0,run_underlying hu,hget,hl]
  ·cases h
 ·cases h
theorem zVV {ty kt et:TypeId}{d:TypeDesc}{m k v:Operand}(ho:o.op = .mapUpdate ty m k v∨o.op = .insert ty m k v)(hu:P.underlying ty=some (.map kt et))(hd:P.underlying kt=some d)
  (R:RelOn Γ P D μ M.get w) (Hm:VRel μ (zA5 t m) (a.eval m)) (Hk:VRel μ (zA5 t k) (a.eval k)) (Hv:VRel μ (zA5 t v) (a.eval v)) (hD:∀ i∈rowsOf (zA5 t m),D i) (hW:∀ i∈rowsOf (zA5 t m),W i)
  (h:zA6 P call t M (.mupd kt m k v)=some (r,M')):zAN Γ P o W D a μ M w r M':=by
 have hrun:∀ w',(Instr.mapUpdate ty (a.eval m) (a.eval k) (a.eval v)).run P w = .ok () w'->(execOp a.eval o).run P w = .ok .skip w':=fun w' hb=>by
  rcases ho with ho | ho <;> simp [execOp,ho,hb]
 simp only[zA6] at h
 split at h
 ·rename_i kv hkv
  have hkey:=zEM Hk hkv
  split at h
  ·rename_i id hx
   rw[hx] at Hm hD hW
   obtain⟨p,hp,hv⟩:=zVI Hm
   split at h
   ·rename_i es clock hg
    obtain⟨es',h1,h2,hbl⟩:=zVH R (hD id (by simp [rowsOf])) hp hg
    have hget:(getObj p.b).run P w = .ok (.map es' clock) w:=by simp only[getObj,Sem.run,h1]
    have hset:∀ ob,(setObj p.b ob).run P w = .ok () { w with heap:=w.heap.setIfInBounds p.b ob }:=fun ob=>by simp only[setObj,Sem.run,h1]
    have hlive:live M.get id:=zCH hg rfl
    have wr:∀ (ob:AObj) (ob':Obj) (M1:Mem),M.put id ob=some M1->zFU P μ ob p { w with heap:=w.heap.setIfInBounds p.b ob' }->(Instr.mapUpdate ty (a.eval m) (a.eval k) (a.eval v)).run P w = .ok () { w with heap:=w.heap.setIfInBounds p.b ob' }->zAN Γ P o W D a μ M w zA3 M1:=fun ob ob' M1 hput hok hx =>
     ⟨undef,_,μ,.inr ⟨hrun _ hx,rfl⟩,Res.write (w':={ w with heap:=w.heap.setIfInBounds p.b ob' }) hput hp (hD id (by simp [rowsOf])) (hW id (by simp [rowsOf])) R hlive (by simp) (fun k hk=>by simp only;rw[Array.getElem?_setIfInBounds_ne (Ne.symm hk)]) rfl rfl rfl hok (.sc _)⟩
    split at h
    ·rename_i u hc
     have hc:=zD1 hc w
     split at h
     ·rename_i i k' v' n hf
      split at h
      ·rename_i kv' hkv'
       split at h
       ·rename_i hsame
        split at h
        ·rename_i M1 hput
         cases h
         obtain⟨res',h3,h4⟩:=zEP (w:=w) hd h2 hf
         cases res' with
         | none=>exact h4.elim
         | some ju =>
          obtain⟨j,u'⟩:=ju
          obtain⟨rfl,h5,e,h6,h7,h8,h9⟩:=h4
          have hek:=zEM h7 hkv'
          rw[Array.getElem?_toList] at h6
          refine wr _ (.map (es'.modify i fun e=>{ e with key:=kv,val:=a.eval v }) clock) _ hput ⟨es'.modify i fun e=>{ e with key:=kv,val:=a.eval v },by simp [hbl], ?_⟩ ?_
          ·refine⟨by rw[zCT];simpa using h2.1,fun q kk vv nn hq=>?_⟩
           rw[zCT,List.getElem?_set] at hq
           by_cases hqi:i=q
           ·subst hqi
            have hlt:i<es.length:=by
             have:=(Array.getElem?_eq_some_iff.1 h6).1
             have:=h2.1
             simp at this;omega
            rw[if_pos rfl,if_pos hlt] at hq
            cases hq
            refine⟨{ e with key:=kv,val:=a.eval v },by simp [Array.getElem?_modify,h6], ?_,Hv,h9⟩
            rw[<- hkey];exact Hk
           ·rw[if_neg hqi] at hq
            obtain⟨e2,g1,g2⟩:=h2.2 q kk vv nn hq
            exact⟨e2,by simp [Array.getElem?_modify,hqi] at g1 ⊢;exact g1,g2⟩
          ·rw[hkey] at *
           simp only[hv,Instr.mapUpdate]
           simp only[Sem.run_bind,run_underlying hu,Result.andThen_ok,hget,hc,h3]
           simp only[h6,Option.map_some,Option.getD_some,hek,Instr.keyThatStays,hsame,if_true,Sem.run_pure,Result.andThen_ok,hset]
        ·cases h
       ·cases h
      ·cases h
     ·rename_i hf
      split at h
      ·rename_i M1 hput
       cases h
       obtain⟨res',h3,h4⟩:=zEP (w:=w) hd h2 hf
       cases res' with
       | some _=>exact h4.elim
       | none =>
        refine wr _ (.map (es'.push { key:=kv,val:=a.eval v,born:=clock }) (clock+1)) _ hput ⟨es'.push { key:=kv,val:=a.eval v,born:=clock },by simp [hbl], ?_⟩ ?_
        ·refine⟨by simpa using h2.1,fun q kk vv nn hq=>?_⟩
         have hl:=h2.1
         simp only[Array.length_toList] at hl
         by_cases hql:q<es.length
         ·rw[List.getElem?_append_left hql] at hq
          obtain⟨e2,g1,g2⟩:=h2.2 q kk vv nn hq
          refine⟨e2, ?_,g2⟩
          rw[Array.toList_push,List.getElem?_append_left (by simpa using (by omega:q<es'.size))]
          exact g1
         ·rw[List.getElem?_append_right (by omega)] at hq
          have hq0:q=es.length:=by
           have:=(List.getElem?_eq_some_iff.1 hq).1
           simp at this;omega
          subst hq0
          simp at hq
          obtain⟨rfl,rfl,rfl⟩:=hq
          refine⟨{ key:=kv,val:=a.eval v,born:=clock }, ?_, ?_,Hv,rfl⟩
          ·rw[Array.toList_push,<- hl];simp
          ·rw[<- hkey];exact Hk
        ·rw[hkey] at *
         simp only[hv,Instr.mapUpdate]
         simp only[Sem.run_bind,run_underlying hu,Result.andThen_ok,hget,hc,h3,hset]
      ·cases h
     ·cases h
    ·cases h
   ·cases h
  ·cases h
 ·cases h
def Feet (D W:Nat->Prop):FP->Prop
 | .acc rd wr=>(∀ i∈rd,D i)/\(∀ i∈wr,D i/\W i)
 | _=>False
theorem zTW {c:Call}(hop:o.op = .call c)(R:RelOn Γ P D μ M.get w)(Ha:∀ x∈c.args.toList,VRel μ (zA5 t x) (a.eval x))(hfr:M.size<M'.size->μ M.size=none)
  (hfoot:Feet D W (zAQ t (zA1 P o))) (pur:zA1 P o = .pur o->zAN Γ P o W D a μ M w r M') (bad:∀ s,zA1 P o = .bad s->zAN Γ P o W D a μ M w r M')
  (h:zA6 P call t M (zA1 P o)=some (r,M')):zAN Γ P o W D a μ M w r M':=by
 cases hc:c.callee with
 | invoke q m => exact bad "op" (by simp [zA1, hop, hc])
 | value f =>
  exfalso
  generalize hao:zA1 P o=ao at hfoot
  have:∀ ao,zA1 P o=ao->(∃ f l,ao = .call f l)∨(∃ g e st b x i y,ao = .ins g e st b x i y)∨(∃ s,ao = .bad s)∨(∃ st x y,ao = .ovl st x y):=fun ao hao=>by
   simp only[zA1,hop,hc] at hao
   cases f with
   | func g =>
    simp only at hao
    cases hg:P.funcs[g]? with
    | none=>simp [hg] at hao;exact .inr (.inr (.inl ⟨_,hao.symm⟩))
    | some fn =>
     simp only[hg,Option.bind_eq_bind,Option.bind_some] at hao
     split at hao
     ·split at hao
      ·split at hao
       ·rename_i x i y t' hl hp
        cases hu:P.underlying t' with
        | none=>simp [hu] at hao;exact .inr (.inr (.inl ⟨_,hao.symm⟩))
        | some d =>
         simp only[hu,Option.bind_some] at hao
         split at hao
         ·rename_i e
          cases hi:P.info? e with
          | none=>simp [hi] at hao;exact .inr (.inr (.inl ⟨_,hao.symm⟩))
          | some ti=>simp [hi] at hao;exact .inr (.inl ⟨_,_,_,_,_,_,_,hao.symm⟩)
         ·exact zE0h
       ·exact zE0h
      ·simp at hao;exact .inl ⟨_,_,hao.symm⟩
     ·split at hao
      ·split at hao
       ·rename_i x y t' hl hp
        cases hu:P.underlying t' with
        | none=>simp [hu] at hao;exact .inr (.inr (.inl ⟨_,hao.symm⟩))
        | some d =>
         simp only[hu,Option.bind_some] at hao
         split at hao
         ·rename_i e
          cases hi:szOf P e with
          | none=>simp [hi] at hao;exact .inr (.inr (.inl ⟨_,hao.symm⟩))
          | some s=>simp [hi] at hao;exact .inr (.inr (.inr ⟨_,_,_,hao.symm⟩))
         ·exact zE0h
       ·exact zE0h
      ·exact zE0h
   | _=>simp at hao;exact .inl ⟨_,_,hao.symm⟩
  rcases this ao hao with⟨f,l,rfl⟩ | ⟨g,e,st,b,x,i,y,rfl⟩ | ⟨s,rfl⟩ | ⟨st,x,y,rfl⟩ <;> exact hfoot
 | builtin b =>
  have fin:∀ x y,c.args.toList=[x,y]->VRel μ (zA5 t x) (a.eval x)/\VRel μ (zA5 t y) (a.eval y):=fun x y e=>⟨Ha x (by rw[e];simp),Ha y (by rw[e];simp)⟩
  have fin1:∀ x,c.args.toList=[x]->VRel μ (zA5 t x) (a.eval x):=fun x e=>Ha x (by rw[e];simp)
  cases b with
  | append =>
   cases hl:c.args.toList with
   | nil => exact bad "op" (by simp [zA1, hop, hc, hl])
   | cons x l=>cases l with
    | nil => exact bad "op" (by simp [zA1, hop, hc, hl])
    | cons y l=>cases l with
     | cons z l => exact bad "op" (by simp [zA1, hop, hc, hl])
     | nil =>
      obtain⟨Hx,Hy⟩:=fin x y hl
      cases h0:c.argTypes[0]? with
      | none => exact bad "op" (by simp [zA1, hop, hc, hl, h0])
      | some xt =>
       cases hu:P.underlying xt with
       | none => exact bad "op" (by simp [zA1, hop, hc, hl, h0, hu])
       | some d=>cases d with
        | slice e =>
         cases hi:P.info? e with
         | none => exact bad "op" (by simp [zA1, hop, hc, hl, h0, hu, hi])
         | some ti =>
          cases hz:ti.zero with
          | none => exact bad "op" (by simp [zA1, hop, hc, hl, h0, hu, hi, hz])
          | some z =>
           by_cases hsz:ti.size=0∨z.cells.size≠ti.size
           ·exact bad "op" (by simp only [zA1, hop, hc, hl]; simp only [h0, Option.bind_eq_bind, Option.bind_some, hu, hi, hz, if_pos hsz]; rfl)
           ·cases h1:c.argTypes[1]? with
            | none => exact bad "op" (by simp only [zA1, hop, hc, hl]; simp only [h0, h1, Option.bind_eq_bind, Option.bind_some, hu, hi, hz, if_neg hsz, Option.bind_none]; rfl)
            | some yt =>
             cases hd:P.underlying yt with
             | none => exact bad "op" (by simp only [zA1, hop, hc, hl]; simp only [h0, h1, Option.bind_eq_bind, Option.bind_some, hu, hi, hz, if_neg hsz, hd, Option.bind_none]; rfl)
             | some d =>
              by_cases hk:∃ k,d = .int k
              ·obtain⟨k,rfl⟩:=hk
               have e':zA1 P o = .appz e ti.size ti.bytes z x y:=by simp only[zA1,hop,hc,hl];simp only[h0,h1,Option.bind_eq_bind,Option.bind_some,hu,hi,hz,if_neg hsz,hd];rfl
               rw[e'] at h hfoot
               exact zdS hop hc hl h0 hu h1 hd hi hz hsz R hfr Hx Hy (fun i hi=>(hfoot.2 i hi).1) (fun i hi=>(hfoot.2 i hi).2) h
              ·have hk':∀ k,d ≠ .int k:=fun k e=>hk ⟨k,e⟩
               have e':zA1 P o = .app e ti.size ti.bytes z x y:=by
                simp only[zA1,hop,hc,hl];simp only[h0,h1,Option.bind_eq_bind,Option.bind_some,hu,hi,hz,if_neg hsz,hd]
                cases d <;> first | rfl | exact absurd rfl (hk' _)
               rw[e'] at h hfoot
               exact zgV hop hc hl h0 hu h1 hd hk' hi hz hsz R hfr Hx Hy (fun i hi=>(hfoot.2 i hi).1) hfoot.1 (fun i hi=>(hfoot.2 i hi).2) h
        | _ => exact bad "op" (by simp [zA1, hop, hc, hl, h0, hu])
  | len =>
   cases hl:c.args.toList with
   | nil => exact bad "op" (by simp [zA1, hop, hc, hl])
   | cons x l=>cases l with
    | cons z l => exact bad "op" (by simp [zA1, hop, hc, hl])
    | nil =>
     have Hx:=fin1 x hl
     cases h0:c.argTypes[0]? with
     | none => exact bad "op" (by simp [zA1, hop, hc, hl, h0])
     | some xt =>
      cases hu:P.underlying xt with
      | none => exact bad "op" (by simp [zA1, hop, hc, hl, h0, hu])
      | some d=>cases d with
       | slice e =>
        have e':zA1 P o = .len x:=by simp [zA1,hop,hc,hl,h0,hu]
        rw[e'] at h
        exact zh8 hop hc hl h0 hu R Hx h
       | map kt et =>
        have e':zA1 P o = .mlen x:=by simp [zA1,hop,hc,hl,h0,hu]
        rw[e'] at h hfoot
        exact zdX hop hc hl h0 hu R Hx hfoot.1 h
       | string=>exact pur (by simp [zA1,hop,hc,hl,h0,hu])
       | array n e=>exact pur (by simp [zA1,hop,hc,hl,h0,hu])
       | _ => exact bad "op" (by simp [zA1, hop, hc, hl, h0, hu])
  | cap =>
   cases hl:c.args.toList with
   | nil => exact bad "op" (by simp [zA1, hop, hc, hl])
   | cons x l=>cases l with
    | cons z l => exact bad "op" (by simp [zA1, hop, hc, hl])
    | nil =>
     have Hx:=fin1 x hl
     cases h0:c.argTypes[0]? with
     | none => exact bad "op" (by simp [zA1, hop, hc, hl, h0])
     | some xt =>
      cases hu:P.underlying xt with
      | none => exact bad "op" (by simp [zA1, hop, hc, hl, h0, hu])
      | some d=>cases d with
       | slice e =>
        have e':zA1 P o = .cap x:=by simp [zA1,hop,hc,hl,h0,hu]
        rw[e'] at h
        exact zgZ hop hc hl h0 hu R Hx h
       | _ => exact bad "op" (by simp [zA1, hop, hc, hl, h0, hu])
  | copy =>
   cases hl:c.args.toList with
   | nil => exact bad "op" (by simp [zA1, hop, hc, hl])
   | cons x l=>cases l with
    | nil => exact bad "op" (by simp [zA1, hop, hc, hl])
    | cons y l=>cases l with
     | cons z l => exact bad "op" (by simp [zA1, hop, hc, hl])
     | nil =>
      obtain⟨Hx,Hy⟩:=fin x y hl
      cases h0:c.argTypes[0]? with
      | none => exact bad "op" (by simp [zA1, hop, hc, hl, h0])
      | some xt =>
       cases hu:P.underlying xt with
       | none => exact bad "op" (by simp [zA1, hop, hc, hl, h0, hu])
       | some d=>cases d with
        | slice e =>
         cases hs:szOf P e with
         | none => exact bad "op" (by simp [zA1, hop, hc, hl, h0, hu, hs])
         | some s =>
          have e':zA1 P o = .cpy s x y:=by simp [zA1,hop,hc,hl,h0,hu,hs]
          rw[e'] at h hfoot
          exact zh1 hop hc hl h0 hu hs R Hx Hy (fun i hi=>(hfoot.2 i hi).1) hfoot.1 (fun i hi=>(hfoot.2 i hi).2) h
        | _ => exact bad "op" (by simp [zA1, hop, hc, hl, h0, hu])
  | clear =>
   cases hl:c.args.toList with
   | nil => exact bad "op" (by simp [zA1, hop, hc, hl])
   | cons x l=>cases l with
    | cons z l => exact bad "op" (by simp [zA1, hop, hc, hl])
    | nil =>
     have Hx:=fin1 x hl
     cases h0:c.argTypes[0]? with
     | none => exact bad "op" (by simp [zA1, hop, hc, hl, h0])
     | some xt =>
      cases hu:P.underlying xt with
      | none => exact bad "op" (by simp [zA1, hop, hc, hl, h0, hu])
      | some d=>cases d with
       | slice e =>
        cases hs:szOf P e with
        | none => exact bad "op" (by simp [zA1, hop, hc, hl, h0, hu, hs])
        | some s =>
         cases hz:zeroOf P e with
         | none => exact bad "op" (by simp [zA1, hop, hc, hl, h0, hu, hs, hz])
         | some z =>
          by_cases hsz:s=0∨z.cells.size≠s
          ·exact bad "op" (by simp only [zA1, hop, hc, hl]; simp only [h0, Option.bind_eq_bind, Option.bind_some, hu, hs, hz, if_pos hsz]; rfl)
          ·have e':zA1 P o = .clr s z x:=by simp only[zA1,hop,hc,hl];simp only[h0,Option.bind_eq_bind,Option.bind_some,hu,hs,hz,if_neg hsz];rfl
           rw[e'] at h hfoot
           exact zh0 hop hc hl h0 hu hs hz hsz R Hx (fun i hi=>(hfoot.2 i hi).1) (fun i hi=>(hfoot.2 i hi).2) h
       | _ => exact bad "op" (by simp [zA1, hop, hc, hl, h0, hu])
  | min=>exact pur (by simp [zA1,hop,hc])
  | max=>exact pur (by simp [zA1,hop,hc])
  | _ => exact bad "op" (by simp [zA1, hop, hc])
set_option maxHeartbeats 1000000 in
theorem zVX (R:RelOn Γ P D μ M.get w)(H:∀ x∈o.op.operands,VRel μ (zA5 t x) (a.eval x))(hfr:M.size<M'.size->μ M.size=none)(hfoot:Feet D W (zAQ t (zA1 P o)))
  (h:zA6 P call t M (zA1 P o)=some (r,M')):zAN Γ P o W D a μ M w r M':=by
 have bad:∀ s,zA1 P o = .bad s->zAN Γ P o W D a μ M w r M':=fun s e=>by rw[e] at hfoot;exact hfoot.elim
 have pur:zA1 P o = .pur o->(∀ cs b,o.op ≠ .select cs b)->zAN Γ P o W D a μ M w r M':=fun e hs=>by
  rw[e] at h
  simp only[zA6] at h
  split at h
  ·rename_i hp;cases h;exact zI1 R H hs hp
  ·cases h
 cases hop:o.op with
 | move x =>
  have e:zA1 P o = .mov x:=by simp [zA1,hop]
  rw[e] at h;simp only[zA6] at h;cases h
  exact zbS (.inl hop) R (H x (by rw[hop];simp [Op.operands]))
 | assign x =>
  have e:zA1 P o = .mov x:=by simp [zA1,hop]
  rw[e] at h;simp only[zA6] at h;cases h
  exact zbS (.inr hop) R (H x (by rw[hop];simp [Op.operands]))
 | pick c x y =>
  have e:zA1 P o = .pick c x y:=by simp [zA1,hop]
  rw[e] at h
  exact zdY hop R (H c (by rw[hop];simp [Op.operands])) (H x (by rw[hop];simp [Op.operands])) (H y (by rw[hop];simp [Op.operands])) h
 | alloc e =>
  cases hz:zeroOf P e with
  | none => exact bad "op" (by simp [zA1, hop, hz])
  | some z =>
   have e':zA1 P o = .alloc e z:=by simp [zA1,hop,hz]
   rw[e'] at h
   exact zZR hop hz R hfr h
 | box e x =>
  have e':zA1 P o = .box e x:=by simp [zA1,hop]
  rw[e'] at h
  exact zgX hop R hfr (H x (by rw[hop];simp [Op.operands])) h
 | build ty ps =>
  have Hq:∀ q∈ps.toList,VRel μ (zA5 t q.2) (a.eval q.2):=fun q hq=>H q.2 (by rw[hop];simp only[Op.operands,List.mem_toArray,List.mem_map];exact⟨q,hq,rfl⟩)
  cases hz:zeroOf P ty with
  | none => exact bad "op" (by simp [zA1, hop, hz])
  | some z =>
   cases hu:P.underlying ty with
   | none => exact bad "op" (by simp [zA1, hop, hz, hu])
   | some d =>
    cases d with
    | struct fields =>
     cases hp:placesOf P fields.toList with
     | none => exact bad "op" (by simp [zA1, hop, hz, hu, hp])
     | some pl =>
      cases hq:zI0 pl ps.toList with
      | none => exact bad "op" (by simp [zA1, hop, hz, hu, hp, hq])
      | some l =>
       have e':zA1 P o = .build z l:=by simp [zA1,hop,hz,hu,hp,hq]
       rw[e'] at h
       exact zR9 hop hz R (.inl ⟨_,_,hu,hp,hq⟩) Hq h
    | array n e =>
     cases hs:szOf P e with
     | none => exact bad "op" (by simp [zA1, hop, hz, hu, hs])
     | some s =>
      have e':zA1 P o = .build z (ps.toList.map fun (i,x)=>(i*s,s,x)):=by simp [zA1,hop,hz,hu,hs]
      rw[e'] at h
      exact zR9 hop hz R (.inr ⟨_,_,_,hu,hs,rfl⟩) Hq h
    | _ => exact bad "op" (by simp [zA1, hop, hz, hu])
 | buildSlice ty len ps =>
  have Hq:∀ q∈ps.toList,VRel μ (zA5 t q.2) (a.eval q.2):=fun q hq=>H q.2 (by rw[hop];simp only[Op.operands,List.mem_toArray,List.mem_map];exact⟨q,hq,rfl⟩)
  cases hu:P.underlying ty with
  | none => exact bad "op" (by simp [zA1, hop, hu])
  | some d =>
   cases d with
   | slice e =>
    cases hs:szOf P e with
    | none => exact bad "op" (by simp [zA1, hop, hu, hs])
    | some s =>
     cases hz:zeroOf P e with
     | none => exact bad "op" (by simp [zA1, hop, hu, hs, hz])
     | some z =>
      by_cases h0:s=0∨len*s > 2 ^ 24∨z.cells.size≠s
      ·exact bad "op" (by simp only [zA1, hop, hu, hs, hz]; simp only [Option.bind_eq_bind, Option.bind_some, hs, hz, if_pos h0]; rfl)
      ·have e':zA1 P o = .bsl e s z len (ps.toList.map fun (i,x)=>(i*s,s,x)):=by
        simp only[zA1,hop,hu,hs,hz];simp only[Option.bind_eq_bind,Option.bind_some,hs,hz,if_neg h0];rfl
       rw[e'] at h
       exact zgY hop hu hs hz h0 R hfr Hq h
   | _ => exact bad "op" (by simp [zA1, hop, hu])
 | load ty x =>
  cases hz:szOf P ty with
  | none => exact bad "op" (by simp [zA1, hop, hz])
  | some n =>
   cases ha:zG7 P ty with
   | none => exact bad "op" (by simp [zA1, hop, hz, ha])
   | some ag =>
    have e':zA1 P o = .load n ag x:=by simp [zA1,hop,hz,ha]
    rw[e'] at h hfoot
    exact zdU hop hz ha R (H x (by rw[hop];simp [Op.operands])) hfoot.1 h
 | store ty x v =>
  cases hz:szOf P ty with
  | none => exact bad "op" (by simp [zA1, hop, hz])
  | some n =>
   have e':zA1 P o = .store n x v:=by simp [zA1,hop,hz]
   rw[e'] at h hfoot
   exact zZU hop hz R (H x (by rw[hop];simp [Op.operands])) (H v (by rw[hop];simp [Op.operands])) (fun i hi=>(hfoot.2 i hi).1) (fun i hi=>(hfoot.2 i hi).2) h
 | nilCheck x =>
  have e':zA1 P o = .nilck x:=by simp [zA1,hop]
  rw[e'] at h
  exact zZS hop R (H x (by rw[hop];simp [Op.operands])) h
 | binOp op ty x y yt =>
  have hs:∀ cs b,o.op ≠ .select cs b:=fun cs b e=>by rw[hop] at e;cases e
  have eq:∀ neg,op=(if neg then BinOp.neq else .eql)->zA1 P o=zQI P neg ty x y o->zAN Γ P o W D a μ M w r M':=fun neg hne e=>by
   unfold zQI at e
   split at e
   ·rename_i k hk
    rw[e] at h
    exact zRA hop hne hk (.inl ⟨rfl,rfl⟩) R H (H x (by rw[hop];simp [Op.operands])) h
   ·split at e
    ·rename_i k hk
     rw[e] at h
     exact zRA hop hne hk (.inr ⟨rfl,rfl⟩) R H (H y (by rw[hop];simp [Op.operands])) h
    ·exact pur e hs
  cases op with
  | eql=>exact eq false rfl (by simp [zA1,hop])
  | neq=>exact eq true rfl (by simp [zA1,hop])
  | _=>exact pur (by simp [zA1,hop]) hs
 | unOp op ty x=>exact pur (by simp [zA1,hop]) (fun cs b e=>by rw[hop] at e;cases e)
 | convert src dst x =>
  have hs:∀ cs b,o.op ≠ .select cs b:=fun cs b e=>by rw[hop] at e;cases e
  have Hx:=H x (by rw[hop];simp [Op.operands])
  cases hsrc:P.underlying src with
  | none => exact bad "op" (by simp [zA1, hop, hsrc])
  | some d1 =>
   cases hdst:P.underlying dst with
   | none => exact bad "op" (by simp [zA1, hop, hsrc, hdst])
   | some d2 =>
    by_cases hA:d1 = .string /\ ∃ e,d2 = .slice e
    ·obtain⟨rfl,e,rfl⟩:=hA
     by_cases he:P.underlying e=some (.int .u8)
     ·have e':zA1 P o = .s2b e x:=by simp [zA1,hop,hsrc,hdst,he]
      rw[e'] at h
      exact zhC hop hsrc hdst he R hfr Hx h
     ·exact zE0b
    ·by_cases hB:(∃ e,d1 = .slice e)/\d2 = .string
     ·obtain⟨⟨e,rfl⟩,rfl⟩:=hB
      by_cases he:P.underlying e=some (.int .u8)
      ·have e':zA1 P o = .b2s x:=by simp [zA1,hop,hsrc,hdst,he]
       rw[e'] at h hfoot
       exact zgW hop hsrc hdst he R Hx hfoot.1 h
      ·exact zE0b
     ·by_cases hC:(∃ e,d1 = .slice e) /\ ∃ e,d2 = .slice e
      ·obtain⟨⟨s0,rfl⟩,e,rfl⟩:=hC
       by_cases hq:(src == dst)=true/\P.underlying e=some (.int .u8)
       ·have e':zA1 P o = .mrk x:=by simp only[zA1,hop,hsrc,hdst,hq.1,hq.2,Option.bind_eq_bind,Option.bind_some];rfl
        rw[e'] at h hfoot
        exact zh9 hop hsrc hdst hq.1 hq.2 R Hx (fun i hi=>(hfoot.2 i hi).1) (fun i hi=>(hfoot.2 i hi).2) h
       ·refine bad "op" ?_
        simp only[zA1,hop,hsrc,hdst,Option.bind_eq_bind,Option.bind_some]
        split
        ·rename_i h1 h2;exact absurd ⟨h1,h2⟩ hq
        ·rfl
      ·refine pur ?_ hs
       simp only[zA1,hop,hsrc,hdst,Option.bind_eq_bind,Option.bind_some]
       split
       ·exact absurd ⟨rfl,_,rfl⟩ hA
       ·exact absurd ⟨⟨_,rfl⟩,rfl⟩ hB
       ·exact absurd ⟨⟨_,rfl⟩,_,rfl⟩ hC
       ·rfl
 | makeFunc fn first cap =>
  cases fn with
  | func f =>
   have e':zA1 P o = .mkfn f first.toList cap.toList:=by simp [zA1,hop]
   rw[e'] at h
   exact zdV hop R (fun x hx=>H x (by rw[hop];simp [Op.operands];exact .inl (by simpa using hx))) (fun x hx=>H x (by rw[hop];simp [Op.operands];exact .inr (by simpa using hx))) h
  | _ => exact bad "op" (by simp [zA1, hop])
 | makeMap ty rv =>
  cases rv with
  | none =>
   have e':zA1 P o = .mkmap:=by simp [zA1,hop]
   rw[e'] at h
   exact zRB hop (.inl rfl) R hfr h
  | some q =>
   by_cases hq:∃ k n kt et,q = .const (.int k n)/\P.underlying ty=some (.map kt et)
   ·obtain⟨k,n,kt,et,rfl,hu⟩:=hq
    have e':zA1 P o = .mkmap:=by simp [zA1,hop,hu]
    rw[e'] at h
    exact zRB hop (.inr ⟨k,n,kt,et,rfl,hu⟩) R hfr h
   ·refine bad "op" ?_
    simp only[zA1,hop]
    split
    ·rename_i heq;cases heq
    ·rename_i heq;cases heq
     split
     ·rename_i hu;exact absurd ⟨_,_,_,_,rfl,hu⟩ hq
     ·rfl
    ·rfl
 | makeSlice ty l c =>
  have Hl:=H l (by rw[hop];simp [Op.operands])
  have Hc:=H c (by rw[hop];simp [Op.operands])
  cases hu:P.underlying ty with
  | none => exact bad "op" (by simp [zA1, hop, hu])
  | some d =>
   cases d with
   | slice e =>
    cases hi:P.info? e with
    | none => exact bad "op" (by simp [zA1, hop, hu, hi])
    | some ti =>
     cases hz:ti.zero with
     | none => exact bad "op" (by simp [zA1, hop, hu, hi, hz])
     | some z =>
      by_cases h0:ti.size=0∨z.cells.size≠ti.size
      ·exact bad "op" (by simp only [zA1, hop, hu, hi, hz]; simp only [Option.bind_eq_bind, Option.bind_some, hi, hz, hz, if_pos h0]; rfl)
      ·have e':zA1 P o = .mksl e ti.size ti.bytes z l c:=by
        simp only[zA1,hop,hu,hi];simp only[Option.bind_eq_bind,Option.bind_some,hi,hz,if_neg h0];rfl
       rw[e'] at h
       exact zdW hop hu hi hz h0 R hfr Hl Hc h
   | _ => exact bad "op" (by simp [zA1, hop, hu])
 | slice ty x lo hi mx =>
  have hs:∀ cs b,o.op ≠ .select cs b:=fun cs b e=>by rw[hop] at e;cases e
  have Hx:=H x (by rw[hop];simp [Op.operands])
  have Hlo:∀ x∈lo,VRel μ (zA5 t x) (a.eval x):=fun y hy=>H y (by rw[hop];simp [Op.operands];have:=hy;simp [Option.mem_def] at this;simp [this])
  have Hhi:∀ x∈hi,VRel μ (zA5 t x) (a.eval x):=fun y hy=>H y (by rw[hop];simp [Op.operands];have:=hy;simp [Option.mem_def] at this;simp [this])
  have Hmx:∀ x∈mx,VRel μ (zA5 t x) (a.eval x):=fun y hy=>H y (by rw[hop];simp [Op.operands];have:=hy;simp [Option.mem_def] at this;simp [this])
  cases hu:P.underlying ty with
  | none => exact bad "op" (by simp [zA1, hop, hu])
  | some d =>
   cases d with
   | string=>exact pur (by simp [zA1,hop,hu]) hs
   | slice e =>
    cases hz:szOf P e with
    | none => exact bad "op" (by simp [zA1, hop, hu, hz])
    | some s =>
     by_cases h0:s=0∨(mx.isSome/\hi.isNone)
     ·exact bad "op" (by simp only [zA1, hop, hu, hz]; simp only [Option.bind_eq_bind, Option.bind_some, hz, if_pos h0]; rfl)
     ·have e':zA1 P o = .slc s x lo hi mx:=by simp only[zA1,hop,hu,hz];simp only[Option.bind_eq_bind,Option.bind_some,hz,if_neg h0];rfl
      rw[e'] at h hfoot
      exact zhE hop hu hz h0 R Hx Hlo Hhi Hmx hfoot.1 h
   | array n e =>
    cases hz:szOf P e with
    | none => exact bad "op" (by simp [zA1, hop, hu, hz])
    | some s =>
     by_cases h0:(mx.isSome/\hi.isNone)
     ·exact bad "op" (by simp only [zA1, hop, hu, hz]; simp only [Option.bind_eq_bind, Option.bind_some, hz, if_pos h0]; rfl)
     ·have e':zA1 P o = .sla n s x lo hi mx:=by simp only[zA1,hop,hu,hz];simp only[Option.bind_eq_bind,Option.bind_some,hz,if_neg h0];rfl
      rw[e'] at h hfoot
      exact zhD hop hu hz h0 R Hx Hlo Hhi Hmx hfoot.1 h
   | _ => exact bad "op" (by simp [zA1, hop, hu])
 | fieldAddr ty x i =>
  cases hu:P.underlying ty with
  | none => exact bad "op" (by simp [zA1, hop, hu])
  | some d =>
   cases d with
   | struct fs =>
    cases hf:fs[i]? with
    | none => exact bad "op" (by simp [zA1, hop, hu, hf])
    | some f =>
     cases hz:szOf P f.type with
     | none => exact bad "op" (by simp [zA1, hop, hu, hf, hz])
     | some k =>
      by_cases h0:k=0
      ·exact bad "op" (by simp only [zA1, hop, hu]; simp only [Option.bind_eq_bind, Option.bind_some, hf, hz, if_pos h0]; rfl)
      ·have e':zA1 P o = .fad f.offset x:=by simp only[zA1,hop,hu];simp only[Option.bind_eq_bind,Option.bind_some,hf,hz,if_neg h0];rfl
       rw[e'] at h
       exact zh3 hop hu hf hz h0 R (H x (by rw[hop];simp [Op.operands])) h
   | _ => exact bad "op" (by simp [zA1, hop, hu])
 | field ty x i =>
  cases hu:P.underlying ty with
  | none => exact bad "op" (by simp [zA1, hop, hu])
  | some d =>
   cases d with
   | struct fs =>
    cases hf:fs[i]? with
    | none => exact bad "op" (by simp [zA1, hop, hu, hf])
    | some f =>
     cases hz:szOf P f.type with
     | none => exact bad "op" (by simp [zA1, hop, hu, hf, hz])
     | some k =>
      cases ha:zG7 P f.type with
      | none => exact bad "op" (by simp [zA1, hop, hu, hf, hz, ha])
      | some ag =>
       have e':zA1 P o = .fld f.offset k ag x:=by simp [zA1,hop,hu,hf,hz,ha]
       rw[e'] at h
       exact zh4 hop hu hf hz ha R (H x (by rw[hop];simp [Op.operands])) h
   | _ => exact bad "op" (by simp [zA1, hop, hu])
 | indexAddr ty x i =>
  have Hx:=H x (by rw[hop];simp [Op.operands])
  have Hi:=H i (by rw[hop];simp [Op.operands])
  cases hu:P.underlying ty with
  | none => exact bad "op" (by simp [zA1, hop, hu])
  | some d =>
   cases d with
   | slice e =>
    cases hz:szOf P e with
    | none => exact bad "op" (by simp [zA1, hop, hu, hz])
    | some s =>
     have e':zA1 P o = .iad s x i:=by simp [zA1,hop,hu,hz]
     rw[e'] at h
     exact zh5 hop hu hz R Hx Hi h
   | array n e =>
    cases hz:szOf P e with
    | none => exact bad "op" (by simp [zA1, hop, hu, hz])
    | some s =>
     have e':zA1 P o = .ida n s x i:=by simp [zA1,hop,hu,hz]
     rw[e'] at h
     exact zh6 hop hu hz R Hx Hi h
   | _ => exact bad "op" (by simp [zA1, hop, hu])
 | index ty x i =>
  have hs:∀ cs b,o.op ≠ .select cs b:=fun cs b e=>by rw[hop] at e;cases e
  have Hx:=H x (by rw[hop];simp [Op.operands])
  have Hi:=H i (by rw[hop];simp [Op.operands])
  cases hu:P.underlying ty with
  | none => exact bad "op" (by simp [zA1, hop, hu])
  | some d =>
   cases d with
   | string=>exact pur (by simp [zA1,hop,hu]) hs
   | array n e =>
    cases hz:szOf P e with
    | none => exact bad "op" (by simp [zA1, hop, hu, hz])
    | some s =>
     cases ha:zG7 P e with
     | none => exact bad "op" (by simp [zA1, hop, hu, hz, ha])
     | some ag =>
      have e':zA1 P o = .idx n s ag x i:=by simp [zA1,hop,hu,hz,ha]
      rw[e'] at h
      exact zh7 hop hu hz ha R Hx Hi h
   | _ => exact bad "op" (by simp [zA1, hop, hu])
 | lookup ty m k ok =>
  have Hm:=H m (by rw[hop];simp [Op.operands])
  have Hk:=H k (by rw[hop];simp [Op.operands])
  cases hu:P.underlying ty with
  | none => exact bad "op" (by simp [zA1, hop, hu])
  | some d =>
   cases d with
   | map kt et =>
    cases hd:P.underlying kt with
    | none => exact bad "op" (by simp [zA1, hop, hu, hd])
    | some d' =>
     cases hz:zeroOf P et with
     | none => exact bad "op" (by simp [zA1, hop, hu, hd, hz])
     | some z =>
      have e':zA1 P o = .lookup kt z m k ok:=by simp [zA1,hop,hu,hd,hz]
      rw[e'] at h hfoot
      exact zVU hop hu hd hz R Hm Hk hfoot.1 h
   | _ => exact bad "op" (by simp [zA1, hop, hu])
 | mapUpdate ty m k v =>
  have Hm:=H m (by rw[hop];simp [Op.operands])
  have Hk:=H k (by rw[hop];simp [Op.operands])
  have Hv:=H v (by rw[hop];simp [Op.operands])
  cases hu:P.underlying ty with
  | none => exact bad "op" (by simp [zA1, hop, hu])
  | some d =>
   cases d with
   | map kt et =>
    cases hd:P.underlying kt with
    | none => exact bad "op" (by simp [zA1, hop, hu, hd])
    | some d' =>
     have e':zA1 P o = .mupd kt m k v:=by simp [zA1,hop,hu,hd]
     rw[e'] at h hfoot
     exact zVV (.inl hop) hu hd R Hm Hk Hv (fun i hi=>(hfoot.2 i hi).1) (fun i hi=>(hfoot.2 i hi).2) h
   | _ => exact bad "op" (by simp [zA1, hop, hu])
 | insert ty m k v =>
  have Hm:=H m (by rw[hop];simp [Op.operands])
  have Hk:=H k (by rw[hop];simp [Op.operands])
  have Hv:=H v (by rw[hop];simp [Op.operands])
  cases hu:P.underlying ty with
  | none => exact bad "op" (by simp [zA1, hop, hu])
  | some d =>
   cases d with
   | map kt et =>
    cases hd:P.underlying kt with
    | none => exact bad "op" (by simp [zA1, hop, hu, hd])
    | some d' =>
     have e':zA1 P o = .mupd kt m k v:=by simp [zA1,hop,hu,hd]
     rw[e'] at h hfoot
     exact zVV (.inr hop) hu hd R Hm Hk Hv (fun i hi=>(hfoot.2 i hi).1) (fun i hi=>(hfoot.2 i hi).2) h
   | _ => exact bad "op" (by simp [zA1, hop, hu])
 | extract x i =>
  have e':zA1 P o = .ext x i:=by simp [zA1,hop]
  rw[e'] at h
  exact zh2 hop R (H x (by rw[hop];simp [Op.operands])) h
 | range ty x =>
  cases hu:P.underlying ty with
  | none => exact bad "op" (by simp [zA1, hop, hu])
  | some d =>
   cases d with
   | string =>
    have e':zA1 P o = .rng x:=by simp [zA1,hop,hu]
    rw[e'] at h
    exact zhB hop hu R hfr (H x (by rw[hop];simp [Op.operands])) h
   | _ => exact bad "op" (by simp [zA1, hop, hu])
 | next x b =>
  cases b with
  | true =>
   have e':zA1 P o = .nxt x:=by simp [zA1,hop]
   rw[e'] at h hfoot
   exact zhA hop R (H x (by rw[hop];simp [Op.operands])) (fun i hi=>(hfoot.2 i hi).1) (fun i hi=>(hfoot.2 i hi).2) h
  | false => exact bad "op" (by simp [zA1, hop])
 | call c =>
  have hs:∀ cs b,o.op ≠ .select cs b:=fun cs b e=>by rw[hop] at e;cases e
  have Ha:∀ x∈c.args.toList,VRel μ (zA5 t x) (a.eval x):=fun x hx=>H x (by
   rw[hop];simp only[Op.operands,Call.operands]
   exact Array.mem_append_right _ (by simpa using hx))
  exact zTW (P:=P) hop R Ha hfr hfoot (fun e=>pur e hs) bad h
 | _ => exact bad "op" (by simp [zA1, hop])
theorem zP1 (ρ:Operand->Value)(o:Oper):execOp ρ (zZK o)=execOp ρ o:=by
 cases o;rfl
theorem zPP (o:Oper):zB9 P t (zZK o)=zB9 P t o:=by
 unfold zB9
 simp only[zP1]
 rfl
theorem zUM (ao:AOp):zA6 P call t M (zJA ao)=zA6 P call t M ao:=by
 cases ao <;> first | rfl | simp only[zJA,zA6,zPP]
theorem zUR (ao:AOp):zAQ t (zJA ao)=zAQ t ao:=by cases ao <;> rfl
theorem zSX {ao:AOp}{f:Operand}{l:List Operand}(h:zJA ao = .call f l):ao = .call f l:=by cases ao <;> first | exact h | cases h
theorem zJB {ao:AOp}{g:FuncId}{e:TypeId}{st b:Nat}{x i y:Operand}(h:zJA ao = .ins g e st b x i y):ao = .ins g e st b x i y:=by cases ao <;> first | exact h | cases h
theorem zVN {ao:AOp}{st:Nat}{x y:Operand}(h:zJA ao = .ovl st x y):ao = .ovl st x y:=by cases ao <;> first | exact h | cases h
theorem zN5 (h:∀ f l,zA1 P o ≠ .call f l)(h':∀ g e st b x i y,zA1 P o ≠ .ins g e st b x i y)(h'':∀ st x y,zA1 P o ≠ .ovl st x y):zBE P o=zJA (zA1 P o):=by
 unfold zBE
 split
 ·rename_i e;exact absurd e (h _ _)
 ·rename_i e;exact absurd e (h' _ _ _ _ _ _ _)
 ·rename_i e;exact absurd e (h'' _ _ _)
 ·rfl
theorem zLL (hf:Feet D W (zAQ t (zBE P o))):zBE P o=zJA (zA1 P o):=by
 refine zN5 (fun f l e=>?_) (fun g e' st b x i y e=>?_) (fun st x y e=>?_)
 ·unfold zBE at hf
  rw[e] at hf
  simp only at hf
  split at hf
  ·split at hf <;> exact hf
  ·exact hf
 ·unfold zBE at hf
  rw[e] at hf
  simp only at hf
  split at hf
  ·split at hf
   ·split at hf <;> exact hf
   ·exact hf
  ·exact hf
 ·unfold zBE at hf
  rw[e] at hf
  simp only at hf
  split at hf
  ·split at hf
   ·split at hf <;> exact hf
   ·exact hf
  ·exact hf
theorem zZT (R:RelOn Γ P D μ M.get w)(H:∀ x∈o.op.operands,VRel μ (zA5 t x) (a.eval x))(hfr:M.size<M'.size->μ M.size=none)(hfoot:Feet D W (zAQ t (zBE P o)))
  (h:zA6 P call t M (zBE P o)=some (r,M')):zAN Γ P o W D a μ M w r M':=by
 have e:=zLL hfoot
 rw[e,zUM] at h
 rw[e,zUR] at hfoot
 exact zVX R H hfr hfoot h
theorem zZJ (h : zBE P o ≠ .bad "op") : (∀ c, o.op ≠ .defer c) /\ (∀ cs b, o.op ≠ .select cs b) := by
 constructor
 ·intro c e
  exact h (by simp [zBE,zA1,e,zJA])
 ·intro cs b e
  exact h (by simp [zBE,zA1,e,zJA])
theorem zTX {f:Operand}{l:List Operand}(h:zBE P o = .call f l):∃ c,o.op = .call c/\c.callee = .value f/\l=c.args.toList:=by
 unfold zBE at h
 split at h
 ·split at h
  ·split at h
   ·cases h
    exact⟨_,by assumption,by assumption,rfl⟩
   ·cases h
  ·cases h
 ·exact zE0s
 ·exact zE0s
 ·rename_i h1 h2 h3
  exact absurd (zSX h) (h1 _ _)
theorem zgA {g:FuncId}{e:TypeId}{st b:Nat}{x i y:Operand}(h:zBE P o = .ins g e st b x i y):∃ c,o.op = .call c/\c.callee = .value (.func g)/\c.args.toList=[x,i,y]:=by
 unfold zBE at h
 split at h
 ·exact zE07
 ·split at h
  ·split at h
   ·split at h
    ·rename_i hg hl
     have hg:=eq_of_beq hg
     subst hg
     cases h
     exact⟨_,by assumption,by assumption,hl⟩
    ·cases h
   ·cases h
  ·cases h
 ·exact zE0s
 ·rename_i h1 h2 h3
  exact absurd (zJB h) (h2 _ _ _ _ _ _ _)
theorem zhG {st:Nat}{x y:Operand}(h:zBE P o = .ovl st x y):∃ c g fn t e,o.op = .call c/\c.callee = .value (.func g)/\c.args.toList=[x,y] /\
  P.funcs[g]? = some fn /\ fn.body = none /\ (fn.origin == "slices.overlaps") = true /\ fn.params[0]? = some t /\ P.underlying t = some (.slice e) /\ szOf P e = some st := by
 unfold zBE at h
 split at h
 ·exact zE07
 ·exact zE0s
 ·rename_i h0
  split at h
  ·rename_i c hc
   split at h
   ·rename_i g hcal
    split at h
    ·rename_i hl
     cases h
     simp only[zA1,hc,hcal] at h0
     cases hf:P.funcs[g]? with
     | none=>simp [hf] at h0
     | some fn =>
      simp only[hf,Option.bind_eq_bind,Option.bind_some] at h0
      cases hb:fn.body with
      | some bd =>
       simp only[hb] at h0
       split at h0
       ·split at h0
        ·rename_i t' _ _
         cases hu:P.underlying t' with
         | none=>simp [hu] at h0
         | some d =>
          simp only[hu,Option.bind_some] at h0
          split at h0
          ·rename_i e
           cases hi:P.info? e with
           | none=>simp [hi] at h0
           | some ti=>simp [hi] at h0
          ·simp at h0
        ·simp at h0
       ·simp at h0
      | none =>
       simp only[hb] at h0
       cases ho : fn.origin == "slices.overlaps" with
       | false=>simp [ho] at h0
       | true =>
        simp only[ho,if_true,hl] at h0
        split at h0
        ·rename_i x' y' t' hl' hp
         cases hl'
         cases hu:P.underlying t' with
         | none=>simp [hu] at h0
         | some d =>
          simp only[hu,Option.bind_some] at h0
          split at h0
          ·rename_i e
           cases hi:szOf P e with
           | none=>simp [hi] at h0
           | some s =>
            simp [hi] at h0
            obtain⟨rfl,_,_⟩:=h0
            exact⟨c,g,fn,t',e,hc,hcal,hl,hf,hb,ho,hp,hu,hi⟩
          ·simp at h0
        ·simp at h0
    ·cases h
   ·cases h
  ·cases h
 ·rename_i h1 h2 h3
  exact absurd (zVN h) (h3 _ _ _)
structure MemLe (M M':Mem):Prop where
 le:M.size<=M'.size
 wm:M'.wm=M.wm
 dirt:M.wm<=M.size->M'.dirty=false->M.dirty=false /\ ∀ i,i<M.wm->M'.get i=M.get i
theorem MemLe.refl (M:Mem):MemLe M M:=⟨Nat.le_refl _,rfl,fun _ h=>⟨h,fun _ _=>rfl⟩⟩
theorem MemLe.trans {A B C:Mem}(h:MemLe A B)(k:MemLe B C):MemLe A C :=
 ⟨Nat.le_trans h.le k.le,k.wm.trans h.wm,fun hw hd=>by
  obtain⟨h1,h2⟩:=k.dirt (by rw[h.wm];exact Nat.le_trans hw h.le) hd
  obtain⟨h3,h4⟩:=h.dirt hw h1
  exact⟨h3,fun i hi=>(h2 i (by rw[h.wm];exact hi)).trans (h4 i hi)⟩⟩
theorem MemLe.new {o:AObj}{id:Nat}(h:M.new o=some (id,M')):MemLe M M':=by
 obtain⟨rfl,hs,hold,_,hwm,hd⟩:=Mem.new_spec h
 exact⟨by omega,hwm,fun hw hd'=>⟨hd ▸ hd',fun i hi=>hold i (by omega)⟩⟩
theorem MemLe.put {o:AObj}{id:Nat}(h:M.put id o=some M'):MemLe M M':=by
 obtain⟨hlt,hs,hget,hwm,hd⟩:=Mem.put_spec h
 refine⟨by omega,hwm,fun hw hd'=>?_⟩
 rw[hd,Bool.or_eq_false_iff] at hd'
 have:=(zCE _ _).1 hd'.2
 exact⟨hd'.1,fun i hi=>by rw[hget,if_neg (by omega)]⟩
inductive Turn (M:Mem) (wr:List Nat):Mem->Prop
 | same:Turn M wr M
 | new {o:AObj} {id:Nat} {M':Mem}:M.new o=some (id,M')->Turn M wr M'
 | put {o:AObj} {id:Nat} {M':Mem}:id∈wr->M.put id o=some M'->Turn M wr M'
 | move {o o':AObj} {id id':Nat} {M1 M':Mem}:id∈wr->M.put id o=some M1->M1.new o'=some (id',M')->Turn M wr M'
theorem Turn.le {wr:List Nat}(h:Turn M wr M'):MemLe M M':=by
 cases h with
 | same=>exact .refl _
 | new h=>exact .new h
 | put _ h=>exact .put h
 | move _ h k=>exact(MemLe.put h).trans (.new k)
theorem Turn.keeps {wr:List Nat}(h:Turn M wr M'):∀ i,i<M.size->i ∉ wr->M'.get i=M.get i:=by
 intro i hi hn
 cases h with
 | same=>rfl
 | new h=>exact(Mem.new_spec h).2.2.1 i hi
 | put hw h=>rw[(Mem.put_spec h).2.2.1,if_neg (fun e=>hn (by rw[e];exact hw))]
 | move hw h k =>
  have h1:=Mem.put_spec h
  rw[(Mem.new_spec k).2.2.1 i (by rw[h1.2.1];exact hi),h1.2.2.1,if_neg (fun e=>hn (by rw[e];exact hw))]
theorem zHW {x:AV}{old new:List AV}{n st bytes:Nat}(h:zBF M x old new n st bytes=some (r,M')):Turn M (rowsOf x) M':=by
 unfold zBF at h
 repeat' split at h
 all_goals first
  | (cases h;done)
  | (cases h;first
    | exact .same
    | exact .new (by assumption)
    | (refine .put ?_ (by assumption);simp [rowsOf];done)
    | (refine .move ?_ (by assumption) (by assumption);simp [rowsOf];done))
set_option maxHeartbeats 2000000 in
theorem zHY {call:Tg->List AV->Mem->Option (AV × Mem)}{ao:AOp}{rd wr:List Nat}(hf:zAQ t ao = .acc rd wr)(h:zA6 P call t M ao=some (r,M')):Turn M wr M':=by
 cases ao
 case app=>simp only[zAQ,FP.acc.injEq] at hf;obtain⟨_,rfl⟩:=hf;simp only[zA6] at h;split at h <;> first | exact zHW h | cases h
 case appz=>simp only[zAQ,FP.acc.injEq] at hf;obtain⟨_,rfl⟩:=hf;simp only[zA6] at h;split at h <;> first | exact zHW h | cases h
 case call=>simp [zAQ] at hf
 case ins=>simp [zAQ] at hf
 case ovl=>simp [zAQ] at hf
 case bad=>simp [zAQ] at hf
 all_goals
  simp only[zAQ,FP.acc.injEq] at hf
  obtain⟨_,rfl⟩:=hf
  simp only[zA6] at h
  repeat' split at h
  all_goals first
   | (cases h;done)
   | (cases h;first
     | exact .same
     | exact .new (by assumption)
     | (refine .put ?_ (by assumption);simp only[*,rowsOf];simp;done))
inductive Rch (ops:Array Oper):Nat->Nat->Prop
 | one {i:Nat} {o:Oper} {e:Edge}:ops[i]? = some o->e∈o.after.toList->Region.binds .any e=true->Rch ops i e.on
 | cons {i j:Nat} {o:Oper} {e:Edge}:ops[i]? = some o->e∈o.after.toList->Region.binds .any e=true->Rch ops e.on j->Rch ops i j
theorem zIK (ops:Array Oper):∀ i j,i<ops.size->((Region.before ops).getD i 0).testBit j=true->Rch ops i j:=by
 have key:(Region.before ops).size=ops.size /\ ∀ i,i<ops.size -> ∀ j,((Region.before ops).getD i 0).testBit j=true->Rch ops i j:=by
  unfold Region.before
  refine Array.foldl_induction (motive:=fun k (acc:Array Nat)=>acc.size=k /\ ∀ i,i<k -> ∀ j,(acc.getD i 0).testBit j=true->Rch ops i j) ⟨rfl,fun i h=>absurd h (Nat.not_lt_zero _)⟩ ?_
  intro k acc ⟨h1,h2⟩
  have hk:ops[k.val]? = some ops[k]:=by simp
  have inner:∀ j,(ops[k].after.foldl (fun s e=>if Region.binds .any e then s ||| 2 ^ e.on ||| acc.getD e.on 0 else s) 0).testBit j=true->Rch ops k j:=by
   rw[<- Array.foldl_toList]
   have:∀ (l:List Edge) (s:Nat),(∀ e∈l,e∈ops[k].after.toList)->(∀ j,s.testBit j=true->Rch ops k j) ->
     ∀ j,(l.foldl (fun s e=>if Region.binds .any e then s ||| 2 ^ e.on ||| acc.getD e.on 0 else s) s).testBit j=true->Rch ops k j:=by
    intro l
    induction l with
    | nil=>intro s _ hs j h;exact hs j h
    | cons e l ih =>
     intro s hl hs j h
     refine ih _ (fun e' he'=>hl e' (by simp [he'])) (fun j h=>?_) j h
     by_cases hb:Region.binds .any e=true
     ·simp only[hb,if_true,Nat.testBit_or,Bool.or_eq_true] at h
      rcases h with (h | h) | h
      ·exact hs j h
      ·rw[Nat.testBit_two_pow] at h
       have:=of_decide_eq_true h
       subst this
       exact .one hk (hl e (by simp)) hb
      ·by_cases he:e.on<k.val
       ·exact .cons hk (hl e (by simp)) hb (h2 e.on he j h)
       ·rw[Array.getD_eq_getD_getElem?,Array.getElem?_eq_none (by omega)] at h
        simp at h
     ·simp only[hb,if_false,Bool.false_eq_true] at h
      exact hs j h
   exact this _ 0 (fun e h=>h) (fun j h=>by simp at h)
  refine⟨by simp [h1],fun i hi j h=>?_⟩
  by_cases hik:i<k.val
  ·refine h2 i hik j ?_
   rw[Array.getD_eq_getD_getElem?,Array.getElem?_push,if_neg (by omega)] at h
   rw[Array.getD_eq_getD_getElem?];exact h
  ·have hik:i=k.val:=by omega
   subst hik
   rw[Array.getD_eq_getD_getElem?,Array.getElem?_push,if_pos h1.symm] at h
   exact inner j (by simpa using h)
 exact fun i j hi h=>key.2 i hi j h
def Back (ops:Array Oper):Prop:=∀ i o,ops[i]? = some o -> ∀ e∈o.after.toList,Region.binds .any e=true->e.on<i
theorem Rch.lt {ops:Array Oper}(hb:Back ops){i j:Nat}(h:Rch ops i j):j<i:=by
 induction h with
 | one h1 h2 h3=>exact hb _ _ h1 _ h2 h3
 | cons h1 h2 h3 _ ih=>exact Nat.lt_trans ih (hb _ _ h1 _ h2 h3)
def Closed (ops:Array Oper)(S:Nat->Prop):Prop:=∀ i o,S i->ops[i]? = some o -> ∀ e∈o.after.toList,Region.binds .any e=true->S e.on
theorem Rch.closed {ops:Array Oper}{S:Nat->Prop}(hc:Closed ops S){i j:Nat}(h:Rch ops i j):S i->S j:=by
 induction h with
 | one h1 h2 h3=>exact fun hs=>hc _ _ hs h1 _ h2 h3
 | cons h1 h2 h3 _ ih=>exact fun hs=>ih (hc _ _ hs h1 _ h2 h3)
theorem Rch.ready {ops:Array Oper}{S:Nat->Prop}(hc:Closed ops S){i j:Nat}(h:Rch ops i j)(hr:∀ o,ops[i]? = some o -> ∀ e∈o.after.toList,Region.binds .any e=true->S e.on):S j:=by
 cases h with
 | one h1 h2 h3=>exact hr _ h1 _ h2 h3
 | cons h1 h2 h3 h4=>exact h4.closed hc (hr _ h1 _ h2 h3)
theorem zFT {ops:Array Oper}{i j:Nat}(hi:i<ops.size)(hj:j<ops.size)(hne:j≠i)(h1:¬ Rch ops i j)(h2:¬ Rch ops j i):j∈zDD ops i:=by
 unfold zDD
 simp only[List.mem_filter,List.mem_range]
 refine⟨hj, ?_⟩
 simp only[Bool.and_eq_true,bne_iff_ne,ne_eq,hne,not_false_eq_true,true_and,Bool.not_eq_true']
 split
 ·cases hb:((Region.before ops).getD i 0).testBit j with
  | false=>rfl
  | true=>exact absurd (zIK ops i j hi hb) h1
 ·cases hb:((Region.before ops).getD j 0).testBit i with
  | false=>rfl
  | true=>exact absurd (zIK ops j i hj hb) h2
theorem zL3 {f:FP}{un:List Nat}:∀ (l:List (FP × Nat × Nat)) (i:Nat),zB4 f un i l=true -> ∀ (j:Nat) (g:FP × Nat × Nat),l[j]? = some g->i+j∈un->zBS f g=true:=by
 intro l
 induction l with
 | nil=>intro i _ j g h;simp at h
 | cons x l ih =>
  intro i h j g hj hm
  simp only[zB4,Bool.and_eq_true,Bool.or_eq_true] at h
  cases j with
  | zero =>
   simp at hj;subst hj
   rcases h.1 with h1 | h1
   ·simp at h1;exact absurd hm h1
   ·exact h1
  | succ j=>exact ih (i+1) h.2 j g (by simpa using hj) (by rw[show i+1+j=i+(j+1) by omega];exact hm)
structure Run (P:Program) (call:Tg->List AV->Mem->Option (AV × Mem)) (L:List AOper) (t:List AV) (M:Mem) (t':List AV) (M':Mem) where
 T:Nat->List AV
 Ms:Nat->Mem
 F:Nat->FP
 V:Nat->AV
 t0:T 0=t
 m0:Ms 0=M
 t1:T L.length=t'
 m1:Ms L.length=M'
 step:∀ k o,L[k]? = some o->zBJ P call o (T k) (Ms k)=some (F k,V k,Ms (k+1))/\T (k+1)=putA (T k) o.dst (V k)
 apart:∀ k o,L[k]? = some o -> ∀ j,j<k->j∈o.unord->zBS (F k) (F j,(Ms j).size,(Ms (j+1)).size)=true
theorem zNA {P:Program}{call:Tg->List AV->Mem->Option (AV × Mem)}:∀ (L:List AOper) (log:List (FP × Nat × Nat)) (t:List AV) (M:Mem) (t':List AV) (M':Mem),zAK P call L log t M=some (t',M') ->
  ∃ (T:Nat->List AV) (Ms:Nat->Mem) (G:Nat->FP × Nat × Nat) (V:Nat->AV),T log.length=t/\Ms log.length=M/\T (log.length+L.length)=t'/\Ms (log.length+L.length)=M'/\(∀ j g,log[j]? = some g->G j=g) /\
   (∀ k o,L[k]? = some o->zBJ P call o (T (log.length+k)) (Ms (log.length+k))=some ((G (log.length+k)).1,V (log.length+k),Ms (log.length+k+1))/\T (log.length+k+1)=putA (T (log.length+k)) o.dst (V (log.length+k)) /\
    (G (log.length+k)).2=((Ms (log.length+k)).size,(Ms (log.length+k+1)).size)) /\
   (∀ k o,L[k]? = some o -> ∀ j,j<log.length+k->j∈o.unord->zBS (G (log.length+k)).1 (G j)=true):=by
 intro L
 induction L with
 | nil =>
  intro log t M t' M' h
  simp only[zAK,Option.some.injEq,Prod.mk.injEq] at h
  obtain⟨rfl,rfl⟩:=h
  exact⟨fun _=>t,fun _=>M,fun j=>(log[j]?).getD (.pure,0,0),fun _=>zA3,rfl,rfl,rfl,rfl,fun j g h=>by simp [h],fun k o h=>by simp at h,fun k o h=>by simp at h⟩
 | cons o L ih =>
  intro log t M t' M' h
  simp only[zAK] at h
  cases hs:zBJ P call o t M with
  | none=>simp [hs] at h
  | some x =>
   obtain⟨f,v,M1⟩:=x
   simp only[hs] at h
   cases ha:zB4 f o.unord 0 log with
   | false=>simp [ha] at h
   | true =>
    simp only[ha] at h
    obtain⟨T,Ms,F,V,h1,h2,h3,h4,h5,h6,h7⟩:=ih (log++[(f,M.size,M1.size)]) _ _ _ _ h
    simp only[List.length_append,List.length_cons,List.length_nil,Nat.zero_add] at h1 h2 h3 h4 h6 h7
    have hF:F log.length=(f,M.size,M1.size):=h5 log.length _ (by simp)
    refine⟨fun k=>if k=log.length then t else T k,fun k=>if k=log.length then M else Ms k,F,fun k=>if k=log.length then v else V k,by simp,by simp, ?_, ?_,fun j g hj=>h5 j g (by
     have:=(List.getElem?_eq_some_iff.1 hj).1
     rw[List.getElem?_append_left this];exact hj),fun k o' hk=>?_,fun k o' hk j hj hm=>?_⟩
    ·simp only[List.length_cons];rw[if_neg (by omega),show log.length+(L.length+1)=log.length+1+L.length by omega];exact h3
    ·simp only[List.length_cons];rw[if_neg (by omega),show log.length+(L.length+1)=log.length+1+L.length by omega];exact h4
    ·cases k with
     | zero =>
      simp at hk;subst hk
      simp only[Nat.add_zero,if_true]
      rw[if_neg (by omega),if_neg (by omega),h1,h2,hF]
      exact⟨hs,rfl,rfl⟩
     | succ k =>
      have:=h6 k o' (by simpa using hk)
      rw[show log.length+1+k=log.length+(k+1) by omega] at this
      simp only
      rw[if_neg (by omega),if_neg (by omega),if_neg (by omega),if_neg (by omega),if_neg (by omega)]
      exact this
    ·cases k with
     | zero =>
      simp at hk;subst hk
      rw[Nat.add_zero] at hj ⊢
      rw[hF]
      have hj':log[j]? = some log[j]:=by simp [hj]
      rw[h5 j log[j] (by rw[List.getElem?_append_left hj];exact hj')]
      exact zL3 log 0 ha j _ hj' (by simpa using hm)
     | succ k =>
      have:=h7 k o' (by simpa using hk) j (by omega) hm
      rwa [show log.length+1+k=log.length+(k+1) by omega] at this
theorem zN9 {P:Program}{call:Tg->List AV->Mem->Option (AV × Mem)}{L:List AOper}{t:List AV}{M:Mem}{t':List AV}{M':Mem}(h:zAK P call L [] t M=some (t',M')):Nonempty (Run P call L t M t' M'):=by
 obtain⟨T,Ms,G,V,h1,h2,h3,h4,_,h6,h7⟩:=zNA L [] t M t' M' h
 simp only[List.length_nil,Nat.zero_add] at h1 h2 h3 h4 h6 h7
 refine⟨⟨T,Ms,fun k=>(G k).1,V,h1,h2,h3,h4,fun k o hk=>⟨(h6 k o hk).1,(h6 k o hk).2.1⟩,fun k o hk j hj hm=>?_⟩⟩
 have hkl:=(List.getElem?_eq_some_iff.1 hk).1
 have hj':L[j]? = some L[j]:=by simp
 have:=h7 k o hk j hj hm
 rw[<- (h6 j _ hj').2.2]
 exact this
end Go.Ax
