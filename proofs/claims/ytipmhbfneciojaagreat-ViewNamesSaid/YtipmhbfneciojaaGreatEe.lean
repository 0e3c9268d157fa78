/-
  The executor on abstract memory, part 5: what it is, and that what it finds is so of the program.
-/
import Derived.Test.YtipmhbfneciojaaGreatEd
/-
  The executor: slices.Insert is what the executor says: put together.
-/
namespace Go.Ax
open Go
variable {P : Program}

/-- No operation of this code is a slices.Insert. -/
def noInsC (P : Program) : Code → Bool
  | .region _ ops _ => ops.all fun o => match compOp P o with
    | .ins .. => false
    | _ => true
  | .seq a b => noInsC P a && noInsC P b
  | .cond _ a b => noInsC P a && noInsC P b
  | .block _ b => noInsC P b
  | .loop b => noInsC P b
  | .scope b => noInsC P b
  | _ => true

theorem insIn_of (hov : OvlOK P) : ∀ c, noInsC P c = true → InsIn P c := by
  intro c
  induction c with
  | region id ops d =>
    intro h o ho
    simp only [noInsC] at h
    rw [Array.all_eq_true'] at h
    have := h o ho
    refine ⟨fun call hc g e st by' x i y e1 => ?_, ovl_at hov o⟩
    rw [e1] at this; cases this
  | seq a b iha ihb => intro h; simp only [noInsC, Bool.and_eq_true] at h; exact ⟨iha h.1, ihb h.2⟩
  | cond c a b iha ihb => intro h; simp only [noInsC, Bool.and_eq_true] at h; exact ⟨iha h.1, ihb h.2⟩
  | block id b ih => exact ih
  | loop b ih => exact ih
  | scope b ih => exact ih
  | _ => intro _; trivial

/-- Every slices.Insert of the program has the library's code. -/
def InsProg (P : Program) : Prop := ∀ (g : FuncId) (fn : Func), P.funcs[g]? = some fn → (fn.origin == "slices.Insert") = true → ∀ (t e : TypeId) (ti : TypeInfo), fn.params[0]? = some t → P.underlying t = some (.slice e) → P.info? e = some ti →
  (fn.name == "runtime.NumGoroutine") = false ∧ (∀ c, fn.body = some c → noInsC P c = true) ∧
  ∃ O g' z tint tb, InsO O tint tb ∧ compFunc P fn = some ⟨95, insA O g' e ti.size ti.bytes z, [.tmp 6]⟩ ∧ ∀ q, (repCells z q).all oneA = true ∧ (repCells z q).length = q * ti.size

def noCall : Cl := fun _ _ _ => none
theorem noCall_ok : CallOK P noCall := ⟨fun _ _ _ _ _ h => (by cases h), fun _ _ _ _ _ h => (by cases h), fun _ _ _ _ _ h => (by cases h)⟩

theorem ins_name2 {o : Oper} {g : FuncId} {e : TypeId} {st b : Nat} {x i y : Operand} (h : compOp P o = .ins g e st b x i y) :
    ∃ fn c t ti, o.op = .call c ∧ c.callee = .value (.func g) ∧ c.args.toList = [x, i, y] ∧ P.funcs[g]? = some fn ∧ (fn.origin == "slices.Insert") = true ∧ fn.params[0]? = some t ∧ P.underlying t = some (.slice e) ∧ P.info? e = some ti ∧ st = ti.size ∧ b = ti.bytes := by
  obtain ⟨c, hc, hcal, hl⟩ := ins_of h
  obtain ⟨fn, hf, ho⟩ := ins_name h
  refine ⟨fn, c, ?_⟩
  unfold compOp at h
  split at h
  · split at h
    · split at h <;> cases h
    · cases h
  · rename_i h0
    split at h
    · rename_i c' hc'
      rw [hc] at hc'; cases hc'
      split at h
      · rename_i g' hcal'
        split at h
        · cases h
          simp only [compOp0, hc, hcal, hf, Option.bind_eq_bind, Option.bind_some] at h0
          cases hb : fn.body with
          | none => 
            exfalso
            simp only [hb] at h0
            split at h0
            · split at h0
              · rename_i t' _ _
                cases hu : P.underlying t' with
                | none => simp [hu] at h0
                | some d =>
                  simp only [hu, Option.bind_some] at h0
                  split at h0
                  · rename_i e
                    cases hi : szOf P e with
                    | none => simp [hi] at h0
                    | some s => simp [hi] at h0
                  · simp at h0
              · simp at h0
            · simp at h0
          | some bd =>
            simp only [hb, ho, if_true] at h0
            split at h0
            · rename_i x' i' y' t' hl' hp
              cases hu : P.underlying t' with
              | none => simp [hu] at h0
              | some d =>
                simp only [hu, Option.bind_some] at h0
                split at h0
                · rename_i e'
                  cases hi : P.info? e' with
                  | none => simp [hi] at h0
                  | some ti =>
                    simp [hi] at h0
                    obtain ⟨rfl, rfl, rfl, _⟩ := h0
                    exact ⟨t', ti, hc, hcal, hl, hf, ho, hp, hu, hi, rfl, rfl⟩
                · simp at h0
            · simp at h0
        · cases h
      · cases h
    · cases h
  · split at h
    · split at h
      · split at h <;> cases h
      · cases h
    · cases h
  · rename_i hn1 hn2 hn3
    exact absurd (normA_ins h) (hn2 _ _ _ _ _ _ _)

/-- The call, where the value's capacity is known: from what the code comes to. -/
theorem ins_call {fn : Func} {c : Code} {g : FuncId} {O : Nat → Oper} {g' : FuncId} {e : TypeId} {st by' : Nat} {z : Value} (hf : P.funcs[g]? = some fn) (hb : fn.body = some c) (hins : InsIn P c)
    (hcomp : compFunc P fn = some ⟨95, insA O g' e st by' z, [.tmp 6]⟩) {X I Y v : AV} {vx vi vy : Value} {μx : Inj} {Mx M2 : Mem} {w : World} (R : RelOn P (· < Mx.size) μx Mx.get w) (hX : VRel μx X vx) (hI : VRel μx I vi) (hY : VRel μx Y vy)
    (hfr : ∀ i, Mx.size ≤ i → i < M2.size → μx i = none) (hrun : out6 (execCode P 20000 noCall none (insA O g' e st by' z) (fr0 X I Y) Mx) = some (.ret, v, [], M2)) {Q : Ending → World → Prop}
    (hQ : ∀ u w2 μ2, Seg P μx Mx w μ2 M2 w2 → VRel μ2 v u → Q (.returned u) w2) : CallsIn Fence.wide 0 P g #[vx, vi, vy] w Q := by
  obtain ⟨c', rs, hbody, hres, heq⟩ := compFunc_spec hcomp
  rw [hb] at hbody; cases hbody
  have h1 : fn.ntmps = 95 := by have := congrArg AFunc.ntmps heq; exact this.symm
  have h2 : compCode P c = insA O g' e st by' z := by have := congrArg AFunc.body heq; exact this.symm
  have h3 : rs = [.tmp 6] := by have := congrArg AFunc.results heq; exact this.symm
  subst h3
  obtain ⟨t2, hex, ht2⟩ := out6_some hrun
  rw [← h2] at hex
  refine callsIn_of_wp_marks hf hb trivial ?_
  refine code_okI noCall_ok c hins none _ Mx .ret _ M2 hex μx Fence.wide _ w rfl R ?_ ⟨rfl, fun i d hi => by simp [fr0] at hi⟩ hfr _ fun a1 w1 μ1 S T D => ?_
  · show VRels _ _ _
    rw [Array.toList_append, Array.toList_replicate, h1]
    exact VRels.append (.cons hX (.cons hI (.cons hY .nil))) (.undefs _)
  · have hd : a1.defers = [] := List.eq_nil_of_length_eq_zero D.1
    obtain ⟨u, hu, hur⟩ := results_run S.on T hres (show resultsA t2 M2 [.tmp 6] = some [nth undefA t2 6] from rfl)
    show LeavesInM Fence.wide 0 P fn a1.tmps Q a1.defers .returning w1
    rw [hd]
    refine ⟨u, hu, hQ u w1 μ1 S ?_⟩
    rw [ht2] at hur
    exact hur

theorem all_slot {l : List AV} (h : l.all oneA = true) (a b : Nat) : (slot l a b).all oneA = true := by
  rw [List.all_eq_true] at h ⊢
  intro x hx
  exact h x (List.drop_subset _ _ (List.take_subset _ _ hx))

theorem slot_slot {l : List AV} {a b c d : Nat} (h : c + d ≤ b) : slot (slot l a b) c d = slot l (a + c) d := by
  unfold slot
  rw [List.drop_take, List.take_take, List.drop_drop, Nat.min_eq_left (by omega)]

theorem slot_take {l : List AV} {a b c : Nat} (h : c ≤ b) : (slot l a b).take c = slot l a c := by
  unfold slot; rw [List.take_take, Nat.min_eq_left h]
theorem slot_drop {l : List AV} {a b c : Nat} : (slot l a b).drop c = slot l (a + c) (b - c) := by
  unfold slot; rw [List.drop_take, List.drop_drop]

theorem VRels.slot {μ : Inj} {cs : List AV} {vs : List Value} (h : VRels μ cs vs) (o n : Nat) : VRels μ (Ax.slot cs o n) ((vs.drop o).take n) := (h.drop o).take n

theorem slot_zero {α : Type} (l : List α) (o : Nat) : slot l o 0 = [] := by simp [slot]

theorem sl_some {μ : Inj} {id off n st : Nat} {cap : Option Nat} {v : Value} (h : VRel μ (.sl id off n cap st) v) : ∃ p, μ id = some p := by
  cases h with
  | sl e _ => exact ⟨_, e⟩
  | sl0 e _ => exact ⟨_, e⟩

/-- slices.Insert onto a slice of unknown capacity. -/
theorem ins_at (hov : OvlOK P) (hip : InsProg P) (o : Oper) : InsAt P o := by
  refine ⟨fun call hc g e st by' x i y ho t M r M' μ w a R H hfr h => ?_, ovl_at hov o⟩
  obtain ⟨fn, c, tt, ti, hop, hcal, hl, hf, horg, hp, hu, hi, rfl, rfl⟩ := ins_name2 ho
  obtain ⟨hname, hnoins, O, g', z, tint, tb, hO, hcomp, hz⟩ := hip g fn hf horg tt e ti hp hu hi
  have Ha : ∀ q ∈ c.args.toList, VRel μ (evalA t q) (a.eval q) := fun q hq => H q (by rw [hop]; simp only [Op.operands, Call.operands]; exact Array.mem_append_right _ (by simpa using hq))
  have Hx := Ha x (by rw [hl]; simp)
  have Hi := Ha i (by rw [hl]; simp)
  have Hy := Ha y (by rw [hl]; simp)
  have hargs : c.args = #[x, i, y] := by rw [← Array.toList_inj]; exact hl
  obtain ⟨cd, rs, hbody, _, _⟩ := compFunc_spec hcomp
  have hInsIn := insIn_of hov cd (hnoins cd hbody)
  -- from the call to the operation
  have wrap : CallsIn Fence.wide 0 P g #[a.eval x, a.eval i, a.eval y] w (CallPost P μ M w r M') → OpWp P (· < M.size) (· < M.size) o a μ M w r M' := by
    intro hcalls F hF K Q hK
    refine ⟨fun f _ => hF.fn f, ?_⟩
    rw [Oper.semAt_eq _ _ _ (fun c' e => by rw [hop] at e; cases e)]
    have hrun : (execOp a.eval o).run P w = .ok (.enter g #[a.eval x, a.eval i, a.eval y]) w := by
      have hv : a.eval (.func g) = .func (.func g) #[] #[] := rfl
      simp only [execOp, hop, resolve, hcal, hv, Deferred.ofValue, Sem.run_bind, Sem.run_pure, Result.andThen_ok, invoke]
      have e0 : (#[] ++ c.args.map a.eval ++ #[] : Array Value) = #[a.eval x, a.eval i, a.eval y] := by rw [hargs]; simp
      rw [e0]
      simp [callFunc, go_sem, hf, hbody]; simpa using hname
    rw [hrun]
    refine ⟨(fun h => by rw [hF.depth] at h; cases h), ?_⟩
    have k3 : CallsIn F 0 P g #[a.eval x, a.eval i, a.eval y] w (CallPost P μ M w r M') := by rcases hF with rfl | ⟨l, rfl⟩ <;> exact hcalls
    refine k3.mono fun e w' hp => ?_
    obtain ⟨v, μ', rfl, hres⟩ := hp
    exact hK v w' μ' hres
  simp only [execOpA] at h
  split at h
  · -- the executor's own way
    rename_i id off n st' hx
    split at h
    · rename_i id2 off2 m cap2 st2 hy
      split at h
      · rename_i new old ii str cs cs2 hnew hold hii hgx hgy
        cases hcond : (Nat.beq ti.size st' && Nat.beq ti.size st2 && Nat.blt 0 m && Nat.blt 0 ti.size && Nat.ble ii n && Nat.ble ((n + m) * ti.bytes) 4294967296 && Nat.ble (n + m) 4294967296 && !(Nat.beq id id2) && Nat.ble M.size 4294967296 && old.all oneA && new.all oneA) with
        | false => rw [hcond] at h; cases h
        | true =>
          rw [hcond] at h
          simp only at h
          simp only [Bool.and_eq_true] at hcond
          obtain ⟨⟨⟨⟨⟨⟨⟨⟨⟨⟨c1, c2⟩, c3⟩, c4⟩, c5⟩, c6⟩, c7⟩, c8⟩, c9⟩, c10⟩, c11⟩ := hcond
          have c1 := Nat.eq_of_beq_eq_true c1
          have c2 := Nat.eq_of_beq_eq_true c2
          have c3 := (blt_iff _ _).1 c3
          have c4 := (blt_iff _ _).1 c4
          have c5 := Nat.le_of_ble_eq_true c5
          have c6 := Nat.le_of_ble_eq_true c6
          have c7 := Nat.le_of_ble_eq_true c7
          have c8 : id ≠ id2 := Nat.ne_of_beq_eq_false (by simpa using c8)
          have c9 := Nat.le_of_ble_eq_true c9
          subst c1 c2
          have gid := Mem.get_lt hgx
          have gid2 := Mem.get_lt hgy
          split at h
          · rename_i M1 hput
            split at h
            · rename_i k M2' hnewr
              cases h
              obtain ⟨_, hszM1, hgetM1, _, _⟩ := Mem.put_spec hput
              obtain ⟨rfl, hszM', _, _, _, _⟩ := Mem.new_spec hnewr
              have hfr0 : μ M.size = none := hfr M.size (Nat.le_refl _) (by omega)
              -- what is put, and what was there
              have hn2 : off2 + m * ti.size ≤ cs2.length ∧ new = slot cs2 off2 (m * ti.size) := by
                simp only [cellsOf, hgy] at hnew
                split at hnew
                · rename_i hb; exact ⟨Nat.le_of_ble_eq_true hb, by cases hnew; rfl⟩
                · cases hnew
              have hn1 : off + n * ti.size ≤ cs.length ∧ old = slot cs off (n * ti.size) := by
                simp only [cellsOf, hgx] at hold
                split at hold
                · rename_i hb; exact ⟨Nat.le_of_ble_eq_true hb, by cases hold; rfl⟩
                · cases hold
              obtain ⟨hl2, rfl⟩ := hn2
              obtain ⟨hl1, rfl⟩ := hn1
              have hiv : evalA t i = .sc (.int .i64 (ii : Int)) := by
                unfold i64Of at hii
                split at hii
                · rename_i q hq; cases hii; exact hq
                · cases hii
              rw [hx] at Hx
              rw [hy] at Hy
              rw [hiv] at Hi
              have hin : n * ti.size = ii * ti.size + (n - ii) * ti.size := by rw [← Nat.add_mul]; congr 1; omega
              have eT : (slot cs off (n * ti.size)).take (ii * ti.size) ++ slot cs2 off2 (m * ti.size) ++ (slot cs off (n * ti.size)).drop (ii * ti.size) =
                  slot cs off (ii * ti.size) ++ (slot cs2 off2 (m * ti.size) ++ slot cs (off + ii * ti.size) ((n - ii) * ti.size)) := by
                rw [slot_take (by omega), slot_drop, List.append_assoc]
                congr 4; omega
              rw [eT] at hnewr
              -- the rows in the world
              obtain ⟨p, hp⟩ := sl_some Hx
              obtain ⟨py, hpy⟩ := sl_some Hy
              obtain ⟨hc0, he0, hfz, r1, r2, r3, r4, r5, r6, r7⟩ := row_of R gid hp hgx
              obtain ⟨_, _, _, _, _, _, _, y5, _, _⟩ := row_of R gid2 hpy hgy
              have hT := (r5.slot off (ii * ti.size)).append ((y5.slot off2 (m * ti.size)).append (r5.slot (off + ii * ti.size) ((n - ii) * ti.size)))
              have lA : (slot cs off (ii * ti.size)).length = ii * ti.size := slot_len (by omega)
              have lN : (slot cs2 off2 (m * ti.size)).length = m * ti.size := slot_len hl2
              have lT : (slot cs (off + ii * ti.size) ((n - ii) * ti.size)).length = (n - ii) * ti.size := slot_len (by omega)
              have hTl : (slot cs off (ii * ti.size) ++ (slot cs2 off2 (m * ti.size) ++ slot cs (off + ii * ti.size) ((n - ii) * ti.size))).length = (n + m) * ti.size := by
                simp only [List.length_append, lA, lN, lT]
                rw [Nat.add_mul]; omega
              have oc : (slot cs (off + ii * ti.size) ((n - ii) * ti.size)).all oneA = true := by
                have := all_slot c10 (ii * ti.size) ((n - ii) * ti.size)
                rwa [slot_slot (by omega)] at this
              have hlive : live M.get id := by unfold live; rw [hgx]; exact fun e => by cases e
              refine wrap ?_
              -- the real capacity
              have hcap : ∃ cc, n ≤ cc ∧ VRel μ (.sl id off n (some cc) ti.size) (a.eval x) ∧ (0 < cc → a.eval x = .slice (some ⟨p.b, p.o + off, none⟩) n cc ∧ p.o + off + cc * ti.size ≤ p.sz) := by
                generalize a.eval x = vx at Hx
                cases Hx with
                | sl e k1 =>
                  rename_i cc pp
                  rw [hp] at e; cases e
                  exact ⟨cc, k1.1, .sl hp ⟨rfl, k1.1, k1.2.1⟩, fun _ => ⟨rfl, k1.2.1⟩⟩
                | sl0 e k1 =>
                  rename_i xx pp
                  exact ⟨0, Nat.le_refl _, .sl0 e rfl, fun h => by omega⟩
              obtain ⟨cc, hncc, hXr, hXv⟩ := hcap
              by_cases hroom : n + m ≤ cc
              · -- in place
                obtain ⟨hvx, hpsz⟩ := hXv (by omega)
                have hcapn : n * ti.size ≤ cc * ti.size := mul_le_of hncc
                have hcc : cc * ti.size = n * ti.size + (cc - n) * ti.size := by rw [← Nat.add_mul]; congr 1; omega
                obtain ⟨ext, hext⟩ : ∃ ext, ext = ((hc0.toList.drop (p.o + off + n * ti.size)).take ((cc - n) * ti.size)) := ⟨_, rfl⟩
                have lext : ext.length = (cc - n) * ti.size := by rw [hext]; simp; omega
                have l0 : (slot cs off (n * ti.size)).length = n * ti.size := slot_len hl1
                have hcl : (slot cs off (n * ti.size) ++ ext.map AV.sc).length = cc * ti.size := by rw [List.length_append, List.length_map, l0, lext]; omega
                obtain ⟨Mx, hMx⟩ := Mem.new_ok (M := M1) (by omega) (.row str (slot cs off (n * ti.size) ++ ext.map AV.sc))
                have hok : ObjOK P μ (.row str (slot cs off (n * ti.size) ++ ext.map AV.sc)) ⟨p.b, p.o + off, cc * ti.size, p.sz⟩ w := by
                  refine ⟨hc0, he0, hfz, r1, r2, hcl, hpsz, ?_, r6, r7⟩
                  show VRels μ _ ((hc0.toList.drop (p.o + off)).take (cc * ti.size))
                  rw [hcc, List.take_add, List.drop_drop]
                  refine VRels.append ?_ (hext ▸ VRels.scs _)
                  have := r5.slot off (n * ti.size)
                  rw [List.drop_take, List.take_take, List.drop_drop, Nat.min_eq_left (by omega)] at this
                  exact this
                have hres := Res.move (W := (· < M.size)) (D := (· < M.size)) (P := P) (r := undefA) (v := undef) hput hMx hfr0 hp gid gid R hlive ⟨p.b, p.o + off, cc * ti.size, p.sz⟩ (.inl ⟨rfl, rfl⟩) (fun _ _ _ => rfl) rfl rfl rfl (hok.mono (Inj.le_upd hfr0) rfl) (.sc _)
                have Rx : RelOn P (· < Mx.size) (μ.upd M.size ⟨p.b, p.o + off, cc * ti.size, p.sz⟩) Mx.get w := Res.step (W := fun _ => True) hres
                obtain ⟨hk1, hszx, holdx, hnewx, _, _⟩ := Mem.new_spec hMx
                rw [hszM1] at hMx hszx holdx hnewx
                have lex := Inj.le_upd (p := (⟨p.b, p.o + off, cc * ti.size, p.sz⟩ : Pl)) hfr0
                have hXx : VRel (μ.upd M.size ⟨p.b, p.o + off, cc * ti.size, p.sz⟩) (.sl M.size 0 n (some cc) ti.size) (a.eval x) := by
                  rw [hvx]
                  exact .sl (p := ⟨p.b, p.o + off, cc * ti.size, p.sz⟩) (off := 0) (Inj.upd_same ..) ⟨rfl, hncc, hpsz⟩
                have hg2x : Mx.get id2 = some (.row false cs2) := by rw [holdx _ gid2, hgetM1, if_neg (fun e => c8 e.symm), hgy]
                have s1 : slot (slot cs off (n * ti.size) ++ ext.map AV.sc) 0 (n * ti.size) = slot cs off (n * ti.size) := by
                  show List.take (n * ti.size) (List.drop 0 (slot cs off (n * ti.size) ++ ext.map AV.sc)) = _
                  rw [List.drop_zero, List.take_left' l0]
                have s2 : slot (slot cs off (n * ti.size) ++ ext.map AV.sc) 0 (ii * ti.size) = slot cs off (ii * ti.size) := by
                  have : slot (slot (slot cs off (n * ti.size) ++ ext.map AV.sc) 0 (n * ti.size)) 0 (ii * ti.size) = slot (slot cs off (n * ti.size) ++ ext.map AV.sc) 0 (ii * ti.size) := by rw [slot_slot (by omega)]
                  rw [← this, s1, slot_slot (by omega)]; rfl
                have s3 : slot (slot cs off (n * ti.size) ++ ext.map AV.sc) (ii * ti.size) ((n - ii) * ti.size) = slot cs (off + ii * ti.size) ((n - ii) * ti.size) := by
                  have : slot (slot (slot cs off (n * ti.size) ++ ext.map AV.sc) 0 (n * ti.size)) (ii * ti.size) ((n - ii) * ti.size) = slot (slot cs off (n * ti.size) ++ ext.map AV.sc) (ii * ti.size) ((n - ii) * ti.size) := by rw [slot_slot (by omega), Nat.zero_add]
                  rw [← this, s1, slot_slot (by omega)]
                have H : InsHyp Mx M.size id2 off2 n m cc ii ti.size ti.bytes str (slot cs off (n * ti.size) ++ ext.map AV.sc) cs2 :=
                  ⟨hnewx, hg2x, hcl, hl2, hncc, c5, c3, c4, by omega, c6, c7, by omega, by rw [s1]; exact c10, c11⟩
                have fin : ∀ (rest : List AV) (M3 : Mem), M3.size = Mx.size → (∀ j, j ≠ M.size → M3.get j = Mx.get j) →
                    M3.get M.size = some (.row str ((slot cs off (ii * ti.size) ++ (slot cs2 off2 (m * ti.size) ++ slot cs (off + ii * ti.size) ((n - ii) * ti.size))) ++ rest)) →
                    ∀ u w2 μ2, Seg P (μ.upd M.size ⟨p.b, p.o + off, cc * ti.size, p.sz⟩) Mx w μ2 M3 w2 → VRel μ2 (.sl M.size 0 (n + m) (some cc) ti.size) u → CallPost P μ M w (.sl M1.size 0 (n + m) none ti.size) M' (.returned u) w2 := by
                  intro rest M3 hs3 hk3 hg3 u w2 μ2 S hu
                  have hq2 : μ2 M.size = some ⟨p.b, p.o + off, cc * ti.size, p.sz⟩ := S.ext.sub _ _ (Inj.upd_same ..)
                  exact ⟨u, _, rfl, ins_fin (k := M1.size) (kk := M.size) (qx := ⟨p.b, p.o + off, cc * ti.size, p.sz⟩) R hfr0 hp hlive hput (by rw [hszM1]; exact hMx) rfl rfl S (fun j hj => by rw [hk3 j (by omega), holdx j hj]) (Nat.le_refl _) hq2 hg3 (.inl rfl) (.inl rfl) hT hTl (by omega) hu hnewr⟩
                have hIx : VRel (μ.upd M.size ⟨p.b, p.o + off, cc * ti.size, p.sz⟩) (.sc (.int .i64 (ii : Int))) (a.eval i) := Hi.mono lex
                have hYx := Hy.mono lex
                by_cases hend : ii = n
                · subst hend
                  obtain ⟨M3, hrun, hput3⟩ := ins_end_room (P := P) (call := noCall) (g := g') (e := e) (z := z) (cap2 := cap2) hO H hroom
                  obtain ⟨_, hs3, hg3, _, _⟩ := Mem.put_spec hput3
                  refine ins_call hf hbody hInsIn hcomp Rx hXx hIx hYx (fun i h1 h2 => by omega) hrun fun u w2 μ2 S hu => fin (((slot cs off (ii * ti.size) ++ ext.map AV.sc).drop (ii * ti.size + m * ti.size))) M3 hs3 (fun j hj => by rw [hg3, if_neg hj]) ?_ u w2 μ2 S hu
                  rw [hg3, if_pos rfl]
                  have z0 : slot cs (off + ii * ti.size) ((ii - ii) * ti.size) = [] := by rw [Nat.sub_self, Nat.zero_mul, slot_zero]
                  rw [z0, List.append_nil]
                  unfold lay
                  rw [List.take_left' l0, lN]
                · obtain ⟨M3, rest, hrun, hs3, hk3, hg3⟩ := ins_mid_room (P := P) (call := noCall) (g := g') (e := e) (z := z) (cap2 := cap2) hO H (by rw [s3]; exact oc) (by omega) hroom
                  rw [s2, s3] at hg3
                  exact ins_call hf hbody hInsIn hcomp Rx hXx hIx hYx (fun i h1 h2 => by omega) hrun fun u w2 μ2 S hu => fin rest M3 hs3 hk3 hg3 u w2 μ2 S hu
              · -- a new row
                have H : InsHypG M id id2 off off2 n m cc ii ti.size ti.bytes str cs cs2 :=
                  ⟨hgx, hgy, hl1, hl2, hncc, c5, c3, c4, c8, c6, c7, by omega, c10, c11⟩
                have fin : ∀ (M3 : Mem), M3.size = M.size + 1 → (∀ j, j < M.size → M3.get j = M.get j) →
                    M3.get M.size = some (.row false (slot cs off (ii * ti.size) ++ (slot cs2 off2 (m * ti.size) ++ slot cs (off + ii * ti.size) ((n - ii) * ti.size)))) →
                    ∀ u w2 μ2, Seg P μ M w μ2 M3 w2 → VRel μ2 (.sl M.size 0 (n + m) none ti.size) u → CallPost P μ M w (.sl M1.size 0 (n + m) none ti.size) M' (.returned u) w2 := by
                  intro M3 hs3 hk3 hg3 u w2 μ2 S hu
                  obtain ⟨μ', hres⟩ := ins_fin_grow R hfr0 hput S hs3 hk3 hg3 hT hTl (by omega) hu hnewr
                  exact ⟨u, μ', rfl, hres⟩
                have hfr3 : ∀ (M3 : Mem), M3.size = M.size + 1 → ∀ i, M.size ≤ i → i < M3.size → μ i = none := fun M3 h3 i h1 h2 => by
                  have : i = M.size := by omega
                  rw [this]; exact hfr0
                by_cases hend : ii = n
                · subst hend
                  obtain ⟨M3, hrun, hnew3⟩ := ins_end_grow (P := P) (call := noCall) (g := g') (e := e) (z := z) (cap2 := cap2) hO H (by omega)
                  obtain ⟨_, hs3, hk3, hg3, _, _⟩ := Mem.new_spec hnew3
                  refine ins_call hf hbody hInsIn hcomp R hXr Hi Hy (hfr3 M3 hs3) hrun fun u w2 μ2 S hu => fin M3 hs3 hk3 ?_ u w2 μ2 S hu
                  rw [hg3]
                  have z0 : slot cs (off + ii * ti.size) ((ii - ii) * ti.size) = [] := by rw [Nat.sub_self, Nat.zero_mul, slot_zero]
                  rw [z0, List.append_nil]
                · obtain ⟨M3, hrun, hs3, hk3, hg3⟩ := ins_mid_grow (P := P) (call := noCall) (g := g') (e := e) (z := z) (cap2 := cap2) hO H hz oc (by omega) (by omega)
                  exact ins_call hf hbody hInsIn hcomp R hXr Hi Hy (hfr3 M3 hs3) hrun fun u w2 μ2 S hu => fin M3 hs3 hk3 hg3 u w2 μ2 S hu
            · cases h
          · cases h
      · cases h
    · cases h
  · -- by the code
    rename_i hne
    refine wrap ?_
    exact (hc.fn g [evalA t x, evalA t i, evalA t y] M r M' h μ w #[a.eval x, a.eval i, a.eval y] R (.cons Hx (.cons Hi (.cons Hy .nil))) hfr).2

theorem insOK_of (hov : OvlOK P) (hip : InsProg P) : InsOK P := fun o => ins_at hov hip o
end Go.Ax

/-
  The executor: slices.Insert, for a program that is given.
-/
namespace Go.Ax
open Go
variable {P : Program}

/-- Only function g comes of this text. -/
def onlyAt (P : Program) (name : String) (g : Nat) : Bool := (List.range P.funcs.size).all fun i => match P.funcs[i]? with
  | some fn => match fn.origin == name with
    | true => Nat.beq i g
    | false => true
  | none => true
theorem onlyAt_eq {name : String} {g i : Nat} {fn : Func} (h : onlyAt P name g = true) (hf : P.funcs[i]? = some fn) (ho : (fn.origin == name) = true) : i = g := by
  unfold onlyAt at h
  rw [List.all_eq_true] at h
  have := h i (List.mem_range.2 (Array.getElem?_eq_some_iff.1 hf).1)
  rw [hf] at this
  simp only [ho] at this
  exact Nat.eq_of_beq_eq_true this

theorem ovlOK_of {g : FuncId} {fn : Func} {tS tR : TypeId} (h : onlyAt P "slices.overlaps" g = true) (hf : P.funcs[g]? = some fn) (hp : fn.params = #[tS, tS]) (hn : (fn.name == "runtime.NumGoroutine") = false) (hb : fn.body.isNone = true)
    (h1 : Extern.findNext fn = none) (h2 : Extern.find fn = some (Extern.SlicesOverlaps.overlaps #[tS, tS] #[tR])) : OvlOK P := by
  intro g' fn' hf' _ ho
  have := onlyAt_eq h hf' ho
  subst this
  rw [hf] at hf'; cases hf'
  exact ⟨tS, tR, hp, fun args w => run_callFunc_extern hf hn hb h1 h2 args w⟩

def pursOps : List AOper → List Oper
  | [] => []
  | o :: l => match o.op with
    | .pur q => q :: pursOps l
    | _ => pursOps l
def pursOf : ACode → List Oper
  | .region ops _ => pursOps ops
  | .seq a b => pursOf a ++ pursOf b
  | .cond _ a b => pursOf a ++ pursOf b
  | .block _ b => pursOf b
  | .loop b => pursOf b
  | .scope b => pursOf b
  | _ => []
def pursAt (P : Program) (g : Nat) (n : Nat) : Oper := match P.funcs[g]? with
  | some fn => match fn.body with
    | some c => nth default (pursOf (compCode P c)) n
    | none => default
  | none => default
def noInsF (P : Program) (fn : Func) : Bool := match fn.body with
  | some c => noInsC P c
  | none => true

theorem rep_ok {z : Value} {s : Nat} (h1 : (scs z).all oneA = true) (h2 : (scs z).length = s) : ∀ q, (repCells z q).all oneA = true ∧ (repCells z q).length = q * s := by
  intro q
  induction q with
  | zero => exact ⟨rfl, by simp [repCells]⟩
  | succ q ih =>
    refine ⟨?_, ?_⟩
    · simp only [repCells, List.all_append, h1, ih.1, Bool.and_self]
    · simp only [repCells, List.length_append, h2, ih.2]; rw [Nat.add_mul]; omega

theorem insProg_of {g : FuncId} {fn : Func} {t0 e0 : TypeId} {ti0 : TypeInfo} {O : Nat → Oper} {g' : FuncId} {z : Value} {tint tb : TypeId} (h : onlyAt P "slices.Insert" g = true) (hf : P.funcs[g]? = some fn)
    (hp : fn.params[0]? = some t0) (hu : P.underlying t0 = some (.slice e0)) (hi : P.info? e0 = some ti0) (hn : (fn.name == "runtime.NumGoroutine") = false) (hno : noInsF P fn = true) (hO : InsO O tint tb)
    (hcomp : compFunc P fn = some ⟨95, insA O g' e0 ti0.size ti0.bytes z, [.tmp 6]⟩) (hz1 : (scs z).all oneA = true) (hz2 : Nat.beq (scs z).length ti0.size = true) : InsProg P := by
  intro g1 fn1 hf1 ho t e ti hp1 hu1 hi1
  have := onlyAt_eq h hf1 ho
  subst this
  rw [hf] at hf1; cases hf1
  rw [hp] at hp1; cases hp1
  rw [hu] at hu1; cases hu1
  rw [hi] at hi1; cases hi1
  refine ⟨hn, fun c hc => ?_, O, g', z, tint, tb, hO, hcomp, rep_ok hz1 (Nat.eq_of_beq_eq_true hz2)⟩
  unfold noInsF at hno
  rw [hc] at hno
  exact hno
end Go.Ax

/-
  The executor: short words for values, rows and trees of rows.
-/
namespace Go.Ax
open Go
def vI (n : Nat) : Value := .int .i64 (.ofNat n)
def vB (n : Nat) : Value := .int .u8 (.ofNat n)
def vU (n : Nat) : Value := .int .u32 (.ofNat n)
def vR (n : Nat) : Value := .int .i32 (.ofNat n)
def vT : Value := .bool true
def vF : Value := .bool false
def vE : Value := .string ⟨#[]⟩
def vS (l : List UInt8) : Value := .string ⟨l.toArray⟩
def vD : Value := .tuple #[]
def vN : Value := .slice none 0 0
def aI (n : Nat) : AV := .sc (vI n)
def aB (n : Nat) : AV := .sc (vB n)
def aU (n : Nat) : AV := .sc (vU n)
def aR (n : Nat) : AV := .sc (vR n)
def aT : AV := .sc vT
def aF : AV := .sc vF
def aD : AV := .sc vD
def aN : AV := .sc vN
def oR (s : Bool) (l : List AV) : AObj := .row s l
def tN {α : Type} : T α := .nil
def tD {α : Type} (x : α) (l r : T α) : T α := .nd (some x) l r
end Go.Ax
