/-
  The executor on abstract memory, part 4: what it is, and that what it finds is so of the program.
-/
import Derived.Test.YtpljpondmikadaaEc
/-
  The executor for the kernel: each operation says what the executor says.
-/
namespace Go.Ax
open Go

def CallR (ce : ClE) (c : Cl) : Prop := ∀ tg args M k r, ce tg args M k = some r → ∃ v M', c tg args M = some (v, M') ∧ k v M' = some r
def OpR (h : HE) (n : Nat) (ao : AOp) : Prop := ∀ P ce c t l M k r, CallR ce c → TTR t l → l.length = n → h P ce t M k = some r → ∃ v M', execOpA P c l M ao = some (v, M') ∧ k v M' = some r

theorem partE_spec {cs : List AV} {off n : Nat} {ag : Bool} {M : Mem} {k : KE} {r : AV × Mem} (h : partE cs off n ag M k = some r) : ∃ v, part cs off n ag = some v ∧ k v M = some r := by
  unfold partE at h
  split at h
  · rename_i d hd
    obtain ⟨h1, rfl⟩ := dropO_spec _ _ _ hd
    split at h
    · split at h
      · rename_i x hx
        obtain ⟨h2, rfl⟩ := takeO_spec _ _ _ hx
        rw [List.length_drop] at h2
        refine ⟨_, ?_, h⟩
        unfold part
        rw [Nat.ble_eq_true_of_le (by omega)]
        rfl
      · cases h
    · split at h
      · split at h
        · rename_i x rest hx
          have hlen : (cs.drop off).length = rest.length + 1 := by rw [hx]; rfl
          rw [List.length_drop] at hlen
          refine ⟨x, ?_, h⟩
          unfold part
          rw [Nat.ble_eq_true_of_le (by omega)]
          simp [slot, hx]
        · cases h
      · cases h
  · cases h

theorem execOp_none {P : Program} {c : Cl} {t : List AV} {M : Mem} {ao : AOp} {r : AV × Mem} (h : execOpA P kNone t M ao = some r) : execOpA P c t M ao = some r := by
  cases ao
  case call f l =>
    simp only [execOpA, kNone] at h
    split at h <;> cases h
  case ins g e st b x i y =>
    simp only [execOpA, kNone] at h ⊢
    split at h
    · exact h
    · cases h
  all_goals exact h

theorem eOld_ok (n : Nat) (ao : AOp) : OpR (eOld n ao) n ao := by
  intro P ce c t l M k r _ T hn h
  subst hn
  unfold eOld at h
  rw [listT_eq T] at h
  split at h
  · split at h
    · rename_i v M' h'
      rw [execOpK_eq] at h'
      exact ⟨v, M', execOp_none h', h⟩
    · cases h
  · cases h
theorem eOld_feet (n : Nat) (ao : AOp) {P : Program} {ce : ClE} {t : TT} {l : List AV} {M : Mem} {k : KE} {r : AV × Mem} (T : TTR t l) (hn : l.length = n) (h : eOld n ao P ce t M k = some r) : feetIn M.size (footA l ao) = true := by
  subst hn
  unfold eOld at h
  rw [listT_eq T] at h
  split at h
  · rename_i hf; rw [footK_eq] at hf; exact hf
  · cases h

section
variable {n : Nat}
theorem eMov_ok (x : Operand) : OpR (eMov (opd x)) n (.mov x) := by
  intro P ce c t l M k r _ T hn h
  unfold eMov at h
  rw [evalE_opd T] at h
  exact ⟨_, _, rfl, h⟩
theorem ePick_ok (x a b : Operand) : OpR (ePick (opd x) (opd a) (opd b)) n (.pick x a b) := by
  intro P ce c t l M k r _ T hn h
  unfold ePick at h
  rw [evalE_opd T, evalE_opd T, evalE_opd T] at h
  simp only [execOpA]
  split at h
  · rename_i hx; rw [hx]; exact ⟨_, _, rfl, h⟩
  · rename_i hx; rw [hx]; exact ⟨_, _, rfl, h⟩
  · cases h
theorem eNew_ok {o : AObj} {M : Mem} {k : KE} {r : AV × Mem} (h : eNew o M k = some r) : ∃ id M', M.new o = some (id, M') ∧ k (.ptr id 0) M' = some r := by
  unfold eNew at h
  split at h
  · rename_i id M' hn; exact ⟨id, M', hn, h⟩
  · cases h
theorem eAlloc_ok (e : TypeId) (z : Value) : OpR (eAlloc (scs z)) n (.alloc e z) := by
  intro P ce c t l M k r _ T hn h
  obtain ⟨id, M', h1, h2⟩ := eNew_ok h
  simp only [execOpA, h1]
  exact ⟨_, _, rfl, h2⟩
theorem eBox_ok (e : TypeId) (x : Operand) : OpR (eBox (opd x)) n (.box e x) := by
  intro P ce c t l M k r _ T hn h
  unfold eBox at h
  rw [evalE_opd T] at h
  obtain ⟨id, M', h1, h2⟩ := eNew_ok h
  simp only [execOpA, h1]
  exact ⟨_, _, rfl, h2⟩
theorem fillE_spec {t : TT} {l : List AV} (T : TTR t l) : ∀ (ps : List (Nat × Nat × Operand)) (cs r : List AV), fillE t cs (opds ps) = some r → fillA l cs ps = some r := by
  intro ps
  induction ps with
  | nil => intro cs r h; exact h
  | cons p ps ih =>
    intro cs r h
    obtain ⟨off, size, x⟩ := p
    simp only [opds, fillE] at h
    rw [evalE_opd T] at h
    split at h
    · rename_i hl
      split at h
      · rename_i cs' hc
        obtain ⟨h1, rfl⟩ := layO_spec _ _ _ _ hc
        have hl := lenIs_spec _ _ hl
        simp only [fillA]
        rw [if_pos (by simp only [hl, beq_self_eq_true, Bool.true_and]; exact Nat.ble_eq_true_of_le (by omega))]
        exact ih _ _ h
      · cases h
    · cases h
theorem eBuild_ok (z : Value) (ps : List (Nat × Nat × Operand)) : OpR (eBuild (scs z) (opds ps)) n (.build z ps) := by
  intro P ce c t l M k r _ T hn h
  unfold eBuild at h
  split at h
  · rename_i cs hc
    simp only [execOpA, fillE_spec T _ _ _ hc]
    exact ⟨_, _, rfl, h⟩
  · cases h
theorem eLoad_ok (m : Nat) (ag : Bool) (x : Operand) : OpR (eLoad m ag (opd x)) n (.load m ag x) := by
  intro P ce c t l M k r _ T hn h
  unfold eLoad at h
  rw [evalE_opd T] at h
  simp only [execOpA]
  split at h
  · rename_i id off hx
    rw [hx]
    split at h
    · rename_i str cs hg
      obtain ⟨v, h1, h2⟩ := partE_spec h
      simp only [hg, h1]
      exact ⟨_, _, rfl, h2⟩
    · cases h
  · cases h
theorem eStore_ok (m : Nat) (x y : Operand) : OpR (eStore m (opd x) (opd y)) n (.store m x y) := by
  intro P ce c t l M k r _ T hn h
  unfold eStore at h
  rw [evalE_opd T, evalE_opd T] at h
  simp only [execOpA]
  split at h
  · rename_i id off hx
    rw [hx]
    split at h
    · rename_i str cs hg
      split at h
      · rename_i hl
        split at h
        · rename_i ho
          split at h
          · rename_i cs' hc
            split at h
            · rename_i M' hp
              obtain ⟨h1, rfl⟩ := layO_spec _ _ _ _ hc
              have hl := lenIs_spec _ _ hl
              have ho := allOne_spec _ ho
              simp only [hg]
              rw [show (Nat.beq (cellsA (evalA l y)).length m && Nat.ble (off + m) cs.length && (cellsA (evalA l y)).all oneA) = true by
                rw [hl, ho, Nat.ble_eq_true_of_le (by omega)]; simp]
              simp only [hp]
              exact ⟨_, _, rfl, h⟩
            · cases h
          · cases h
        · cases h
      · cases h
    · cases h
  · cases h
theorem eFad_ok (off : Nat) (x : Operand) : OpR (eFad off (opd x)) n (.fad off x) := by
  intro P ce c t l M k r _ T hn h
  unfold eFad at h
  rw [evalE_opd T] at h
  simp only [execOpA]
  split at h
  · rename_i id o hx
    rw [hx]; exact ⟨_, _, rfl, h⟩
  · cases h
theorem eFld_ok (off m : Nat) (ag : Bool) (x : Operand) : OpR (eFld off m ag (opd x)) n (.fld off m ag x) := by
  intro P ce c t l M k r _ T hn h
  unfold eFld at h
  rw [evalE_opd T] at h
  simp only [execOpA]
  split at h
  · rename_i cs hx
    obtain ⟨v, h1, h2⟩ := partE_spec h
    rw [hx]; simp only [h1]; exact ⟨_, _, rfl, h2⟩
  · rename_i cs hx
    obtain ⟨v, h1, h2⟩ := partE_spec h
    rw [hx]; simp only [h1]; exact ⟨_, _, rfl, h2⟩
  · cases h
theorem eIad_ok (st : Nat) (x i : Operand) : OpR (eIad st (opd x) (opd i)) n (.iad st x i) := by
  intro P ce c t l M k r _ T hn h
  unfold eIad at h
  rw [evalE_opd T, evalE_opd T] at h
  simp only [execOpA]
  split at h
  · rename_i id off len cap st' hx
    split at h
    · rename_i m hm
      split at h
      · rename_i h1
        split at h
        · rename_i h2
          rw [hx, hm]
          simp only [h1, h2, Bool.and_self]
          exact ⟨_, _, rfl, h⟩
        · cases h
      · cases h
    · cases h
  · cases h
theorem dropO_get {α : Type} : ∀ (l : List α) (i : Nat) (x : α) (r : List α), l.drop i = x :: r → l[i]? = some x := fun l i x r h => by
  have := congrArg (·[0]?) h
  simpa using this
theorem eExt_ok (x : Operand) (i : Nat) : OpR (eExt (opd x) i) n (.ext x i) := by
  intro P ce c t l M k r _ T hn h
  unfold eExt at h
  rw [evalE_opd T] at h
  simp only [execOpA]
  split at h
  · rename_i vs hx
    split at h
    · rename_i v rest hd
      obtain ⟨_, h2⟩ := dropO_spec _ _ _ hd
      rw [hx]; simp only [dropO_get _ _ _ _ h2.symm]; exact ⟨_, _, rfl, h⟩
    · cases h
  · rename_i vs hx
    split at h
    · rename_i v rest hd
      obtain ⟨_, h2⟩ := dropO_spec _ _ _ hd
      have := dropO_get _ _ _ _ h2.symm
      rw [List.getElem?_map, Array.getElem?_toList] at this
      cases hv : vs[i]? with
      | none => rw [hv] at this; cases this
      | some u =>
        rw [hv] at this
        cases this
        rw [hx]; simp only [hv]; exact ⟨_, _, rfl, h⟩
    · cases h
  · cases h
theorem evalsE_ok {t : TT} {l : List AV} (T : TTR t l) : ∀ (xs : List Operand), evalsE t (xs.map opd) = xs.map (evalA l) := by
  intro xs
  induction xs with
  | nil => rfl
  | cons x xs ih => simp only [List.map_cons, evalsE, ih, evalE_opd T]
theorem eCall_ok (f : Operand) (args : List Operand) : OpR (eCall (opd f) (args.map opd)) n (.call f args) := by
  intro P ce c t l M k r C T hn h
  unfold eCall at h
  rw [evalE_opd T, evalsE_ok T] at h
  simp only [execOpA]
  split at h
  · rename_i g first cap hx
    rw [hx]
    rw [← List.append_assoc] at h
    exact C _ _ _ _ _ h
  · rename_i id hx
    rw [hx]
    exact C _ _ _ _ _ h
  · cases h
theorem eLen_ok (x : Operand) : OpR (eLen (opd x)) n (.len x) := by
  intro P ce c t l M k r _ T hn h
  unfold eLen at h
  rw [evalE_opd T] at h
  simp only [execOpA]
  split at h
  · rename_i hx; rw [hx]; exact ⟨_, _, rfl, h⟩
  · rename_i hx; rw [hx]; exact ⟨_, _, rfl, h⟩
  · cases h
theorem eMkfn_ok (f : FuncId) (a b : List Operand) : OpR (eMkfn f (a.map opd) (b.map opd)) n (.mkfn f a b) := by
  intro P ce c t l M k r _ T hn h
  unfold eMkfn at h
  rw [evalsE_ok T, evalsE_ok T] at h
  exact ⟨_, _, rfl, h⟩
theorem eNilck_ok (x : Operand) : OpR (eNilck (opd x)) n (.nilck x) := by
  intro P ce c t l M k r _ T hn h
  unfold eNilck at h
  rw [evalE_opd T] at h
  simp only [execOpA]
  split at h
  · rename_i hx; rw [hx]; exact ⟨_, _, rfl, h⟩
  · rename_i hx; rw [hx]; exact ⟨_, _, rfl, h⟩
  · rename_i hx; rw [hx]; exact ⟨_, _, rfl, h⟩
  · cases h
end
end Go.Ax

/-
  The executor for the kernel: own int operations; the table of operations.
-/
namespace Go.Ax
open Go
variable {n : Nat}

theorem sameK_eq {a b : IntKind} (h : sameK a b = true) : a = b := by
  cases a <;> cases b <;> first | rfl | cases h

def bop : ICmp → BinOp
  | .lss => .lss | .leq => .leq | .gtr => .gtr | .geq => .geq | .eql => .eql | .neq => .neq

theorem pureRun_bind {α β : Type} {P : Program} (f : α → Sem β) {b : β} : ∀ {s : Sem α} {a : α}, pureRun P s = some a → pureRun P (f a) = some b → pureRun P (s >>= f) = some b := by
  intro s
  induction s with
  | pure a => intro c h k; simp [pureRun] at h; subst h; exact k
  | program k ih => intro c h k'; exact ih P h k'
  | mark m k ih => intro c h k'; exact ih h k'
  | _ => intro c h; simp [pureRun] at h

theorem guard_int (P : Program) (op : BinOp) (ty : TypeId) (x y : Operand) (k k' : IntKind) (a b : Int) : pureRun P (eqGuard op ty x y (.int k a) (.int k' b)) = some () := by
  cases op <;> rfl

theorem pureOp_bin {P : Program} {l : List AV} {o : Oper} {op : BinOp} {ty yt : TypeId} {x y : Operand} {k : IntKind} {a b : Int} (ho : o.op = .binOp op ty x y yt) (hx : evalA l x = .sc (.int k a)) (hy : evalA l y = .sc (.int k b)) {v : Value}
    (h : pureRun P (binOp op ty (.int k a) (.int k b)) = some v) : pureOp P l o = some (.sc v) := by
  unfold pureOp
  have h1 : o.op.operands.toList.all (fun x => (toVal (evalA l x)).isSome) = true := by
    rw [ho]; simp [Op.operands, hx, hy, toVal]
  simp only [h1]
  have h2 : pureRun P (execOp (fun x => (toVal (evalA l x)).getD undef) o) = some (.value v) := by
    have hg := guard_int P op ty x y k k a b
    simp only [execOp, ho, hx, hy, toVal, Option.getD_some]
    exact pureRun_bind _ (pureRun_bind _ hg h) rfl
  rw [h2]

theorem ltI_eq (a b : Int) : ltI a b = decide (a < b) := by
  cases a with
  | ofNat a =>
    cases b with
    | ofNat b =>
      show Nat.blt a b = _
      cases h : Nat.blt a b with
      | true => have := (blt_iff a b).1 h; symm; rw [decide_eq_true_iff]; exact Int.ofNat_lt.2 this
      | false =>
        symm; rw [decide_eq_false_iff_not]
        exact fun e => by rw [(blt_iff a b).2 (Int.ofNat_lt.1 e)] at h; cases h
    | negSucc b => symm; show decide _ = false; rw [decide_eq_false_iff_not]; (try simp only [Int.ofNat_eq_natCast]); omega
  | negSucc a =>
    cases b with
    | ofNat b => symm; show decide _ = true; rw [decide_eq_true_iff]; (try simp only [Int.ofNat_eq_natCast]); omega
    | negSucc b =>
      show Nat.blt b a = _
      cases h : Nat.blt b a with
      | true => have := (blt_iff b a).1 h; symm; rw [decide_eq_true_iff]; (try simp only [Int.ofNat_eq_natCast]); omega
      | false =>
        symm; rw [decide_eq_false_iff_not]
        exact fun e => by rw [(blt_iff b a).2 (by omega)] at h; cases h
theorem eqI_eq (a b : Int) : eqI a b = decide (a = b) := by
  cases a with
  | ofNat a =>
    cases b with
    | ofNat b =>
      show Nat.beq a b = _
      cases h : Nat.beq a b with
      | true => have := Nat.eq_of_beq_eq_true h; symm; rw [decide_eq_true_iff, this]
      | false => have := Nat.ne_of_beq_eq_false h; symm; rw [decide_eq_false_iff_not]; (try simp only [Int.ofNat_eq_natCast]); omega
    | negSucc b => symm; show decide _ = false; rw [decide_eq_false_iff_not]; (try simp only [Int.ofNat_eq_natCast]); omega
  | negSucc a =>
    cases b with
    | ofNat b => symm; show decide _ = false; rw [decide_eq_false_iff_not]; (try simp only [Int.ofNat_eq_natCast]); omega
    | negSucc b =>
      show Nat.beq a b = _
      cases h : Nat.beq a b with
      | true => have := Nat.eq_of_beq_eq_true h; symm; rw [decide_eq_true_iff, this]
      | false => have := Nat.ne_of_beq_eq_false h; symm; rw [decide_eq_false_iff_not]; (try simp only [Int.ofNat_eq_natCast]); omega

theorem pure_cmp (P : Program) (c : ICmp) (ty : TypeId) (k : IntKind) (a b : Int) : pureRun P (binOp (bop c) ty (.int k a) (.int k b)) = some (.bool (cmpI c a b)) := by
  cases c <;> simp only [bop, binOp, ne_eq, not_true_eq_false, if_false, Op.intCmp, cmpI, ltI_eq, eqI_eq]
  · rfl
  · show some (Value.bool (decide (a ≤ b))) = _; congr 2; by_cases h : b < a <;> simp [h] <;> omega
  · show some (Value.bool (decide (a > b))) = _; rfl
  · show some (Value.bool (decide (a ≥ b))) = _; congr 2; by_cases h : a < b <;> simp [h] <;> omega
  · show some (Value.bool (a == b)) = _; congr 2
  · show some (Value.bool (a != b)) = _; congr 2

theorem eCmp_ok {o : Oper} {ty yt : TypeId} {x y : Operand} (c : ICmp) (ho : o.op = .binOp (bop c) ty x y yt) : OpR (eCmp c (opd x) (opd y) (eOld n (.pur o))) n (.pur o) := by
  intro P ce cl t l M k r C T hn h
  unfold eCmp at h
  rw [evalE_opd T, evalE_opd T] at h
  split at h
  · rename_i k1 a hx
    split at h
    · rename_i k2 b hy
      split at h
      · rename_i hk
        have := sameK_eq hk; subst this
        simp only [execOpA, pureOp_bin ho hx hy (pure_cmp P c ty k1 a b)]
        exact ⟨_, _, rfl, h⟩
      · cases h
    · cases h
  · exact eOld_ok n _ P ce cl t l M k r C T hn h

theorem wrap_small (k : IntKind) {n : Nat} (h : n ≤ lim k) : k.wrap (.ofNat n) = .ofNat n := by
  cases k <;> simp only [lim] at h <;> simp only [IntKind.wrap, IntKind.bits, IntKind.signed, Int.ofNat_eq_natCast] <;> (simp; omega)

theorem eAdd_ok {o : Oper} {ty yt : TypeId} {x y : Operand} (ho : o.op = .binOp .add ty x y yt) : OpR (eAdd (opd x) (opd y) (eOld n (.pur o))) n (.pur o) := by
  intro P ce cl t l M k r C T hn h
  unfold eAdd at h
  rw [evalE_opd T, evalE_opd T] at h
  split at h
  · rename_i k1 a hx
    split at h
    · rename_i k2 b hy
      split at h
      · rename_i hk
        have := sameK_eq hk; subst this
        split at h
        · rename_i hl
          have hl := Nat.le_of_ble_eq_true hl
          have : pureRun P (binOp .add ty (.int k1 (.ofNat a)) (.int k1 (.ofNat b))) = some (.int k1 (.ofNat (Nat.add a b))) := by
            simp only [binOp, ne_eq, not_true_eq_false, if_false, Op.intArith]
            show some (Value.int k1 (k1.wrap (Int.ofNat (Nat.add a b)))) = _
            rw [wrap_small k1 hl]
          simp only [execOpA, pureOp_bin ho hx hy this]
          exact ⟨_, _, rfl, h⟩
        · exact eOld_ok n _ P ce cl t l M k r C T hn h
      · cases h
    · exact eOld_ok n _ P ce cl t l M k r C T hn h
  · exact eOld_ok n _ P ce cl t l M k r C T hn h

theorem eSub_ok {o : Oper} {ty yt : TypeId} {x y : Operand} (ho : o.op = .binOp .sub ty x y yt) : OpR (eSub (opd x) (opd y) (eOld n (.pur o))) n (.pur o) := by
  intro P ce cl t l M k r C T hn h
  unfold eSub at h
  rw [evalE_opd T, evalE_opd T] at h
  split at h
  · rename_i k1 a hx
    split at h
    · rename_i k2 b hy
      split at h
      · rename_i hk
        have := sameK_eq hk; subst this
        split at h
        · rename_i hl
          have hl := Nat.le_of_ble_eq_true hl
          split at h
          · rename_i hm
            have hm := Nat.le_of_ble_eq_true hm
            have : pureRun P (binOp .sub ty (.int k1 (.ofNat a)) (.int k1 (.ofNat b))) = some (.int k1 (.ofNat (Nat.sub a b))) := by
              simp only [binOp, ne_eq, not_true_eq_false, if_false, Op.intArith]
              show some (Value.int k1 (k1.wrap (Int.ofNat a - Int.ofNat b))) = _
              rw [show Int.ofNat a - Int.ofNat b = Int.ofNat (Nat.sub a b) by
                show (a : Int) - (b : Int) = ((a - b : Nat) : Int); omega]
              rw [wrap_small k1 (n := Nat.sub a b) (Nat.le_trans (Nat.sub_le a b) hm)]
            simp only [execOpA, pureOp_bin ho hx hy this]
            exact ⟨_, _, rfl, h⟩
          · exact eOld_ok n _ P ce cl t l M k r C T hn h
        · exact eOld_ok n _ P ce cl t l M k r C T hn h
      · cases h
    · exact eOld_ok n _ P ce cl t l M k r C T hn h
  · exact eOld_ok n _ P ce cl t l M k r C T hn h

theorem eNot_ok {o : Oper} {ty : TypeId} {x : Operand} (ho : o.op = .unOp .not ty x) : OpR (eNot (opd x)) n (.pur o) := by
  intro P ce cl t l M k r C T hn h
  unfold eNot at h
  rw [evalE_opd T] at h
  have key : ∀ b, evalA l x = .sc (.bool b) → pureOp P l o = some (.sc (.bool (!b))) := fun b hx => by
    unfold pureOp
    have h1 : o.op.operands.toList.all (fun x => (toVal (evalA l x)).isSome) = true := by
      rw [ho]; simp [Op.operands, hx, toVal]
    simp only [h1]
    have h2 : pureRun P (execOp (fun x => (toVal (evalA l x)).getD undef) o) = some (.value (.bool (!b))) := by
      simp only [execOp, ho, hx, toVal, Option.getD_some]
      rfl
    rw [h2]
  split at h
  · rename_i hx
    simp only [execOpA, key _ hx]; exact ⟨_, _, rfl, h⟩
  · rename_i hx
    simp only [execOpA, key _ hx]; exact ⟨_, _, rfl, h⟩
  · cases h

/-- The handler in the box. -/
def EBox.h : EBox → HE
  | .mk h => h

theorem purBox_ok (o : Oper) : OpR (purBox n o).h n (.pur o) := by
  unfold purBox
  split
  · rename_i op ty x y yt ho
    cases op
    case lss => exact eCmp_ok .lss ho
    case leq => exact eCmp_ok .leq ho
    case gtr => exact eCmp_ok .gtr ho
    case geq => exact eCmp_ok .geq ho
    case eql => exact eCmp_ok .eql ho
    case neq => exact eCmp_ok .neq ho
    case add => exact eAdd_ok ho
    case sub => exact eSub_ok ho
    all_goals exact eOld_ok n (.pur o)
  · rename_i op ty x ho
    cases op
    case not => exact eNot_ok ho
    all_goals exact eOld_ok n (.pur o)
  · exact eOld_ok n (.pur o)

theorem eIns_ok (g : FuncId) (e : TypeId) (st b : Nat) (x i y : Operand) : OpR (eIns g (opd x) (opd i) (opd y) (eOld n (.ins g e st b x i y))) n (.ins g e st b x i y) := by
  intro P ce cl t l M k r C T hn h
  unfold eIns at h
  rw [evalE_opd T, evalE_opd T, evalE_opd T] at h
  have key : (∀ id off len st', evalA l x ≠ .sl id off len none st') → ce (.fn g) [evalA l x, evalA l i, evalA l y] M k = some r → ∃ v M', execOpA P cl l M (.ins g e st b x i y) = some (v, M') ∧ k v M' = some r := fun hne h => by
    obtain ⟨v, M', h1, h2⟩ := C _ _ _ _ _ h
    refine ⟨v, M', ?_, h2⟩
    simp only [execOpA]
    exact h1
  split at h
  · rename_i id off len c st' hx
    split at h
    · exact eOld_ok n _ P ce cl t l M k r C T hn h
    · exact key (fun a b c d e => by rw [hx] at e; cases e) h
  · rename_i hno
    exact key (fun a b c d e => hno _ _ _ _ _ e) h

theorem opBox_ok (ao : AOp) : OpR (opBox n ao).h n ao := by
  cases ao
  case mov x => exact eMov_ok x
  case pick c a b => exact ePick_ok c a b
  case alloc e z => exact eAlloc_ok e z
  case box e x => exact eBox_ok e x
  case build z ps => exact eBuild_ok z ps
  case load m ag x => exact eLoad_ok m ag x
  case store m x v => exact eStore_ok m x v
  case fad off x => exact eFad_ok off x
  case fld off m ag x => exact eFld_ok off m ag x
  case iad st x i => exact eIad_ok st x i
  case ext x i => exact eExt_ok x i
  case call f args => exact eCall_ok f args
  case len x => exact eLen_ok x
  case mkfn f a b => exact eMkfn_ok f a b
  case nilck x => exact eNilck_ok x
  case pur o => exact purBox_ok o
  case bsl x0 x1 x2 x3 x4 => exact eOld_ok n (.bsl x0 x1 x2 x3 x4)
  case eqnil x0 x1 x2 x3 => exact eOld_ok n (.eqnil x0 x1 x2 x3)
  case slc x0 x1 x2 x3 x4 => exact eOld_ok n (.slc x0 x1 x2 x3 x4)
  case sla x0 x1 x2 x3 x4 x5 => exact eOld_ok n (.sla x0 x1 x2 x3 x4 x5)
  case ida x0 x1 x2 x3 => exact eOld_ok n (.ida x0 x1 x2 x3)
  case idx x0 x1 x2 x3 x4 => exact eOld_ok n (.idx x0 x1 x2 x3 x4)
  case mkmap => exact eOld_ok n .mkmap
  case mksl x0 x1 x2 x3 x4 x5 => exact eOld_ok n (.mksl x0 x1 x2 x3 x4 x5)
  case lookup x0 x1 x2 x3 x4 => exact eOld_ok n (.lookup x0 x1 x2 x3 x4)
  case mupd x0 x1 x2 x3 => exact eOld_ok n (.mupd x0 x1 x2 x3)
  case mlen x0 => exact eOld_ok n (.mlen x0)
  case ovl x0 x1 x2 => exact eOld_ok n (.ovl x0 x1 x2)
  case app x0 x1 x2 x3 x4 x5 => exact eOld_ok n (.app x0 x1 x2 x3 x4 x5)
  case appz x0 x1 x2 x3 x4 x5 => exact eOld_ok n (.appz x0 x1 x2 x3 x4 x5)
  case ins g e st b x i y => exact eIns_ok g e st b x i y
  case cpy x0 x1 x2 => exact eOld_ok n (.cpy x0 x1 x2)
  case cap x0 => exact eOld_ok n (.cap x0)
  case clr x0 x1 x2 => exact eOld_ok n (.clr x0 x1 x2)
  case s2b x0 x1 => exact eOld_ok n (.s2b x0 x1)
  case mrk x0 => exact eOld_ok n (.mrk x0)
  case b2s x0 => exact eOld_ok n (.b2s x0)
  case rng x0 => exact eOld_ok n (.rng x0)
  case nxt x0 => exact eOld_ok n (.nxt x0)
  case bad x0 => exact eOld_ok n (.bad x0)
end Go.Ax

/-
  The executor for the kernel: what is read and written lies in memory; regions in the order of the text.
-/
namespace Go.Ax
open Go
variable {n : Nat}

theorem ptr_feet {l : List AV} {x : Operand} {id off : Nat} {M : Mem} {o : AObj} (hx : evalA l x = .ptr id off) (hg : M.get id = some o) : (rowsOf (evalA l x)).all (Nat.blt · M.size) = true := by
  rw [hx]
  simp only [rowsOf, List.all_cons, List.all_nil, Bool.and_true]
  exact (blt_iff _ _).2 (Mem.get_lt hg)

theorem feet_ok (ao : AOp) {P : Program} {ce : ClE} {t : TT} {l : List AV} {M : Mem} {k : KE} {r : AV × Mem} (T : TTR t l) (hn : l.length = n) (h : (opBox n ao).h P ce t M k = some r) : feetIn M.size (footA l ao) = true := by
  cases ao
  case load m ag x =>
    have h : eLoad m ag (opd x) P ce t M k = some r := h
    unfold eLoad at h
    rw [evalE_opd T] at h
    split at h
    · rename_i id off hx
      split at h
      · rename_i str cs hg
        simp only [footA, feetIn, List.all_nil, Bool.and_true]
        exact ptr_feet hx hg
      · cases h
    · cases h
  case store m x v =>
    have h : eStore m (opd x) (opd v) P ce t M k = some r := h
    unfold eStore at h
    rw [evalE_opd T] at h
    split at h
    · rename_i id off hx
      split at h
      · rename_i str cs hg
        simp only [footA, feetIn, List.all_nil, Bool.true_and]
        exact ptr_feet hx hg
      · cases h
    · cases h
  case mov x0 => rfl
  case pick x0 x1 x2 => rfl
  case alloc x0 x1 => rfl
  case box x0 x1 => rfl
  case build x0 x1 => rfl
  case bsl x0 x1 x2 x3 x4 => exact eOld_feet (ce := ce) n (.bsl x0 x1 x2 x3 x4) T hn h
  case nilck x0 => rfl
  case pur x0 => rfl
  case eqnil x0 x1 x2 x3 => exact eOld_feet (ce := ce) n (.eqnil x0 x1 x2 x3) T hn h
  case slc x0 x1 x2 x3 x4 => exact eOld_feet (ce := ce) n (.slc x0 x1 x2 x3 x4) T hn h
  case sla x0 x1 x2 x3 x4 x5 => exact eOld_feet (ce := ce) n (.sla x0 x1 x2 x3 x4 x5) T hn h
  case fad x0 x1 => rfl
  case fld x0 x1 x2 x3 => rfl
  case iad x0 x1 x2 => rfl
  case ida x0 x1 x2 x3 => exact eOld_feet (ce := ce) n (.ida x0 x1 x2 x3) T hn h
  case idx x0 x1 x2 x3 x4 => exact eOld_feet (ce := ce) n (.idx x0 x1 x2 x3 x4) T hn h
  case mkfn x0 x1 x2 => rfl
  case mkmap => exact eOld_feet (ce := ce) n .mkmap T hn h
  case mksl x0 x1 x2 x3 x4 x5 => exact eOld_feet (ce := ce) n (.mksl x0 x1 x2 x3 x4 x5) T hn h
  case lookup x0 x1 x2 x3 x4 => exact eOld_feet (ce := ce) n (.lookup x0 x1 x2 x3 x4) T hn h
  case mupd x0 x1 x2 x3 => exact eOld_feet (ce := ce) n (.mupd x0 x1 x2 x3) T hn h
  case mlen x0 => exact eOld_feet (ce := ce) n (.mlen x0) T hn h
  case ext x0 x1 => rfl
  case call x0 x1 => rfl
  case ovl x0 x1 x2 => rfl
  case app x0 x1 x2 x3 x4 x5 => exact eOld_feet (ce := ce) n (.app x0 x1 x2 x3 x4 x5) T hn h
  case appz x0 x1 x2 x3 x4 x5 => exact eOld_feet (ce := ce) n (.appz x0 x1 x2 x3 x4 x5) T hn h
  case ins x0 x1 x2 x3 x4 x5 x6 => rfl
  case cpy x0 x1 x2 => exact eOld_feet (ce := ce) n (.cpy x0 x1 x2) T hn h
  case len x0 => rfl
  case cap x0 => exact eOld_feet (ce := ce) n (.cap x0) T hn h
  case clr x0 x1 x2 => exact eOld_feet (ce := ce) n (.clr x0 x1 x2) T hn h
  case s2b x0 x1 => exact eOld_feet (ce := ce) n (.s2b x0 x1) T hn h
  case mrk x0 => exact eOld_feet (ce := ce) n (.mrk x0) T hn h
  case b2s x0 => exact eOld_feet (ce := ce) n (.b2s x0) T hn h
  case rng x0 => exact eOld_feet (ce := ce) n (.rng x0) T hn h
  case nxt x0 => exact eOld_feet (ce := ce) n (.nxt x0) T hn h
  case bad x0 => rfl
end Go.Ax

/-
  The executor for the kernel: regions in the order of the text.
-/
namespace Go.Ax
open Go
variable {n : Nat}

def SR (s : SE) (L : List AOper) (n : Nat) : Prop := ∀ P ce c t l M k r, CallR ce c → TTR t l → l.length = n → s P ce t M k = some r →
  ∃ t' l' M', execOps P c L l M = some (l', M') ∧ TTR t' l' ∧ l'.length = n ∧ k t' M' = some r

theorem setNth_length (v : AV) (l : List AV) (d : Nat) : (setNth v l d).length = l.length := by rw [setNth_eq, List.length_set]

theorem guard_true {t : TT} {l : List AV} (T : TTR t l) {g : Nat} {w : Bool} (hg : g < l.length) {c : Bool} (h : getT (pthOf g) t = .sc (.bool c)) : wantedA l (some (g, w)) = (c == w) := by
  have hl := T.len
  rw [T.get g (by omega)] at h
  simp only [wantedA, h]
theorem guard_false {t : TT} {l : List AV} (T : TTR t l) {g : Nat} {w : Bool} (hg : g < l.length) (h : ∀ c, getT (pthOf g) t ≠ .sc (.bool c)) : wantedA l (some (g, w)) = false := by
  have hl := T.len
  rw [T.get g (by omega)] at h
  unfold wantedA
  split
  · cases ‹some (g, w) = none›
  · rename_i d w' e
    cases e
    split
    · rename_i b hb; exact absurd hb (h b)
    · rfl

/-- What an operation that is carried out comes to. -/
theorem do_step {o : AOper} {h : HE} (hb : opBox n o.op = .mk h) {P : Program} {ce : ClE} {c : Cl} {t : TT} {l : List AV} {M : Mem} {k : KE} {r : AV × Mem} (C : CallR ce c) (T : TTR t l) (hn : l.length = n) (hh : h P ce t M k = some r) :
    ∃ v M', feetIn M.size (footA l o.op) = true ∧ execOpA P c l M o.op = some (v, M') ∧ k v M' = some r := by
  have h1 := feet_ok (n := n) o.op (P := P) (ce := ce) (k := k) (M := M) T hn (by rw [hb]; exact hh)
  have h2 := opBox_ok (n := n) o.op
  rw [hb] at h2
  obtain ⟨v, M', h3, h4⟩ := h2 P ce c t l M k r C T hn hh
  exact ⟨v, M', h1, h3, h4⟩

theorem sBox1_ok {o : AOper} {L : List AOper} (ih : SR (runS (sBox n L)) L n) : SR (runS (sBox1 n o (sBox n L))) (o :: L) n := by
  intro P ce c t l M k r C T hn h
  cases hb : opBox n o.op with
  | mk hh =>
    simp only [sBox1, hb] at h
    cases hd : o.dst with
    | some d =>
      simp only [hd] at h
      cases hdn : Nat.blt d n with
      | false => simp only [hdn, runS, sBad] at h; cases h
      | true =>
        simp only [hdn] at h
        have hdl : d < l.length := by rw [hn]; exact (blt_iff _ _).1 hdn
        have go : wantedA l o.guard = true → sDo hh (pthOf d) (runS (sBox n L)) P ce t M k = some r → ∃ t' l' M', execOps P c (o :: L) l M = some (l', M') ∧ TTR t' l' ∧ l'.length = n ∧ k t' M' = some r := fun hw h => by
          unfold sDo at h
          obtain ⟨v, M1, h1, h2, h3⟩ := do_step hb C T hn h
          obtain ⟨t', l', M', k1, k2, k3, k4⟩ := ih P ce c _ (setNth v l d) M1 k r C (T.set hdl v) (by rw [setNth_length]; exact hn) h3
          refine ⟨t', l', M', ?_, k2, k3, k4⟩
          simp only [execOps, hw, h1, h2, hd, putA]
          exact k1
        have skip : wantedA l o.guard = false → sSet (pthOf d) (runS (sBox n L)) P ce t M k = some r → ∃ t' l' M', execOps P c (o :: L) l M = some (l', M') ∧ TTR t' l' ∧ l'.length = n ∧ k t' M' = some r := fun hw h => by
          unfold sSet at h
          obtain ⟨t', l', M', k1, k2, k3, k4⟩ := ih P ce c _ (setNth undefA l d) M k r C (T.set hdl _) (by rw [setNth_length]; exact hn) h
          refine ⟨t', l', M', ?_, k2, k3, k4⟩
          simp only [execOps, hw, hd, putA]
          exact k1
        cases hg : o.guard with
        | none => simp only [hg, runS] at h; exact go (by rw [hg]; rfl) h
        | some gw =>
          obtain ⟨g, w⟩ := gw
          simp only [hg] at h
          cases hgn : Nat.blt g n with
          | false => simp only [hgn, runS, sBad] at h; cases h
          | true =>
            have hgl : g < l.length := by rw [hn]; exact (blt_iff _ _).1 hgn
            simp only [hgn, runS] at h
            unfold sIf at h
            split at h
            · rename_i cc hc
              have e := guard_true (w := w) T hgl hc
              split at h
              · rename_i hcw; exact go (by rw [hg, e, hcw]) h
              · rename_i hcw; exact skip (by rw [hg, e, hcw]) h
            · rename_i hno
              exact skip (by rw [hg]; exact guard_false T hgl fun cc e => hno cc e) h
    | none =>
      simp only [hd] at h
      have go : wantedA l o.guard = true → sDrop hh (runS (sBox n L)) P ce t M k = some r → ∃ t' l' M', execOps P c (o :: L) l M = some (l', M') ∧ TTR t' l' ∧ l'.length = n ∧ k t' M' = some r := fun hw h => by
        unfold sDrop at h
        obtain ⟨v, M1, h1, h2, h3⟩ := do_step hb C T hn h
        obtain ⟨t', l', M', k1, k2, k3, k4⟩ := ih P ce c _ l M1 k r C T hn h3
        refine ⟨t', l', M', ?_, k2, k3, k4⟩
        simp only [execOps, hw, h1, h2, hd, putA]
        exact k1
      have skip : wantedA l o.guard = false → runS (sBox n L) P ce t M k = some r → ∃ t' l' M', execOps P c (o :: L) l M = some (l', M') ∧ TTR t' l' ∧ l'.length = n ∧ k t' M' = some r := fun hw h => by
        obtain ⟨t', l', M', k1, k2, k3, k4⟩ := ih P ce c _ l M k r C T hn h
        refine ⟨t', l', M', ?_, k2, k3, k4⟩
        simp only [execOps, hw, hd, putA]
        exact k1
      cases hg : o.guard with
      | none => simp only [hg, runS] at h; exact go (by rw [hg]; rfl) h
      | some gw =>
        obtain ⟨g, w⟩ := gw
        simp only [hg] at h
        cases hgn : Nat.blt g n with
        | false => simp only [hgn, runS, sBad] at h; cases h
        | true =>
          have hgl : g < l.length := by rw [hn]; exact (blt_iff _ _).1 hgn
          simp only [hgn, runS] at h
          unfold sIf at h
          split at h
          · rename_i cc hc
            have e := guard_true (w := w) T hgl hc
            split at h
            · rename_i hcw; exact go (by rw [hg, e, hcw]) h
            · rename_i hcw; exact skip (by rw [hg, e, hcw]) h
          · rename_i hno
            exact skip (by rw [hg]; exact guard_false T hgl fun cc e => hno cc e) h

theorem sBox0_ok {o : AOper} {L : List AOper} (ih : SR (runS (sBox n L)) L n) : SR (runS (sBox0 n o (sBox n L))) (o :: L) n := by
  unfold sBox0
  split
  · rename_i x hop
    split
    · rename_i hg
      split
      · rename_i d hd
        split
        · rename_i hdn
          intro P ce c t l M k r C T hn h
          have hdl : d < l.length := by rw [hn]; exact (blt_iff _ _).1 hdn
          simp only [runS, sMov] at h
          rw [evalE_opd T] at h
          obtain ⟨t', l', M', k1, k2, k3, k4⟩ := ih P ce c _ (setNth (evalA l x) l d) M k r C (T.set hdl _) (by rw [setNth_length]; exact hn) h
          refine ⟨t', l', M', ?_, k2, k3, k4⟩
          have hf : feetIn M.size (footA l o.op) = true := by rw [hop]; rfl
          have he : execOpA P c l M o.op = some (evalA l x, M) := by rw [hop]; rfl
          simp only [execOps, wantedA, hg, hf, he, hd, putA]
          exact k1
        · intro P ce c t l M k r C T hn h; cases h
      · exact sBox1_ok ih
    · exact sBox1_ok ih
  · exact sBox1_ok ih

theorem sBox_ok : ∀ (L : List AOper), SR (runS (sBox n L)) L n := by
  intro L
  induction L with
  | nil => intro P ce c t l M k r C T hn h; exact ⟨t, l, M, rfl, T, hn, h⟩
  | cons o L ih => exact sBox0_ok ih
end Go.Ax

/-
  The executor for the kernel: regions that draw their order.
-/
namespace Go.Ax
open Go
variable {n : Nat}

theorem apartAll_snoc (f : FP) (un : List Nat) (g : FP × Nat × Nat) : ∀ (l : List (FP × Nat × Nat)) (j : Nat),
    apartAll f un j (l ++ [g]) = (apartAll f un j l && (!un.contains (j + l.length) || apart2 f g)) := by
  intro l
  induction l with
  | nil => intro j; simp [apartAll]
  | cons x l ih =>
    intro j
    simp only [List.cons_append, apartAll, ih, List.length_cons]
    rw [show j + 1 + l.length = j + (l.length + 1) by omega, Bool.and_assoc]

theorem snoc_cases {α : Type} (l : List α) : l = [] ∨ ∃ a x, l = a ++ [x] := by
  cases h : l.reverse with
  | nil => left; simpa using h
  | cons x a => right; exact ⟨a.reverse, x, by rw [← List.reverse_reverse l, h, List.reverse_cons]⟩

theorem apartM_ok (f : FP) (un : List Nat) : ∀ (i : Nat) (l : List (FP × Nat × Nat)), l.length = i → apartM f (maskOf un i) l.reverse = true → apartAll f un 0 l = true := by
  intro i
  induction i with
  | zero => intro l hl _; cases l with
    | nil => rfl
    | cons _ _ => simp at hl
  | succ i ih =>
    intro l hl h
    rcases snoc_cases l with rfl | ⟨a, x, rfl⟩
    · simp at hl
    · have ha : a.length = i := by simpa using hl
      rw [apartAll_snoc]
      simp only [List.reverse_append, List.reverse_cons, List.reverse_nil, List.nil_append, List.singleton_append, maskOf, apartM] at h
      rw [Nat.zero_add, ha]
      split at h
      · rename_i hc
        split at h
        · rename_i h2
          rw [ih a ha h, h2]; simp
        · cases h
      · rename_i hc
        rw [ih a ha h, hc]; rfl

theorem apart2_pure (g : FP × Nat × Nat) : apart2 .pure g = true := by
  simp [apart2, FP.apart, FP.reads, FP.writes]
theorem apartAll_pure (un : List Nat) : ∀ (l : List (FP × Nat × Nat)) (j : Nat), apartAll .pure un j l = true := by
  intro l
  induction l with
  | nil => intro j; rfl
  | cons x l ih => intro j; simp [apartAll, apart2_pure, ih]

theorem below_spec (m : Nat) : ∀ (l : List Nat), below m l = true → l.all (Nat.blt · m) = true := by
  intro l
  induction l with
  | nil => intro _; rfl
  | cons x l ih =>
    intro h
    simp only [below] at h
    split at h
    · rename_i hx; simp only [List.all_cons, hx, Bool.true_and]; exact ih h
    · cases h

def FootSpec (l : List AV) (t : TT) (ao : AOp) : EFoot → Prop
  | .no => footA l ao = .acc [] []
  | .acc f => footA l ao = f t
  | .any => footA l ao = .any

theorem footE_ok {t : TT} {l : List AV} (T : TTR t l) (ao : AOp) : FootSpec l t ao (footE ao) := by
  cases ao <;> simp only [footE, FootSpec, footA, gR, gW, gRW, gRR, evalE_opd T]

theorem footA_acc_or {l : List AV} {t : TT} {f : TT → FP} {ao : AOp} (h : FootSpec l t ao (footE ao)) (he : footE ao = .acc f) : ∃ r w, f t = .acc r w := by
  cases ao <;> simp only [footE] at he <;> first | (cases he; done) | (cases he; exact ⟨_, _, rfl⟩)

def DR (s : DE) (L : List AOper) (i n : Nat) : Prop := ∀ P ce c log t l M k r, CallR ce c → TTR t l → l.length = n → log.length = i → s P ce log.reverse t M k = some r →
  ∃ t' l' M', execDraw P c L log l M = some (l', M') ∧ TTR t' l' ∧ l'.length = n ∧ k t' M' = some r

/-- What is put at a destination: both ways. -/
def PutR (p : Pth) (d : Option Nat) (n : Nat) : Prop := ∀ t l v, TTR t l → l.length = n → TTR (setT p v t) (putA l d v) ∧ (putA l d v).length = n

theorem putR_some {d : Nat} (h : d < n) : PutR (pthOf d) (some d) n := fun t l v T hl => ⟨T.set (by omega) v, by simp only [putA]; rw [setNth_length]; exact hl⟩
theorem putR_none : PutR p255 none n := fun t l v T hl => ⟨T.junk v, hl⟩

theorem execDraw_cons {P : Program} {c : Cl} {o : AOper} {L : List AOper} {log : Log} {l : List AV} {M M' : Mem} {f : FP} {v : AV}
    (h1 : stepDraw P c o l M = some (f, v, M')) (h2 : apartAll f o.unord 0 log = true) :
    execDraw P c (o :: L) log l M = execDraw P c L (log ++ [(f, M.size, M'.size)]) (putA l o.dst v) M' := by
  simp only [execDraw, h1, h2]

theorem dBox1_ok {o : AOper} {L : List AOper} {i : Nat} {p : Pth} {rest : DBox} {h : HE} (hb : opBox n o.op = .mk h) (hp : PutR p o.dst n) (ih : DR (runD rest) L (i + 1) n) :
    ∀ P ce c log t l M k r, CallR ce c → TTR t l → l.length = n → log.length = i → wantedA l o.guard = true →
    runD (dBox1 h p (maskOf o.unord i) rest (footE o.op)) P ce log.reverse t M k = some r →
    ∃ t' l' M', execDraw P c (o :: L) log l M = some (l', M') ∧ TTR t' l' ∧ l'.length = n ∧ k t' M' = some r := by
  intro P ce c log t l M k r C T hn hlog hw hh
  have hop := opBox_ok (n := n) o.op
  rw [hb] at hop
  have hop : OpR h n o.op := hop
  have hf := footE_ok T o.op
  have next : ∀ (f : FP) (v : AV) (M' : Mem), stepDraw P c o l M = some (f, v, M') → apartAll f o.unord 0 log = true →
      runD rest P ce ((f, M.size, M'.size) :: log.reverse) (setT p v t) M' k = some r → ∃ t' l' M', execDraw P c (o :: L) log l M = some (l', M') ∧ TTR t' l' ∧ l'.length = n ∧ k t' M' = some r := by
    intro f v M' h1 h2 h3
    rw [execDraw_cons h1 h2]
    obtain ⟨T1, hl1⟩ := hp t l v T hn
    refine ih P ce c (log ++ [(f, M.size, M'.size)]) _ _ M' k r C T1 hl1 (by simp [hlog]) ?_
    simpa using h3
  -- no footprint
  have no : footA l o.op = .acc [] [] → dNo h p (maskOf o.unord i) (runD rest) P ce log.reverse t M k = some r → ∃ t' l' M', execDraw P c (o :: L) log l M = some (l', M') ∧ TTR t' l' ∧ l'.length = n ∧ k t' M' = some r := by
    intro hfo hh
    unfold dNo at hh
    obtain ⟨v, M', h1, h2⟩ := hop P ce c t l M _ r C T hn hh
    split at h2
    · rename_i hs
      have hs' := Nat.eq_of_beq_eq_true hs
      refine next .pure v M' ?_ (apartAll_pure _ _ _) (by rw [← hs']; exact h2)
      simp only [stepDraw, hw, hfo, List.all_nil, Bool.and_self, h1, List.isEmpty_nil, hs, Bool.true_and]
    · rename_i hs
      split at h2
      · rename_i ha
        refine next (.acc [] []) v M' ?_ (apartM_ok _ _ _ _ hlog ha) h2
        simp only [stepDraw, hw, hfo, List.all_nil, Bool.and_self, h1, List.isEmpty_nil, hs, Bool.true_and]
      · cases h2
  have acc : ∀ rr ww, (rr.isEmpty && ww.isEmpty) = false → footA l o.op = .acc rr ww → below M.size rr = true → below M.size ww = true → apartM (.acc rr ww) (maskOf o.unord i) log.reverse = true →
      (h P ce t M fun v M' => runD rest P ce ((.acc rr ww, M.size, M'.size) :: log.reverse) (setT p v t) M' k) = some r →
      ∃ t' l' M', execDraw P c (o :: L) log l M = some (l', M') ∧ TTR t' l' ∧ l'.length = n ∧ k t' M' = some r := by
    intro rr ww hne hfo hr hw' ha hh
    obtain ⟨v, M', h1, h2⟩ := hop P ce c t l M _ r C T hn hh
    refine next (.acc rr ww) v M' ?_ (apartM_ok _ _ _ _ hlog ha) h2
    simp only [stepDraw, hw, hfo, below_spec _ _ hr, below_spec _ _ hw', Bool.and_self, h1, hne, Bool.false_and]
  cases hfe : footE o.op with
  | no =>
    rw [hfe] at hf hh
    simp only [dBox1, runD] at hh
    exact no hf hh
  | acc f =>
    obtain ⟨rr, ww, hrw⟩ := footA_acc_or hf hfe
    rw [hfe] at hf hh
    have hf : footA l o.op = f t := hf
    simp only [dBox1, runD, dAcc, hrw, dAcc2] at hh
    rw [hrw] at hf
    split at hh
    · rename_i hr
      split at hh
      · rename_i hw'
        split at hh
        · split at hh
          · exact no hf hh
          · split at hh
            · rename_i ha; exact acc _ _ rfl hf hr hw' ha hh
            · cases hh
        · split at hh
          · rename_i ha; exact acc _ _ rfl hf hr hw' ha hh
          · cases hh
      · cases hh
    · cases hh
  | any =>
    rw [hfe] at hf hh
    have hf : footA l o.op = .any := hf
    simp only [dBox1, runD, dAny] at hh
    obtain ⟨v, M', h1, h2⟩ := hop P ce c t l ⟨M.t, M.size, M.size, false⟩ _ r C T hn hh
    simp only [dAny2, dAny3] at h2
    split at h2
    · rename_i hd
      split at h2
      · rename_i ha
        refine next .any v ⟨M'.t, M'.size, M.wm, true⟩ ?_ (apartM_ok _ _ _ _ hlog ha) h2
        simp only [stepDraw, hw, hf, h1, hd, Bool.or_true]
      · cases h2
    · rename_i hd
      split at h2
      · rename_i ha
        refine next .quiet v ⟨M'.t, M'.size, M.wm, M.dirty⟩ ?_ (apartM_ok _ _ _ _ hlog ha) h2
        simp only [stepDraw, hw, hf, h1, hd, Bool.or_false]
      · cases h2

theorem dSkip_ok {o : AOper} {L : List AOper} {i : Nat} {p : Pth} {rest : DBox} (hp : PutR p o.dst n) (ih : DR (runD rest) L (i + 1) n) :
    ∀ P ce c log t l M k r, CallR ce c → TTR t l → l.length = n → log.length = i → wantedA l o.guard = false →
    dSkip p (runD rest) P ce log.reverse t M k = some r →
    ∃ t' l' M', execDraw P c (o :: L) log l M = some (l', M') ∧ TTR t' l' ∧ l'.length = n ∧ k t' M' = some r := by
  intro P ce c log t l M k r C T hn hlog hw hh
  have h1 : stepDraw P c o l M = some (.pure, undefA, M) := by simp only [stepDraw, hw]
  rw [execDraw_cons h1 (apartAll_pure _ _ _)]
  obtain ⟨T1, hl1⟩ := hp t l undefA T hn
  refine ih P ce c _ _ _ M k r C T1 hl1 (by simp [hlog]) ?_
  simp only [dSkip] at hh
  simpa using hh

theorem dIf_ok {o : AOper} {L : List AOper} {i : Nat} {p : Pth} {rest : DBox} {h : HE} {g : Nat} {w : Bool} (hg : o.guard = some (g, w)) (hgn : g < n) (hb : opBox n o.op = .mk h) (hp : PutR p o.dst n) (ih : DR (runD rest) L (i + 1) n) :
    DR (dIf (pthOf g) w (runD (dBox1 h p (maskOf o.unord i) rest (footE o.op))) (dSkip p (runD rest))) (o :: L) i n := by
  intro P ce c log t l M k r C T hn hlog hh
  have hgl : g < l.length := by omega
  unfold dIf at hh
  split at hh
  · rename_i cc hc
    have e := guard_true (w := w) T hgl hc
    split at hh
    · rename_i hcw; exact dBox1_ok hb hp ih P ce c log t l M k r C T hn hlog (by rw [hg, e, hcw]) hh
    · rename_i hcw; exact dSkip_ok hp ih P ce c log t l M k r C T hn hlog (by rw [hg, e, hcw]) hh
  · rename_i hno
    exact dSkip_ok hp ih P ce c log t l M k r C T hn hlog (by rw [hg]; exact guard_false T hgl fun cc e => hno cc e) hh

theorem dBox2_ok {o : AOper} {L : List AOper} {i : Nat} (ih : DR (runD (dBox n (i + 1) L)) L (i + 1) n) : DR (runD (dBox2 n i o (dBox n (i + 1) L))) (o :: L) i n := by
  cases hb : opBox n o.op with
  | mk hh =>
    have plain : ∀ (p : Pth), PutR p o.dst n → o.guard = none → DR (runD (dBox1 hh p (maskOf o.unord i) (dBox n (i + 1) L) (footE o.op))) (o :: L) i n := by
      intro p hp hg P ce c log t l M k r C T hn hlog h
      exact dBox1_ok hb hp ih P ce c log t l M k r C T hn hlog (by rw [hg]; rfl) h
    have bad : DR (runD .bad) (o :: L) i n := by
      intro P ce c log t l M k r C T hn hlog h
      cases h
    simp only [dBox2, hb]
    cases hd : o.dst with
    | some d =>
      cases hdn : Nat.blt d n with
      | false => simp only [hdn]; exact bad
      | true =>
        have hp : PutR (pthOf d) o.dst n := by rw [hd]; exact putR_some ((blt_iff _ _).1 hdn)
        cases hg : o.guard with
        | none => simp only [hdn]; exact plain _ hp hg
        | some gw =>
          obtain ⟨g, w⟩ := gw
          cases hgn : Nat.blt g n with
          | false => simp only [hdn, hgn]; exact bad
          | true => simp only [hdn, hgn]; exact dIf_ok hg ((blt_iff _ _).1 hgn) hb hp ih
    | none =>
      cases hdn : Nat.blt n 255 with
      | false => simp only [hdn]; exact bad
      | true =>
        have hp : PutR p255 o.dst n := by rw [hd]; exact putR_none
        cases hg : o.guard with
        | none => simp only [hdn]; exact plain _ hp hg
        | some gw =>
          obtain ⟨g, w⟩ := gw
          cases hgn : Nat.blt g n with
          | false => simp only [hdn, hgn]; exact bad
          | true => simp only [hdn, hgn]; exact dIf_ok hg ((blt_iff _ _).1 hgn) hb hp ih

theorem dBox0_ok {o : AOper} {L : List AOper} {i : Nat} (ih : DR (runD (dBox n (i + 1) L)) L (i + 1) n) : DR (runD (dBox0 n i o (dBox n (i + 1) L))) (o :: L) i n := by
  unfold dBox0
  split
  · rename_i x hop
    split
    · rename_i hg
      split
      · rename_i d hd
        split
        · rename_i hdn
          intro P ce c log t l M k r C T hn hlog h
          have hdl : d < l.length := by rw [hn]; exact (blt_iff _ _).1 hdn
          simp only [runD, dMov] at h
          rw [evalE_opd T] at h
          have h1 : stepDraw P c o l M = some (.pure, evalA l x, M) := by
            simp only [stepDraw, wantedA, hg, hop, footA, List.all_nil, Bool.and_self, execOpA, List.isEmpty_nil, Nat.beq_refl, Bool.true_and]
          rw [execDraw_cons h1 (apartAll_pure _ _ _), hd]
          refine ih P ce c _ _ _ M k r C (T.set hdl _) (by simp only [putA]; rw [setNth_length]; exact hn) (by simp [hlog]) ?_
          simpa using h
        · intro P ce c log t l M k r C T hn hlog h; cases h
      · exact dBox2_ok ih
    · exact dBox2_ok ih
  · exact dBox2_ok ih

theorem dBox_ok : ∀ (L : List AOper) (i : Nat), DR (runD (dBox n i L)) L i n := by
  intro L
  induction L with
  | nil => intro i P ce c log t l M k r C T hn hlog h; exact ⟨t, l, M, rfl, T, hn, h⟩
  | cons o L ih => intro i; exact dBox0_ok (ih (i + 1))
end Go.Ax

/-
  The executor for the kernel: code and calls say what the executor says.
-/
namespace Go.Ax
open Go

def CodeR (e : CE) (c : ACode) : Prop := ∀ n P fuel ce cl rd t mk M k r l, CallR ce cl → TTR t l → l.length = n → e n P fuel ce rd t mk M k = some r →
  ∃ x t' l' mk' M', execCode P fuel cl rd c ⟨l, mk⟩ M = some (x, ⟨l', mk'⟩, M') ∧ TTR t' l' ∧ l'.length = n ∧ k x t' mk' M' = some r

theorem plain_le {ce : ClE} {cl : Cl} (C : CallR ce cl) {tg : Tg} {args : List AV} {M : Mem} {r : AV × Mem} (h : plain ce tg args M = some r) : cl tg args M = some r := by
  unfold plain at h
  obtain ⟨v, M', h1, h2⟩ := C _ _ _ _ _ h
  cases h2
  exact h1

theorem rangeA_leE {ce : ClE} {cl : Cl} (C : CallR ce cl) {f : Operand} {ps : List Nat} {assign body : ACode} {t : Fr} {d : Nat} {mk : List Nat} {M M' : Mem} {x : AExit} {fr : Fr}
    (h : rangeA (plain ce) f ps assign body t d mk M = some (x, fr, M')) : rangeA cl f ps assign body t d mk M = some (x, fr, M') ∧ fr = ⟨t.t, mk⟩ := by
  unfold rangeA at h ⊢
  cases h1 : M.new (.loop .ready none t.t ps assign body d) with
  | none => simp only [h1] at h; cases h
  | some q =>
    obtain ⟨id, M1⟩ := q
    simp only [h1] at h ⊢
    cases hf : evalA t.t f with
    | fn g first cap =>
      simp only [hf] at h ⊢
      cases h2 : plain ce (.fn g) (first ++ [.yl id] ++ cap) M1 with
      | none => simp only [h2] at h; cases h
      | some q =>
        obtain ⟨v, M2⟩ := q
        simp only [h2] at h
        simp only [plain_le C h2]
        cases hg : M2.get id with
        | none => simp only [hg] at h; cases h
        | some o =>
          cases o with
          | loop st pend tm ps' as' bo' df' =>
            simp only [hg] at h ⊢
            cases st with
            | busy => cases h
            | ready =>
              simp only at h ⊢
              split at h
              · rename_i M3 h3; cases h; simp [h3]
              · cases h
            | exhausted =>
              simp only at h ⊢
              split at h
              · rename_i M3 h3; cases h; simp [h3]
              · cases h
            | done =>
              simp only at h ⊢
              split at h
              · rename_i M3 h3; cases h; simp [h3]
              · cases h
          | _ => simp only [hg] at h; cases h
    | _ => simp only [hf] at h; cases h

theorem execE_ok : ∀ c : ACode, CodeR (execE c) c := by
  intro c
  induction c with
  | skip => intro n P fuel ce cl rd t mk M k r l C T hn h; exact ⟨.normal, t, l, mk, M, rfl, T, hn, h⟩
  | label => intro n P fuel ce cl rd t mk M k r l C T hn h; exact ⟨.normal, t, l, mk, M, rfl, T, hn, h⟩
  | ret => intro n P fuel ce cl rd t mk M k r l C T hn h; exact ⟨.ret, t, l, mk, M, rfl, T, hn, h⟩
  | exit i => intro n P fuel ce cl rd t mk M k r l C T hn h; exact ⟨.exit i, t, l, mk, M, rfl, T, hn, h⟩
  | bad s => intro n P fuel ce cl rd t mk M k r l C T hn h; cases h
  | scope b ih => intro n P fuel ce cl rd t mk M k r l C T hn h; exact ih n P fuel ce cl rd t mk M k r l C T hn h
  | region ops draw =>
    intro n P fuel ce cl rd t mk M k r l C T hn h
    cases draw with
    | true =>
      obtain ⟨t', l', M', h1, h2, h3, h4⟩ := dBox_ok (n := n) ops 0 P ce cl [] t l M _ r C T hn rfl h
      refine ⟨.normal, t', l', mk, M', ?_, h2, h3, h4⟩
      simp only [execCode, h1]
    | false =>
      obtain ⟨t', l', M', h1, h2, h3, h4⟩ := sBox_ok (n := n) ops P ce cl t l M _ r C T hn h
      refine ⟨.normal, t', l', mk, M', ?_, h2, h3, h4⟩
      simp only [execCode, h1]
  | seq a b iha ihb =>
    intro n P fuel ce cl rd t mk M k r l C T hn h
    obtain ⟨x, t1, l1, mk1, M1, h1, T1, n1, k1⟩ := iha n P fuel ce cl rd t mk M _ r l C T hn h
    cases x with
    | normal =>
      obtain ⟨x, t2, l2, mk2, M2, h2, T2, n2, k2⟩ := ihb n P fuel ce cl rd t1 mk1 M1 k r l1 C T1 n1 k1
      refine ⟨x, t2, l2, mk2, M2, ?_, T2, n2, k2⟩
      simp only [execCode, h1, h2]
    | exit i =>
      refine ⟨.exit i, t1, l1, mk1, M1, ?_, T1, n1, k1⟩
      simp only [execCode, h1]
    | ret =>
      refine ⟨.ret, t1, l1, mk1, M1, ?_, T1, n1, k1⟩
      simp only [execCode, h1]
  | cond c a b iha ihb =>
    intro n P fuel ce cl rd t mk M k r l C T hn h
    unfold execE cCond at h
    rw [evalE_opd T] at h
    split at h
    · rename_i hc
      obtain ⟨x, t1, l1, mk1, M1, h1, T1, n1, k1⟩ := iha n P fuel ce cl rd t mk M k r l C T hn h
      refine ⟨x, t1, l1, mk1, M1, ?_, T1, n1, k1⟩
      simp only [execCode, hc, h1]
    · rename_i hc
      obtain ⟨x, t1, l1, mk1, M1, h1, T1, n1, k1⟩ := ihb n P fuel ce cl rd t mk M k r l C T hn h
      refine ⟨x, t1, l1, mk1, M1, ?_, T1, n1, k1⟩
      simp only [execCode, hc, h1]
    · cases h
  | block id b ih =>
    intro n P fuel ce cl rd t mk M k r l C T hn h
    obtain ⟨x, t1, l1, mk1, M1, h1, T1, n1, k1⟩ := ih n P fuel ce cl rd t mk M _ r l C T hn h
    cases x with
    | normal =>
      refine ⟨.normal, t1, l1, mk1, M1, ?_, T1, n1, k1⟩
      simp only [execCode, h1]
    | exit i =>
      cases hi : Nat.beq i id with
      | true =>
        simp only [cOut, hi] at k1
        refine ⟨.normal, t1, l1, mk1, M1, ?_, T1, n1, k1⟩
        simp only [execCode, h1, hi]
      | false =>
        simp only [cOut, hi] at k1
        refine ⟨.exit i, t1, l1, mk1, M1, ?_, T1, n1, k1⟩
        simp only [execCode, h1, hi]
    | ret =>
      refine ⟨.ret, t1, l1, mk1, M1, ?_, T1, n1, k1⟩
      simp only [execCode, h1]
  | loop b ih =>
    intro n P fuel ce cl rd t mk M k r l C T hn h
    have key : ∀ m t mk M l, TTR t l → l.length = n → iterE (execE b n P fuel ce rd) k m t mk M = some r →
        ∃ x t' l' mk' M', iter (execCode P fuel cl rd b) m ⟨l, mk⟩ M = some (x, ⟨l', mk'⟩, M') ∧ TTR t' l' ∧ l'.length = n ∧ k x t' mk' M' = some r := by
      intro m
      induction m with
      | zero => intro t mk M l T hn h; cases h
      | succ m ihm =>
        intro t mk M l T hn h
        obtain ⟨x, t1, l1, mk1, M1, h1, T1, n1, k1⟩ := ih n P fuel ce cl rd t mk M _ r l C T hn h
        cases x with
        | normal =>
          obtain ⟨x, t2, l2, mk2, M2, h2, T2, n2, k2⟩ := ihm t1 mk1 M1 l1 T1 n1 k1
          refine ⟨x, t2, l2, mk2, M2, ?_, T2, n2, k2⟩
          simp only [iter, h1, h2]
        | exit i =>
          refine ⟨.exit i, t1, l1, mk1, M1, ?_, T1, n1, k1⟩
          simp only [iter, h1]
        | ret =>
          refine ⟨.ret, t1, l1, mk1, M1, ?_, T1, n1, k1⟩
          simp only [iter, h1]
    exact key fuel t mk M l T hn h
  | rangeFunc f ps a b _ _ =>
    intro n P fuel ce cl rd t mk M k r l C T hn h
    subst hn
    unfold execE cRange at h
    rw [listT_eq T] at h
    split at h
    · rename_i id
      split at h
      · rename_i d hg
        split at h
        · rename_i e fr M1 h1
          obtain ⟨h2, rfl⟩ := rangeA_leE C h1
          refine ⟨e, t, l, mk, M1, ?_, T, rfl, h⟩
          simp only [execCode, hg, h2]
        · cases h
      · cases h
    · split at h
      · rename_i d M0 h0
        split at h
        · rename_i e fr M1 h1
          obtain ⟨h2, rfl⟩ := rangeA_leE C h1
          refine ⟨e, t, l, d :: mk, M1, ?_, T, rfl, h⟩
          simp only [execCode, h0, h2]
        · cases h
      · cases h

theorem resE_ok {t : TT} {l : List AV} (T : TTR t l) {M : Mem} : ∀ (rs : List ARes) (vs : List AV), resLt rs = true → resE t M rs = some vs → resultsA l M rs = some vs := by
  intro rs
  induction rs with
  | nil => intro vs _ h; exact h
  | cons x rs ih =>
    intro vs hr h
    cases x with
    | tmp n =>
      simp only [resLt] at hr
      split at hr
      · rename_i hn
        simp only [resE] at h
        split at h
        · rename_i vs' h'
          cases h
          simp only [resultsA, ih _ hr h', T.get n ((blt_iff _ _).1 hn)]
        · cases h
      · cases hr
    | cell n m ag =>
      simp only [resLt] at hr
      split at hr
      · rename_i hn
        simp only [resE, T.get n ((blt_iff _ _).1 hn)] at h
        simp only [resultsA]
        split at h
        · rename_i id off hx
          simp only [hx]
          split at h
          · rename_i str cs hg
            simp only [hg]
            split at h
            · rename_i v hv
              simp only [hv]
              split at h
              · rename_i vs' h'
                cases h
                simp only [ih _ hr h']
              · cases h
            · cases h
          · cases h
        · cases h
      · cases hr

theorem lenLe_spec : ∀ (l : List AV) (n : Nat), lenLe l n = true → l.length ≤ n := by
  intro l
  induction l with
  | nil => intro n _; exact Nat.zero_le _
  | cons x l ih =>
    intro n h
    cases n with
    | zero => simp [lenLe] at h
    | succ m => have := ih m h; simp; exact this

theorem eSpend_eq (mk : List Nat) (M : Mem) : eSpend mk M = spend mk M := by cases mk <;> rfl

theorem eLeave_ok {rs : List ARes} {k : KE} {t : TT} {l : List AV} {mk : List Nat} {M : Mem} {r : AV × Mem} (T : TTR t l) (hr : resLt rs = true) (h : eLeave rs k t mk M = some r) :
    ∃ M' vs, spend mk M = some M' ∧ resultsA l M' rs = some vs ∧ k (tupOf vs) M' = some r := by
  unfold eLeave at h
  rw [eSpend_eq] at h
  split at h
  · rename_i M' h1
    split at h
    · rename_i vs h2
      exact ⟨M', vs, h1, resE_ok T _ _ hr h2, h⟩
    · cases h
  · cases h

theorem setAll_length : ∀ (ps : List Nat) (args tm : List AV), (setAll tm ps args).length = tm.length := by
  intro ps
  induction ps with
  | nil => intro args tm; cases args <;> simp [setAll]
  | cons p ps ih =>
    intro args tm
    cases args with
    | nil => simp [setAll]
    | cons a args => simp only [setAll, ih, setNth_eq, List.length_set]

variable {P : Program} {fs : Nat → Option AFunc} {fuel : Nat}

theorem callE_ok : ∀ n, CallR (callE P fs fuel n) (callN P fs fuel n) := by
  intro n
  induction n with
  | zero => intro tg args M k r h; cases h
  | succ n ih =>
    intro tg args M k r h
    cases tg with
    | fn f =>
      have h : eFn P fs fuel (callE P fs fuel n) f args M k = some r := h
      unfold eFn at h
      simp only [callN]
      split at h
      · rename_i m body rs he
        unfold eFunc at he
        split at he
        · rename_i af haf
          split at he
          · rename_i hm
            split at he
            · rename_i hr
              cases he
              have hm := (blt_iff _ _).1 hm
              split at h
              · rename_i hle
                have hle := lenLe_spec _ _ hle
                have T : TTR (fromT args) (args ++ List.replicate (af.ntmps - args.length) undefA) := (fromT_rel (by omega)).pad (by omega)
                obtain ⟨x, t1, l1, mk1, M1, h1, T1, n1, k1⟩ := execE_ok af.body af.ntmps P fuel _ _ none _ [] M _ r _ ih T (by simp; omega) h
                cases x with
                | normal =>
                  obtain ⟨M2, vs, h2, h3, h4⟩ := eLeave_ok T1 hr k1
                  refine ⟨tupOf vs, M2, ?_, h4⟩
                  simp only [haf, h1, h2, h3]
                | exit i => cases k1
                | ret =>
                  obtain ⟨M2, vs, h2, h3, h4⟩ := eLeave_ok T1 hr k1
                  refine ⟨tupOf vs, M2, ?_, h4⟩
                  simp only [haf, h1, h2, h3]
              · cases h
            · cases he
          · cases he
        · cases he
      · cases h
    | yl id =>
      have h : eYl P fuel (callE P fs fuel n) id args M k = some r := h
      unfold eYl at h
      simp only [callN]
      split at h
      · rename_i st pend tm ps as' body df hg
        simp only [hg]
        split at h
        · split at h
          · rename_i hlen
            split at h
            · rename_i htm
              have htm := (blt_iff _ _).1 htm
              have T : TTR (fromT (setAll tm ps args)) (setAll tm ps args) := fromT_rel (by rw [setAll_length]; exact htm)
              obtain ⟨x, t1, l1, mk1, M1, h1, T1, n1, k1⟩ := execE_ok as' tm.length P fuel _ _ (some id) _ [] M _ r _ ih T (setAll_length _ _ _) h
              cases x with
              | normal =>
                simp only [eYl1] at k1
                split at k1
                · rename_i M2 h2
                  obtain ⟨x, t3, l3, mk3, M3, h3, T3, n3, k3⟩ := execE_ok body tm.length P fuel _ _ (some id) _ mk1 M2 _ r _ ih T1 n1 k1
                  simp only [hlen, h1, h2, h3]
                  unfold eYl2 at k3
                  cases x with
                  | normal =>
                    simp only at k3 ⊢
                    split at k3
                    · rename_i M4 h4; simp only [h4]; exact ⟨_, _, rfl, k3⟩
                    · cases k3
                  | exit i =>
                    simp only at k3 ⊢
                    split at k3
                    · rename_i M4 h4; simp only [h4]; exact ⟨_, _, rfl, k3⟩
                    · cases k3
                  | ret =>
                    simp only at k3 ⊢
                    split at k3
                    · rename_i M4 h4; simp only [h4]; exact ⟨_, _, rfl, k3⟩
                    · cases k3
                · cases k1
              | exit i => cases k1
              | ret => cases k1
            · cases h
          · cases h
        · cases h
      · cases h

/-- What the kernel's evaluator finds true is true. -/
theorem isTrue_callE {n : Nat} {tg : Tg} {args : List AV} {M : Mem} (h : isTrue (callE P fs fuel n tg args M stopE) = true) : isTrue (callN P fs fuel n tg args M) = true := by
  cases hc : callE P fs fuel n tg args M stopE with
  | none => rw [hc] at h; cases h
  | some r =>
    obtain ⟨v, M', h1, h2⟩ := callE_ok n _ _ _ _ _ hc
    rw [h1]
    rw [hc, ← h2] at h
    exact h

theorem runs_ofE (hins : InsOK P) {f n : Nat} (h : isTrue (callE P (fsOf P) fuel n (.fn f) [] mem0 stopE) = true) (w : World) :
    Calls P f #[] w (fun e w' => e = .returned (.bool true) ∧ RowKit.Below w.heap.size w w') := runs_of hins (isTrue_callE h) w
end Go.Ax
