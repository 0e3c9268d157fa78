/-
  The executor on abstract memory, part 5: what it is, and that what it finds is so of the program.
-/
import Derived.Test.YtjbninmklbkklaaDoorEd
/-
  The executor, run on symbols: what texts of all seats share.
-/
set_option linter.unusedSimpArgs false
set_option linter.unusedVariables false
set_option maxRecDepth 100000
namespace Go.Ax
open Go
variable {Γ : Glob}

def mkslO (M : Mem) (st bytes : Nat) (z : Value) (l c : Option Nat) : OR := match l, c with
    | some l, some c => match Nat.ble l c && Nat.ble (c * bytes) 4294967296 && Nat.ble c 4294967296 with
      | true => match M.new (.row false (repCells z c)) with
        | some (id, M) => some (.sl id 0 l (some c) st, M)
        | none => none
      | false => none
    | _, _ => none
theorem x_mksl {P : Program} (call : Tg → List AV → Mem → OR) (t : List AV) (M : Mem) (e : TypeId) (st bytes : Nat) (z : Value) (l c : Operand) : execOpA P call t M (.mksl e st bytes z l c) = mkslO M st bytes z (natOf (evalA t l)) (natOf (evalA t c)) := rfl
theorem mksl_ok {M : Mem} (wf : Wf M) {st bytes l c : Nat} {z : Value} (hl : l ≤ c) (h1 : c * bytes ≤ 4294967296) (h2 : c ≤ 4294967296) : mkslO M st bytes z (some l) (some c) = some (.sl M.size 0 l (some c) st, M.add (.row false (repCells z c))) := by
  unfold mkslO
  simp only [Nat.ble_eq_true_of_le hl, Nat.ble_eq_true_of_le h1, Nat.ble_eq_true_of_le h2, Bool.and_self, new_add wf]
theorem rep_u8 (c : Nat) : repCells (.int .u8 0) c = List.replicate c (U8 0) := by
  induction c with
  | zero => rfl
  | succ c ih => rw [repCells, ih]; rfl
theorem icy_row {M M' : Mem} {k id n st : Nat} {cap : Option Nat} {cs cs' : List AV} {b : Bool} (hg : M.get id = some (.row b cs)) (hn : n * st = cs.length) (hn' : n * st = cs'.length) (hc : icyL (icy k) M cs = some (cs', M'))
    (hg' : M'.get id = some (.row b cs)) (wf : Wf M') (hid : id < M'.size) : icy (k + 1) M (.sl id 0 n cap st) = some (.pv cs' n cap st, M'.upd id (.fro cs)) := by
  simp only [icy, rd_row hg, Nat.zero_add, Nat.ble_eq_true_of_le (Nat.le_of_eq hn), hc, hg', put_upd wf hid, slot_all _ _ hn']
/-- The cells of bytes. -/
def u8s (l : List UInt8) : List AV := l.map fun x => U8 x.toNat
theorem u8s_len (l : List UInt8) : (u8s l).length = l.length := by simp [u8s]
theorem u8s_one (l : List UInt8) : (u8s l).all oneA = true := by
  rw [List.all_eq_true]
  intro x hx
  obtain ⟨y, _, rfl⟩ := List.mem_map.1 hx
  rfl
theorem u8s_icy (l : List UInt8) {k : Nat} (hk : 0 < k) (M : Mem) : icyL (icy k) M (u8s l) = some (u8s l, M) := by
  refine icyL_same hk (fun x hx M => ?_) M
  obtain ⟨y, _, rfl⟩ := List.mem_map.1 hx
  exact icy_sc _ hk
theorem u8s_all2 (l : List UInt8) : All2 isU8 (l.map fun x => [U8 x.toNat]) l := by
  induction l with
  | nil => exact .nil
  | cons x l ih => exact .cons rfl ih
theorem u8s_flat (l : List UInt8) : (l.map fun x => [U8 x.toNat]).flatten = u8s l := by
  induction l with
  | nil => rfl
  | cons x l ih => simp only [List.map_cons, List.flatten_cons, ih]; rfl
theorem bs_pv (l : List UInt8) (cap : Option Nat) {n : Nat} (hn : n = l.length) : Bs (.pv (u8s l) n cap 1) l := by
  refine .inr ⟨l.map fun x => [U8 x.toNat], cap, by rw [u8s_flat, List.length_map, hn], u8s_all2 l, ?_⟩
  intro r hr
  obtain ⟨y, _, rfl⟩ := List.mem_map.1 hr
  rfl
theorem rows_u8 : ∀ {rows : List (List AV)} {l : List UInt8}, All2 isU8 rows l → rows.flatten = u8s l
  | _, _, .nil => rfl
  | _, _, .cons a b => by
    rw [List.flatten_cons, rows_u8 b, show _ = _ from a]
    rfl
theorem bs_form {a : AV} {l : List UInt8} (h : Bs a l) : (a = NIL ∧ l = []) ∨ ∃ cap, a = .pv (u8s l) l.length cap 1 := by
  rcases h with h | ⟨rows, cap, rfl, hA, _⟩
  · exact .inl h
  · exact .inr ⟨cap, by rw [rows_u8 hA, hA.length_eq]⟩
theorem slot_u8 (l : List UInt8) (i n : Nat) : slot (u8s l) (i * 1) (n * 1) = u8s ((l.drop i).take n) := by
  simp only [slot, u8s, Nat.mul_one, List.map_take, List.map_drop]
theorem cut_max {a : AV} {l : List UInt8} (h : Bs a l) {j : Nat} (hj : j ≤ l.length) : ∃ a', (∀ M, slcO M 1 a none (some (I64 j)) (some (I64 j)) = some (a', M)) ∧ Bs a' (l.take j) ∧ ∀ M, Full M 1 isU8 a' (l.take j) := by
  rcases bs_form h with ⟨rfl, rfl⟩ | ⟨cap, rfl⟩
  · obtain rfl : j = 0 := by simpa using hj
    exact ⟨NIL, fun M => rfl, .inl ⟨rfl, rfl⟩, fun M => .inl ⟨rfl, rfl⟩⟩
  · have hlen : (l.take j).length = j := by rw [List.length_take]; omega
    refine ⟨.pv (u8s (l.take j)) j (some j) 1, fun M => ?_, bs_pv _ _ hlen.symm, fun M => .inr ⟨(l.take j).map fun x => [U8 x.toNat], u8s_all2 _, fun r hr => ?_, .inl ?_⟩⟩
    · unfold slcO
      simp only [Nat.beq_refl, bnd_int _ _ _ _ hj, bnd_int _ _ _ _ (Nat.le_refl j), bnd_none, Nat.sub_zero, slot_u8, List.drop_zero]
    · obtain ⟨y, _, rfl⟩ := List.mem_map.1 hr
      rfl
    · rw [u8s_flat, List.length_map, hlen]
theorem cut_at {a : AV} {l : List UInt8} (h : Bs a l) {i j : Nat} (hi : i ≤ j) (hj : j ≤ l.length) : ∃ a', (∀ M, slcO M 1 a (some (I64 i)) (some (I64 j)) none = some (a', M)) ∧ Bs a' ((l.drop i).take (j - i)) := by
  rcases bs_form h with ⟨rfl, rfl⟩ | ⟨cap, rfl⟩
  · obtain rfl : j = 0 := by simpa using hj
    obtain rfl : i = 0 := by omega
    exact ⟨NIL, fun M => rfl, .inl ⟨rfl, rfl⟩⟩
  · refine ⟨.pv (u8s ((l.drop i).take (j - i))) (j - i) (capSub cap i) 1, fun M => ?_, bs_pv _ _ (by rw [List.length_take, List.length_drop]; omega)⟩
    unfold slcO
    simp only [Nat.beq_refl, bnd_int _ _ _ _ hj, bnd_int _ _ _ _ hi, slot_u8]
theorem cut_to {a : AV} {l : List UInt8} (h : Bs a l) {j : Nat} (hj : j ≤ l.length) : ∃ a', (∀ M, slcO M 1 a none (some (I64 j)) none = some (a', M)) ∧ Bs a' (l.take j) := by
  rcases bs_form h with ⟨rfl, rfl⟩ | ⟨cap, rfl⟩
  · obtain rfl : j = 0 := by simpa using hj
    exact ⟨NIL, fun M => rfl, .inl ⟨rfl, rfl⟩⟩
  · refine ⟨.pv (u8s (l.take j)) j (capSub cap 0) 1, fun M => ?_, bs_pv _ _ (by rw [List.length_take]; omega)⟩
    unfold slcO
    simp only [Nat.beq_refl, bnd_int _ _ _ _ hj, bnd_none, Nat.sub_zero, slot_u8, List.drop_zero]
theorem cut_from {a : AV} {l : List UInt8} (h : Bs a l) {i : Nat} (hi : i ≤ l.length) : ∃ a', (∀ M, slcO M 1 a (some (I64 i)) none none = some (a', M)) ∧ Bs a' (l.drop i) := by
  rcases bs_form h with ⟨rfl, rfl⟩ | ⟨cap, rfl⟩
  · obtain rfl : i = 0 := by simpa using hi
    exact ⟨NIL, fun M => rfl, .inl ⟨rfl, rfl⟩⟩
  · have e : (l.drop i).take (l.length - i) = l.drop i := List.take_of_length_le (by rw [List.length_drop]; omega)
    refine ⟨.pv (u8s (l.drop i)) (l.length - i) (capSub cap i) 1, fun M => ?_, bs_pv _ _ (by rw [List.length_drop])⟩
    unfold slcO
    simp only [Nat.beq_refl, bnd_int _ _ _ _ hi, bnd_none, slot_u8, e]
theorem celI_U8 : CelI isU8 := fun r x h y hy M k hk => by
  subst h; simp at hy; subst hy; exact icy_sc _ hk
def clrO (M : Mem) (st : Nat) (z : Value) (x : AV) : OR := match x with
    | .sc (.slice none _ _) => some (.sc (.tuple #[]), M)
    | .sl id off len _ _ => match Nat.beq len 0 with
      | true => some (.sc (.tuple #[]), M)
      | false => match M.get id with
        | some (.row str cs) => match Nat.ble (off + len * st) cs.length && (repCells z len).all oneA && Nat.beq (repCells z len).length (len * st) with
          | true => match M.put id (.row str (lay cs off (repCells z len))) with
            | some M => some (.sc (.tuple #[]), M)
            | none => none
          | false => none
        | _ => none
    | _ => none
theorem x_clr {P : Program} (call : Tg → List AV → Mem → OR) (t : List AV) (M : Mem) (st : Nat) (z : Value) (x : Operand) : execOpA P call t M (.clr st z x) = clrO M st z (evalA t x) := rfl
theorem all2_take {α : Type} {T : List AV → α → Prop} : ∀ {rows : List (List AV)} {l : List α} (n : Nat), All2 T rows l → All2 T (rows.take n) (l.take n)
  | _, _, 0, _ => by simp; exact .nil
  | _, _, n + 1, .nil => by simp; exact .nil
  | _, _, n + 1, .cons a b => .cons a (all2_take n b)
theorem all2_snoc {α : Type} {T : List AV → α → Prop} {r : List AV} {x : α} : ∀ {rows : List (List AV)} {l : List α}, All2 T rows l → T r x → All2 T (rows ++ [r]) (l ++ [x])
  | _, _, .nil, h => .cons h .nil
  | _, _, .cons a b, h => .cons a (all2_snoc b h)
theorem flat_drop {st : Nat} : ∀ {rows : List (List AV)} (i : Nat), (∀ r ∈ rows, r.length = st) → rows.flatten.drop (i * st) = (rows.drop i).flatten
  | _, 0, _ => by simp
  | [], i + 1, _ => by simp
  | r :: rows, i + 1, h => by
    have hr := h r List.mem_cons_self
    rw [List.flatten_cons, List.drop_succ_cons, Nat.succ_mul, Nat.add_comm, ← List.drop_drop, List.drop_left' hr]
    exact flat_drop i fun q hq => h q (List.mem_cons_of_mem _ hq)
theorem flat_take2 {st : Nat} : ∀ {rows : List (List AV)} (i : Nat), (∀ r ∈ rows, r.length = st) → rows.flatten.take (i * st) = (rows.take i).flatten
  | _, 0, _ => by simp
  | [], i + 1, _ => by simp
  | r :: rows, i + 1, h => by
    have hr := h r List.mem_cons_self
    rw [List.flatten_cons, List.take_succ_cons, List.flatten_cons, Nat.succ_mul, Nat.add_comm, ← hr, List.take_length_add_append, hr, flat_take2 i fun q hq => h q (List.mem_cons_of_mem _ hq)]
theorem all2_drop {α : Type} {T : List AV → α → Prop} : ∀ {rows : List (List AV)} {l : List α} (n : Nat), All2 T rows l → All2 T (rows.drop n) (l.drop n)
  | _, _, 0, h => h
  | _, _, n + 1, .nil => by simp; exact .nil
  | _, _, n + 1, .cons a b => all2_drop n b
theorem sl_to {α : Type} {T : List AV → α → Prop} {st : Nat} {a : AV} {l : List α} (h : Sl st T a l) {j : Nat} (hj : j ≤ l.length) : ∃ a', (∀ M, slcO M st a none (some (I64 j)) none = some (a', M)) ∧ Sl st T a' (l.take j) := by
  rcases h with ⟨rfl, rfl⟩ | ⟨rows, cap, rfl, hA, hr⟩
  · obtain rfl : j = 0 := by simpa using hj
    exact ⟨NIL, fun M => rfl, .inl ⟨rfl, rfl⟩⟩
  · have hl := hA.length_eq
    refine ⟨.pv (rows.take j).flatten j (capSub cap 0) st, fun M => ?_, .inr ⟨rows.take j, capSub cap 0, by rw [List.length_take, Nat.min_eq_left (by omega)], all2_take j hA, fun r hq => hr r (List.mem_of_mem_take hq)⟩⟩
    have hs : slot rows.flatten 0 (j * st) = (rows.take j).flatten := by rw [slot, List.drop_zero, flat_take2 j hr]
    unfold slcO
    simp only [Nat.beq_refl, bnd_int _ _ _ _ (show j ≤ rows.length by omega), bnd_none, Nat.zero_mul, Nat.sub_zero, hs]
theorem sl_from {α : Type} {T : List AV → α → Prop} {st : Nat} {a : AV} {l : List α} (h : Sl st T a l) {i : Nat} (hi : i ≤ l.length) : ∃ a', (∀ M, slcO M st a (some (I64 i)) none none = some (a', M)) ∧ Sl st T a' (l.drop i) := by
  rcases h with ⟨rfl, rfl⟩ | ⟨rows, cap, rfl, hA, hr⟩
  · obtain rfl : i = 0 := by simpa using hi
    exact ⟨NIL, fun M => rfl, .inl ⟨rfl, rfl⟩⟩
  · have hl := hA.length_eq
    refine ⟨.pv (rows.drop i).flatten (rows.length - i) (capSub cap i) st, fun M => ?_, .inr ⟨rows.drop i, capSub cap i, by rw [List.length_drop], all2_drop i hA, fun r hq => hr r (List.mem_of_mem_drop hq)⟩⟩
    have hs : slot rows.flatten (i * st) ((rows.length - i) * st) = (rows.drop i).flatten := by
      rw [slot, flat_drop i hr, List.take_of_length_le]
      rw [flat_len (st := st) (fun r hq => hr r (List.mem_of_mem_drop hq)), List.length_drop]
      exact Nat.le_refl _
    unfold slcO
    simp only [Nat.beq_refl, bnd_int _ _ _ _ (show i ≤ rows.length by omega), bnd_none, hs]
theorem apart2_pu (g : FP) (a b : Nat) : apart2 .pure (g, a, b) = true := by
  unfold apart2
  rw [apart_pp]
  rfl
/-- Append to a slice of ours, of what is frozen: what comes behind it. -/
theorem w3_app {α : Type} {X : Mem} {st bytes : Nat} {T : List AV → α → Prop} {a y : AV} {l l' : List α} {Q : AV → Mem → Prop} (wf : Wf X) (h : SlM X st T a l) (hT : Cel T) (hy : Sl st T y l') (hs : 0 < st) (hb1 : (l.length + l'.length) * bytes ≤ 4294967296) (hb2 : l.length + l'.length ≤ 4294967296)
    (k : ∀ a' M', SlM M' st T a' (l ++ l') → Wf M' → X.size ≤ M'.size → M'.size ≤ X.size + 1 → (∀ j, j < X.size → rowOf a ≠ some j → M'.get j = X.get j) → (∀ id, rowOf a' = some id → rowOf a = some id ∨ X.size ≤ id) → M'.wm = X.wm → ((rowsOf a').all fun i => Nat.blt i M'.size) = true → oneA a' = true → cellsA a' = [a'] → Q a' M') : W3 (appO X st bytes a y) Q := by
  obtain ⟨rows, ha, hb, hc, hd⟩ := hy.open
  obtain ⟨o, N, e, m, w, le, le2, kp, nw, wm⟩ := h.appO wf (ha X) hb hc hd (hT.all hc) hs hb1 hb2
  exact ⟨o, N, e, k o N m w le le2 kp nw wm (rows_lt m.rl (Nat.le_refl _)) m.one m.cells⟩
/-- Append to a slice of ours, of cells that we know. -/
theorem w3_appc {α : Type} {X : Mem} {st bytes : Nat} {T : List AV → α → Prop} {a y : AV} {l l' : List α} {new : List (List AV)} {Q : AV → Mem → Prop} (wf : Wf X) (h : SlM X st T a l) (hT : Cel T) (hy : cellsOf X y = some new.flatten) (hl : lenA y = some l'.length) (hn : All2 T new l') (hr : ∀ r ∈ new, r.length = st) (hs : 0 < st) (hb1 : (l.length + l'.length) * bytes ≤ 4294967296) (hb2 : l.length + l'.length ≤ 4294967296)
    (k : ∀ a' M', SlM M' st T a' (l ++ l') → Wf M' → X.size ≤ M'.size → M'.size ≤ X.size + 1 → (∀ j, j < X.size → rowOf a ≠ some j → M'.get j = X.get j) → (∀ id, rowOf a' = some id → rowOf a = some id ∨ X.size ≤ id) → M'.wm = X.wm → ((rowsOf a').all fun i => Nat.blt i M'.size) = true → oneA a' = true → cellsA a' = [a'] → Q a' M') : W3 (appO X st bytes a y) Q := by
  obtain ⟨o, N, e, m, w, le, le2, kp, nw, wm⟩ := h.appO wf hy hl hn hr (hT.all hn) hs hb1 hb2
  exact ⟨o, N, e, k o N m w le le2 kp nw wm (rows_lt m.rl (Nat.le_refl _)) m.one m.cells⟩
/-- Frozen, it reads as it read, wherever its row stands as it stood. -/
theorem slm_frz {α : Type} {M : Mem} {st : Nat} {T : List AV → α → Prop} {a : AV} {l : List α} (h : SlM M st T a l) (hT : Cel T) : ∃ ro, Sl st T ro l ∧ ∀ N, (∀ id, rowOf a = some id → N.get id = M.get id) → frz N 0 11 a = some ro := by
  rcases h with ⟨rfl, rfl⟩ | ⟨id, rows, cap, rfl, _, hg, h, hl⟩
  · exact ⟨_, .inl ⟨rfl, rfl⟩, fun N _ => frz_sc _ (by omega)⟩
  · refine ⟨.pv rows.flatten rows.length cap st, .inr ⟨rows, cap, rfl, h, hl⟩, fun N hN => ?_⟩
    rw [frz_sl (rd_row ((hN id rfl).trans hg)) (by rw [flat_len hl]; omega) (by omega) (fun x hx => (hT.flat h x hx).2 N _ (by omega)), slot_all _ _ (by rw [flat_len hl])]
theorem apart2_e (n n' a b : Nat) : apart2 (.acc [] []) (fpOf [] [] n n', a, b) = true := by
  unfold fpOf
  cases hb : Nat.beq n n' <;> simp [apart2, FP.apart, disj, FP.reads, FP.writes, hb]
theorem apart2_r (i n n' : Nat) (h : i < n) : apart2 (.acc [i] []) (fpOf [] [] n n', n, n') = true := by
  have hb : Nat.ble n i = false := by
    cases hc : Nat.ble n i with
    | false => rfl
    | true => have := Nat.le_of_ble_eq_true hc; omega
  unfold fpOf
  cases hd : Nat.beq n n' <;> simp [apart2, FP.apart, disj, FP.reads, FP.writes, hb, hd]
theorem wrap_u8I (n : Int) : IntKind.u8.wrap n = ((UInt8.ofNat (n % 256).toNat).toNat : Int) := by
  have h : IntKind.u8.wrap n = n % 256 := by
    simp [IntKind.wrap, IntKind.signed, IntKind.bits]
  rw [h, UInt8.toNat_ofNat']
  have h0 := Int.emod_nonneg n (show (256 : Int) ≠ 0 by omega)
  have h1 := Int.emod_lt_of_pos n (show (0 : Int) < 256 by omega)
  rw [Nat.mod_eq_of_lt (by omega)]
  omega
theorem wrap_u8N (n : Nat) : IntKind.u8.wrap (n : Int) = ((UInt8.ofNat n).toNat : Int) := by
  simp [IntKind.wrap, IntKind.bits, IntKind.signed, UInt8.toNat_ofNat']

def appzO (M : Mem) (st bytes : Nat) (z : Value) (x : AV) (n : Option Nat) : OR := match n, cellsOf M x with
    | some n, some old => appendA M x old (repCells z n) n st bytes
    | _, _ => none
theorem x_appz {P : Program} (call : Tg → List AV → Mem → OR) (t : List AV) (M : Mem) (e : TypeId) (st bytes : Nat) (z : Value) (x n : Operand) : execOpA P call t M (.appz e st bytes z x n) = appzO M st bytes z (evalA t x) (natOf (evalA t n)) := rfl
theorem rep_flat (n : Nat) : (List.replicate n [U8 0]).flatten = List.replicate n (U8 0) := by
  induction n with
  | zero => rfl
  | succ n ih => rw [List.replicate_succ, List.flatten_cons, ih]; rfl
theorem rep_all2 (n : Nat) : All2 isU8 (List.replicate n [U8 0]) (List.replicate n 0) := by
  induction n with
  | zero => exact .nil
  | succ n ih => rw [List.replicate_succ, List.replicate_succ]; exact .cons rfl ih
theorem appz_ok {M : Mem} {a : AV} {l : List UInt8} (h : SlM M 1 isU8 a l) (wf : Wf M) (n : Nat) (hn : l.length + n ≤ 4294967296) :
    ∃ a' M', appzO M 1 1 (.int .u8 0) a (some n) = some (a', M') ∧ SlM M' 1 isU8 a' (l ++ List.replicate n 0) ∧ Wf M' ∧ M.size ≤ M'.size := by
  obtain ⟨a', M', ⟨old, ho, hap⟩, hS, wf', hle, _⟩ := h.app wf (new := List.replicate n [U8 0]) (l' := List.replicate n 0) (bytes := 1) (rep_all2 n) (fun r hr => by rw [(List.mem_replicate.1 hr).2]; rfl) (cel_U8.all (rep_all2 n)) (by omega) (by rw [List.length_replicate]; omega) (by rw [List.length_replicate]; omega)
  refine ⟨a', M', ?_, hS, wf', hle⟩
  rw [rep_flat, List.length_replicate] at hap
  unfold appzO
  simp only [ho, rep_u8, hap]

def cpyO (M : Mem) (st : Nat) (x y : AV) : OR := match lenA x, lenA y with
    | some lx, some ly =>
      match firstA M (Nat.min ly lx) st y with
      | some new => match x with
        | .sc (.slice none 0 0) => some (.sc (goInt 0), M)
        | .sl id off _ _ _ => match M.get id with
          | some (.row str cs) => match Nat.ble (off + new.length) cs.length && new.all oneA with
            | true => match M.put id (.row str (lay cs off new)) with
              | some M => some (.sc (goInt (Nat.min ly lx)), M)
              | none => none
            | false => none
          | _ => none
        | _ => none
      | none => none
    | _, _ => none
theorem x_cpy {P : Program} (call : Tg → List AV → Mem → OR) (t : List AV) (M : Mem) (st : Nat) (x y : Operand) : execOpA P call t M (.cpy st x y) = cpyO M st (evalA t x) (evalA t y) := by
  simp only [execOpA, cpyO]
  cases evalA t x <;> rfl
/-- Bytes that are frozen, laid into a row of ours where there is room for all of them. -/
theorem cpy_ok {M : Mem} (wf : Wf M) {id off n : Nat} {cap : Option Nat} {cs : List AV} {y : AV} {l : List UInt8} (hg : M.get id = some (.row false cs)) (hy : Bs y l) (hn : l.length ≤ n) (hc : off + l.length ≤ cs.length) :
    ∃ k, cpyO M 1 (.sl id off n cap 1) y = some (.sc (goInt k), M.upd id (.row false (lay cs off (u8s l)))) := by
  refine ⟨Nat.min l.length n, ?_⟩
  have hm : Nat.min l.length n = l.length := Nat.min_eq_left hn
  have hf : firstA M l.length 1 y = some (u8s l) := by
    rcases bs_form hy with ⟨rfl, rfl⟩ | ⟨cap, rfl⟩
    · rfl
    · simp only [firstA, Nat.beq_refl, Nat.ble_eq_true_of_le (Nat.le_refl _), Bool.and_self]
      rw [List.take_of_length_le (by rw [u8s_len]; omega)]
  have hly : lenA y = some l.length := by obtain ⟨_, _, h, _⟩ := hy.open; exact h
  have hlx : lenA (.sl id off n cap 1) = some n := rfl
  have hb : Nat.ble (off + (u8s l).length) cs.length = true := Nat.ble_eq_true_of_le (by rw [u8s_len]; exact hc)
  unfold cpyO
  simp only [hlx, hly, hm, hf, hg, hb, u8s_one, Bool.and_self, put_upd wf (Mem.get_lt hg)]
/-! ### A table with gaps -/
def msk : List (Option AFunc) → List (Option AFunc) → List (Option AFunc)
  | none :: l, _ :: m => none :: msk l m
  | some _ :: l, x :: m => x :: msk l m
  | _, _ => []
theorem msk_get : ∀ {l m : List (Option AFunc)} {i : Nat} {a : AFunc} {x : Option AFunc}, l[i]? = some (some a) → (msk l m)[i]? = some x → m[i]? = some x
  | [], _, _, _, _, h, _ => by simp at h
  | none :: l, [], _, _, _, _, k => by simp [msk] at k
  | some _ :: l, [], _, _, _, _, k => by simp [msk] at k
  | none :: l, y :: m, 0, _, _, h, _ => by simp at h
  | some _ :: l, y :: m, 0, _, _, _, k => by simpa [msk] using k
  | none :: l, y :: m, i + 1, _, _, h, k => by
    simp only [msk, List.getElem?_cons_succ] at h k ⊢
    exact msk_get h k
  | some _ :: l, y :: m, i + 1, _, _, h, k => by
    simp only [msk, List.getElem?_cons_succ] at h k ⊢
    exact msk_get h k
/-- Without what is proved by itself. -/
def noX : Option AFunc → Option AFunc
  | some af => match af.gc with | 3 => none | _ => some af
  | none => none
theorem tab_msk {P : Program} {l : List (Option AFunc)} {n : Nat} (h : (l.map noX).map clr = msk (l.map noX) (tabList P n 0))
    (hx : ∀ f af, l[f]? = some (some af) → af.gc = 3 → ∃ fn, P.funcs[f]? = some fn ∧ (fn.name == "runtime.NumGoroutine") = false ∧ fn.body.isSome = true ∧ ∃ g, af.body = .ext g ∧ ExtOK Γ P f g) : TabOK Γ P (fsT l) := by
  intro f af hf
  have hl : l[f]? = some (some af) := by
    unfold fsT at hf
    rw [nth_eq] at hf
    cases hl : l[f]? with
    | none => rw [hl] at hf; cases hf
    | some x => rw [hl] at hf; simp at hf; subst hf; rfl
  by_cases hg : af.gc = 3
  · obtain ⟨fn, h1, h2, h3, g, h4, h5⟩ := hx f af hl hg
    exact ⟨fn, h1, h2, .inr ⟨hg, h3, g, h4, h5⟩⟩
  · have hl' : (l.map noX)[f]? = some (some af) := by
      have e : noX (some af) = some af := by
        obtain ⟨a, b, c, g⟩ := af
        unfold noX
        match g, hg with
        | 0, _ => rfl
        | 1, _ => rfl
        | 2, _ => rfl
        | 3, h => exact absurd rfl h
        | _ + 4, _ => rfl
      rw [List.getElem?_map, hl, Option.map_some, e]
    have h1 : ((l.map noX).map clr)[f]? = some (clr (some af)) := by rw [List.getElem?_map, hl']; rfl
    rw [h] at h1
    have h2 := msk_get hl' h1
    have h3 : nth none (tabList P n 0) f = some { af with gc := 0 } := by rw [nth_eq, h2]; rfl
    have h4 := tabList_get P n 0 f _ h3
    rw [Nat.zero_add] at h4
    obtain ⟨fn, k1, k2, k3⟩ := tab_fsOf (Γ := Γ) P f _ h4
    refine ⟨fn, k1, k2, .inl ⟨?_, hg⟩⟩
    rcases k3 with ⟨k3, _⟩ | ⟨k3, _⟩
    · exact k3
    · exact absurd (show (0 : Nat) = 3 from k3) (by decide)
def no3 : Option AFunc → Bool
  | some af => match af.gc with | 3 => false | _ => true
  | none => true
theorem tab_msk0 {P : Program} {l : List (Option AFunc)} {n : Nat} (h : (l.map noX).map clr = msk (l.map noX) (tabList P n 0)) (h3 : l.all no3 = true) : TabOK Γ P (fsT l) :=
  tab_msk h fun f af hl hg => by
    rw [List.all_eq_true] at h3
    have := h3 _ (List.mem_of_getElem? hl)
    simp only [no3] at this
    rw [hg] at this
    cases this
end Go.Ax
