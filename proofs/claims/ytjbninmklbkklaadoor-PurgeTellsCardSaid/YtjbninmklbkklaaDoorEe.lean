/-
  The executor on abstract memory, part 5: what it is, and that what it finds is so of the program.
-/
import Derived.Test.YtjbninmklbkklaaDoorEd
import Derived.Laws.StructEq
/-
  The executor, run on symbols: what texts of all seats share.
-/
set_option linter.unusedSimpArgs false
set_option linter.unusedVariables false
set_option maxRecDepth 100000
namespace Go.Ax
open Go
variable {Γ : Glob}

def mkslO (M : Mem) (st bytes : Nat) (z : Value) (l c : Option Nat) : OR := match l, c with
    | some l, some c => match Nat.ble l c && Nat.ble (c * bytes) 140737488355328 && Nat.ble c 140737488355328 with
      | true => match M.new (.row false (repCells z c)) with
        | some (id, M) => some (.sl id 0 l (some c) st, M)
        | none => none
      | false => none
    | _, _ => none
theorem x_mksl {P : Program} (call : Tg → List AV → Mem → OR) (t : List AV) (M : Mem) (e : TypeId) (st bytes : Nat) (z : Value) (l c : Operand) : execOpA P call t M (.mksl e st bytes z l c) = mkslO M st bytes z (natOf (evalA t l)) (natOf (evalA t c)) := rfl
theorem mksl_ok {M : Mem} (wf : Wf M) {st bytes l c : Nat} {z : Value} (hl : l ≤ c) (h1 : c * bytes ≤ 140737488355328) (h2 : c ≤ 140737488355328) : mkslO M st bytes z (some l) (some c) = some (.sl M.size 0 l (some c) st, M.add (.row false (repCells z c))) := by
  unfold mkslO
  simp only [Nat.ble_eq_true_of_le hl, Nat.ble_eq_true_of_le h1, Nat.ble_eq_true_of_le h2, Bool.and_self, new_add wf]
theorem rep_u8 (c : Nat) : repCells (.int .u8 0) c = List.replicate c (U8 0) := by
  induction c with
  | zero => rfl
  | succ c ih => rw [repCells, ih]; rfl
theorem icy_row {M M' : Mem} {k id n st : Nat} {cap : Option Nat} {cs cs' : List AV} {b : Bool} (hg : M.get id = some (.row b cs)) (hn : n * st = cs.length) (hn' : n * st = cs'.length) (hc : icyL (icy k) M cs = some (cs', M'))
    (hg' : M'.get id = some (.row b cs)) (wf : Wf M') (hid : id < M'.size) : icy (k + 1) M (.sl id 0 n cap st) = some (.pv cs' n cap st, M'.upd id (.fro cs)) := by
  simp only [icy, rd_row hg, Nat.zero_add, Nat.ble_eq_true_of_le (Nat.le_of_eq hn), hc, hg', put_upd wf hid, slot_all _ _ hn']
/-- The cells of bytes. -/
def u8s (l : List UInt8) : List AV := l.map fun x => U8 x.toNat
theorem u8s_len (l : List UInt8) : (u8s l).length = l.length := by simp [u8s]
theorem u8s_one (l : List UInt8) : (u8s l).all oneA = true := by
  rw [List.all_eq_true]
  intro x hx
  obtain ⟨y, _, rfl⟩ := List.mem_map.1 hx
  rfl
theorem u8s_icy (l : List UInt8) {k : Nat} (hk : 0 < k) (M : Mem) : icyL (icy k) M (u8s l) = some (u8s l, M) := by
  refine icyL_same hk (fun x hx M => ?_) M
  obtain ⟨y, _, rfl⟩ := List.mem_map.1 hx
  exact icy_sc _ hk
theorem u8s_all2 (l : List UInt8) : All2 isU8 (l.map fun x => [U8 x.toNat]) l := by
  induction l with
  | nil => exact .nil
  | cons x l ih => exact .cons rfl ih
theorem u8s_flat (l : List UInt8) : (l.map fun x => [U8 x.toNat]).flatten = u8s l := by
  induction l with
  | nil => rfl
  | cons x l ih => simp only [List.map_cons, List.flatten_cons, ih]; rfl
theorem bs_pv (l : List UInt8) (cap : Option Nat) {n : Nat} (hn : n = l.length) : Bs (.pv (u8s l) n cap 1) l := by
  refine .inr ⟨l.map fun x => [U8 x.toNat], cap, by rw [u8s_flat, List.length_map, hn], u8s_all2 l, ?_⟩
  intro r hr
  obtain ⟨y, _, rfl⟩ := List.mem_map.1 hr
  rfl
theorem rows_u8 : ∀ {rows : List (List AV)} {l : List UInt8}, All2 isU8 rows l → rows.flatten = u8s l
  | _, _, .nil => rfl
  | _, _, .cons a b => by
    rw [List.flatten_cons, rows_u8 b, show _ = _ from a]
    rfl
theorem bs_form {a : AV} {l : List UInt8} (h : Bs a l) : (a = NIL ∧ l = []) ∨ ∃ cap, a = .pv (u8s l) l.length cap 1 := by
  rcases h with h | ⟨rows, cap, rfl, hA, _⟩
  · exact .inl h
  · exact .inr ⟨cap, by rw [rows_u8 hA, hA.length_eq]⟩
theorem slot_u8 (l : List UInt8) (i n : Nat) : slot (u8s l) (i * 1) (n * 1) = u8s ((l.drop i).take n) := by
  simp only [slot, u8s, Nat.mul_one, List.map_take, List.map_drop]
theorem cut_max {a : AV} {l : List UInt8} (h : Bs a l) {j : Nat} (hj : j ≤ l.length) : ∃ a', (∀ M, slcO M 1 a none (some (I64 j)) (some (I64 j)) = some (a', M)) ∧ Bs a' (l.take j) ∧ ∀ M, Full M 1 isU8 a' (l.take j) := by
  rcases bs_form h with ⟨rfl, rfl⟩ | ⟨cap, rfl⟩
  · obtain rfl : j = 0 := by simpa using hj
    exact ⟨NIL, fun M => rfl, .inl ⟨rfl, rfl⟩, fun M => .inl ⟨rfl, rfl⟩⟩
  · have hlen : (l.take j).length = j := by rw [List.length_take]; omega
    refine ⟨.pv (u8s (l.take j)) j (some j) 1, fun M => ?_, bs_pv _ _ hlen.symm, fun M => .inr ⟨(l.take j).map fun x => [U8 x.toNat], u8s_all2 _, fun r hr => ?_, .inl ?_⟩⟩
    · unfold slcO
      simp only [Nat.beq_refl, bnd_int _ _ _ _ hj, bnd_int _ _ _ _ (Nat.le_refl j), bnd_none, Nat.sub_zero, slot_u8, List.drop_zero]
    · obtain ⟨y, _, rfl⟩ := List.mem_map.1 hr
      rfl
    · rw [u8s_flat, List.length_map, hlen]
theorem cut_at {a : AV} {l : List UInt8} (h : Bs a l) {i j : Nat} (hi : i ≤ j) (hj : j ≤ l.length) : ∃ a', (∀ M, slcO M 1 a (some (I64 i)) (some (I64 j)) none = some (a', M)) ∧ Bs a' ((l.drop i).take (j - i)) := by
  rcases bs_form h with ⟨rfl, rfl⟩ | ⟨cap, rfl⟩
  · obtain rfl : j = 0 := by simpa using hj
    obtain rfl : i = 0 := by omega
    exact ⟨NIL, fun M => rfl, .inl ⟨rfl, rfl⟩⟩
  · refine ⟨.pv (u8s ((l.drop i).take (j - i))) (j - i) (capSub cap i) 1, fun M => ?_, bs_pv _ _ (by rw [List.length_take, List.length_drop]; omega)⟩
    unfold slcO
    simp only [Nat.beq_refl, bnd_int _ _ _ _ hj, bnd_int _ _ _ _ hi, slot_u8]
theorem cut_to {a : AV} {l : List UInt8} (h : Bs a l) {j : Nat} (hj : j ≤ l.length) : ∃ a', (∀ M, slcO M 1 a none (some (I64 j)) none = some (a', M)) ∧ Bs a' (l.take j) := by
  rcases bs_form h with ⟨rfl, rfl⟩ | ⟨cap, rfl⟩
  · obtain rfl : j = 0 := by simpa using hj
    exact ⟨NIL, fun M => rfl, .inl ⟨rfl, rfl⟩⟩
  · refine ⟨.pv (u8s (l.take j)) j (capSub cap 0) 1, fun M => ?_, bs_pv _ _ (by rw [List.length_take]; omega)⟩
    unfold slcO
    simp only [Nat.beq_refl, bnd_int _ _ _ _ hj, bnd_none, Nat.sub_zero, slot_u8, List.drop_zero]
theorem cut_from {a : AV} {l : List UInt8} (h : Bs a l) {i : Nat} (hi : i ≤ l.length) : ∃ a', (∀ M, slcO M 1 a (some (I64 i)) none none = some (a', M)) ∧ Bs a' (l.drop i) := by
  rcases bs_form h with ⟨rfl, rfl⟩ | ⟨cap, rfl⟩
  · obtain rfl : i = 0 := by simpa using hi
    exact ⟨NIL, fun M => rfl, .inl ⟨rfl, rfl⟩⟩
  · have e : (l.drop i).take (l.length - i) = l.drop i := List.take_of_length_le (by rw [List.length_drop]; omega)
    refine ⟨.pv (u8s (l.drop i)) (l.length - i) (capSub cap i) 1, fun M => ?_, bs_pv _ _ (by rw [List.length_drop])⟩
    unfold slcO
    simp only [Nat.beq_refl, bnd_int _ _ _ _ hi, bnd_none, slot_u8, e]
theorem celI_U8 : CelI isU8 := fun r x h y hy M k hk => by
  subst h; simp at hy; subst hy; exact icy_sc _ hk
def clrO (M : Mem) (st : Nat) (z : Value) (x : AV) : OR := match x with
    | .sc (.slice none _ _) => some (.sc (.tuple #[]), M)
    | .sl id off len _ _ => match Nat.beq len 0 with
      | true => some (.sc (.tuple #[]), M)
      | false => match M.get id with
        | some (.row str cs) => match Nat.ble (off + len * st) cs.length && (repCells z len).all oneA && Nat.beq (repCells z len).length (len * st) with
          | true => match M.put id (.row str (lay cs off (repCells z len))) with
            | some M => some (.sc (.tuple #[]), M)
            | none => none
          | false => none
        | _ => none
    | _ => none
theorem x_clr {P : Program} (call : Tg → List AV → Mem → OR) (t : List AV) (M : Mem) (st : Nat) (z : Value) (x : Operand) : execOpA P call t M (.clr st z x) = clrO M st z (evalA t x) := rfl
theorem all2_take {α : Type} {T : List AV → α → Prop} : ∀ {rows : List (List AV)} {l : List α} (n : Nat), All2 T rows l → All2 T (rows.take n) (l.take n)
  | _, _, 0, _ => by simp; exact .nil
  | _, _, n + 1, .nil => by simp; exact .nil
  | _, _, n + 1, .cons a b => .cons a (all2_take n b)
theorem all2_snoc {α : Type} {T : List AV → α → Prop} {r : List AV} {x : α} : ∀ {rows : List (List AV)} {l : List α}, All2 T rows l → T r x → All2 T (rows ++ [r]) (l ++ [x])
  | _, _, .nil, h => .cons h .nil
  | _, _, .cons a b, h => .cons a (all2_snoc b h)
theorem flat_drop {st : Nat} : ∀ {rows : List (List AV)} (i : Nat), (∀ r ∈ rows, r.length = st) → rows.flatten.drop (i * st) = (rows.drop i).flatten
  | _, 0, _ => by simp
  | [], i + 1, _ => by simp
  | r :: rows, i + 1, h => by
    have hr := h r List.mem_cons_self
    rw [List.flatten_cons, List.drop_succ_cons, Nat.succ_mul, Nat.add_comm, ← List.drop_drop, List.drop_left' hr]
    exact flat_drop i fun q hq => h q (List.mem_cons_of_mem _ hq)
theorem flat_take2 {st : Nat} : ∀ {rows : List (List AV)} (i : Nat), (∀ r ∈ rows, r.length = st) → rows.flatten.take (i * st) = (rows.take i).flatten
  | _, 0, _ => by simp
  | [], i + 1, _ => by simp
  | r :: rows, i + 1, h => by
    have hr := h r List.mem_cons_self
    rw [List.flatten_cons, List.take_succ_cons, List.flatten_cons, Nat.succ_mul, Nat.add_comm, ← hr, List.take_length_add_append, hr, flat_take2 i fun q hq => h q (List.mem_cons_of_mem _ hq)]
theorem all2_drop {α : Type} {T : List AV → α → Prop} : ∀ {rows : List (List AV)} {l : List α} (n : Nat), All2 T rows l → All2 T (rows.drop n) (l.drop n)
  | _, _, 0, h => h
  | _, _, n + 1, .nil => by simp; exact .nil
  | _, _, n + 1, .cons a b => all2_drop n b
theorem sl_to {α : Type} {T : List AV → α → Prop} {st : Nat} {a : AV} {l : List α} (h : Sl st T a l) {j : Nat} (hj : j ≤ l.length) : ∃ a', (∀ M, slcO M st a none (some (I64 j)) none = some (a', M)) ∧ Sl st T a' (l.take j) := by
  rcases h with ⟨rfl, rfl⟩ | ⟨rows, cap, rfl, hA, hr⟩
  · obtain rfl : j = 0 := by simpa using hj
    exact ⟨NIL, fun M => rfl, .inl ⟨rfl, rfl⟩⟩
  · have hl := hA.length_eq
    refine ⟨.pv (rows.take j).flatten j (capSub cap 0) st, fun M => ?_, .inr ⟨rows.take j, capSub cap 0, by rw [List.length_take, Nat.min_eq_left (by omega)], all2_take j hA, fun r hq => hr r (List.mem_of_mem_take hq)⟩⟩
    have hs : slot rows.flatten 0 (j * st) = (rows.take j).flatten := by rw [slot, List.drop_zero, flat_take2 j hr]
    unfold slcO
    simp only [Nat.beq_refl, bnd_int _ _ _ _ (show j ≤ rows.length by omega), bnd_none, Nat.zero_mul, Nat.sub_zero, hs]
theorem sl_from {α : Type} {T : List AV → α → Prop} {st : Nat} {a : AV} {l : List α} (h : Sl st T a l) {i : Nat} (hi : i ≤ l.length) : ∃ a', (∀ M, slcO M st a (some (I64 i)) none none = some (a', M)) ∧ Sl st T a' (l.drop i) := by
  rcases h with ⟨rfl, rfl⟩ | ⟨rows, cap, rfl, hA, hr⟩
  · obtain rfl : i = 0 := by simpa using hi
    exact ⟨NIL, fun M => rfl, .inl ⟨rfl, rfl⟩⟩
  · have hl := hA.length_eq
    refine ⟨.pv (rows.drop i).flatten (rows.length - i) (capSub cap i) st, fun M => ?_, .inr ⟨rows.drop i, capSub cap i, by rw [List.length_drop], all2_drop i hA, fun r hq => hr r (List.mem_of_mem_drop hq)⟩⟩
    have hs : slot rows.flatten (i * st) ((rows.length - i) * st) = (rows.drop i).flatten := by
      rw [slot, flat_drop i hr, List.take_of_length_le]
      rw [flat_len (st := st) (fun r hq => hr r (List.mem_of_mem_drop hq)), List.length_drop]
      exact Nat.le_refl _
    unfold slcO
    simp only [Nat.beq_refl, bnd_int _ _ _ _ (show i ≤ rows.length by omega), bnd_none, hs]
theorem apart2_pu (g : FP) (a b : Nat) : apart2 .pure (g, a, b) = true := by
  unfold apart2
  rw [apart_pp]
  rfl
/-- Append to a slice of ours, of what is frozen: what comes behind it. -/
theorem w3_app {α : Type} {X : Mem} {st bytes : Nat} {T : List AV → α → Prop} {a y : AV} {l l' : List α} {Q : AV → Mem → Prop} (wf : Wf X) (h : SlM X st T a l) (hT : Cel T) (hy : Sl st T y l') (hs : 0 < st) (hb1 : (l.length + l'.length) * bytes ≤ 140737488355328) (hb2 : l.length + l'.length ≤ 140737488355328)
    (k : ∀ a' M', SlM M' st T a' (l ++ l') → Wf M' → X.size ≤ M'.size → M'.size ≤ X.size + 1 → (∀ j, j < X.size → rowOf a ≠ some j → M'.get j = X.get j) → (∀ id, rowOf a' = some id → rowOf a = some id ∨ X.size ≤ id) → M'.wm = X.wm → ((rowsOf a').all fun i => Nat.blt i M'.size) = true → oneA a' = true → cellsA a' = [a'] → Q a' M') : W3 (appO X st bytes a y) Q := by
  obtain ⟨rows, ha, hb, hc, hd⟩ := hy.open
  obtain ⟨o, N, e, m, w, le, le2, kp, nw, wm⟩ := h.appO wf (ha X) hb hc hd (hT.all hc) hs hb1 hb2
  exact ⟨o, N, e, k o N m w le le2 kp nw wm (rows_lt m.rl (Nat.le_refl _)) m.one m.cells⟩
/-- Append to a slice of ours, of cells that we know. -/
theorem w3_appc {α : Type} {X : Mem} {st bytes : Nat} {T : List AV → α → Prop} {a y : AV} {l l' : List α} {new : List (List AV)} {Q : AV → Mem → Prop} (wf : Wf X) (h : SlM X st T a l) (hT : Cel T) (hy : cellsOf X y = some new.flatten) (hl : lenA y = some l'.length) (hn : All2 T new l') (hr : ∀ r ∈ new, r.length = st) (hs : 0 < st) (hb1 : (l.length + l'.length) * bytes ≤ 140737488355328) (hb2 : l.length + l'.length ≤ 140737488355328)
    (k : ∀ a' M', SlM M' st T a' (l ++ l') → Wf M' → X.size ≤ M'.size → M'.size ≤ X.size + 1 → (∀ j, j < X.size → rowOf a ≠ some j → M'.get j = X.get j) → (∀ id, rowOf a' = some id → rowOf a = some id ∨ X.size ≤ id) → M'.wm = X.wm → ((rowsOf a').all fun i => Nat.blt i M'.size) = true → oneA a' = true → cellsA a' = [a'] → Q a' M') : W3 (appO X st bytes a y) Q := by
  obtain ⟨o, N, e, m, w, le, le2, kp, nw, wm⟩ := h.appO wf hy hl hn hr (hT.all hn) hs hb1 hb2
  exact ⟨o, N, e, k o N m w le le2 kp nw wm (rows_lt m.rl (Nat.le_refl _)) m.one m.cells⟩
/-- Frozen, it reads as it read, wherever its row stands as it stood. -/
theorem slm_frz {α : Type} {M : Mem} {st : Nat} {T : List AV → α → Prop} {a : AV} {l : List α} (h : SlM M st T a l) (hT : Cel T) : ∃ ro, Sl st T ro l ∧ ∀ N, (∀ id, rowOf a = some id → N.get id = M.get id) → frz N 0 11 a = some ro := by
  rcases h with ⟨rfl, rfl⟩ | ⟨id, rows, cap, rfl, _, hg, h, hl⟩
  · exact ⟨_, .inl ⟨rfl, rfl⟩, fun N _ => frz_sc _ (by omega)⟩
  · refine ⟨.pv rows.flatten rows.length cap st, .inr ⟨rows, cap, rfl, h, hl⟩, fun N hN => ?_⟩
    rw [frz_sl (rd_row ((hN id rfl).trans hg)) (by rw [flat_len hl]; omega) (by omega) (fun x hx => (hT.flat h x hx).2 N _ (by omega)), slot_all _ _ (by rw [flat_len hl])]
theorem apart2_e (n n' a b : Nat) : apart2 (.acc [] []) (fpOf [] [] n n', a, b) = true := by
  unfold fpOf
  cases hb : Nat.beq n n' <;> simp [apart2, FP.apart, disj, FP.reads, FP.writes, hb]
theorem apart2_r (i n n' : Nat) (h : i < n) : apart2 (.acc [i] []) (fpOf [] [] n n', n, n') = true := by
  have hb : Nat.ble n i = false := by
    cases hc : Nat.ble n i with
    | false => rfl
    | true => have := Nat.le_of_ble_eq_true hc; omega
  unfold fpOf
  cases hd : Nat.beq n n' <;> simp [apart2, FP.apart, disj, FP.reads, FP.writes, hb, hd]
theorem wrap_u8I (n : Int) : IntKind.u8.wrap n = ((UInt8.ofNat (n % 256).toNat).toNat : Int) := by
  have h : IntKind.u8.wrap n = n % 256 := by
    simp [IntKind.wrap, IntKind.signed, IntKind.bits]
  rw [h, UInt8.toNat_ofNat']
  have h0 := Int.emod_nonneg n (show (256 : Int) ≠ 0 by omega)
  have h1 := Int.emod_lt_of_pos n (show (0 : Int) < 256 by omega)
  rw [Nat.mod_eq_of_lt (by omega)]
  omega
theorem wrap_u8N (n : Nat) : IntKind.u8.wrap (n : Int) = ((UInt8.ofNat n).toNat : Int) := by
  simp [IntKind.wrap, IntKind.bits, IntKind.signed, UInt8.toNat_ofNat']

def appzO (M : Mem) (st bytes : Nat) (z : Value) (x : AV) (n : Option Nat) : OR := match n, cellsOf M x with
    | some n, some old => appendA M x old (repCells z n) n st bytes
    | _, _ => none
theorem x_appz {P : Program} (call : Tg → List AV → Mem → OR) (t : List AV) (M : Mem) (e : TypeId) (st bytes : Nat) (z : Value) (x n : Operand) : execOpA P call t M (.appz e st bytes z x n) = appzO M st bytes z (evalA t x) (natOf (evalA t n)) := rfl
theorem rep_flat (n : Nat) : (List.replicate n [U8 0]).flatten = List.replicate n (U8 0) := by
  induction n with
  | zero => rfl
  | succ n ih => rw [List.replicate_succ, List.flatten_cons, ih]; rfl
theorem rep_all2 (n : Nat) : All2 isU8 (List.replicate n [U8 0]) (List.replicate n 0) := by
  induction n with
  | zero => exact .nil
  | succ n ih => rw [List.replicate_succ, List.replicate_succ]; exact .cons rfl ih
theorem appz_ok {M : Mem} {a : AV} {l : List UInt8} (h : SlM M 1 isU8 a l) (wf : Wf M) (n : Nat) (hn : l.length + n ≤ 140737488355328) :
    ∃ a' M', appzO M 1 1 (.int .u8 0) a (some n) = some (a', M') ∧ SlM M' 1 isU8 a' (l ++ List.replicate n 0) ∧ Wf M' ∧ M.size ≤ M'.size := by
  obtain ⟨a', M', ⟨old, ho, hap⟩, hS, wf', hle, _⟩ := h.app wf (new := List.replicate n [U8 0]) (l' := List.replicate n 0) (bytes := 1) (rep_all2 n) (fun r hr => by rw [(List.mem_replicate.1 hr).2]; rfl) (cel_U8.all (rep_all2 n)) (by omega) (by rw [List.length_replicate]; omega) (by rw [List.length_replicate]; omega)
  refine ⟨a', M', ?_, hS, wf', hle⟩
  rw [rep_flat, List.length_replicate] at hap
  unfold appzO
  simp only [ho, rep_u8, hap]

def cpyO (M : Mem) (st : Nat) (x y : AV) : OR := match lenA x, lenA y with
    | some lx, some ly =>
      match firstA M (Nat.min ly lx) st y with
      | some new => match x with
        | .sc (.slice none 0 0) => some (.sc (goInt 0), M)
        | .sl id off _ _ _ => match M.get id with
          | some (.row str cs) => match Nat.ble (off + new.length) cs.length && new.all oneA with
            | true => match M.put id (.row str (lay cs off new)) with
              | some M => some (.sc (goInt (Nat.min ly lx)), M)
              | none => none
            | false => none
          | _ => none
        | _ => none
      | none => none
    | _, _ => none
theorem x_cpy {P : Program} (call : Tg → List AV → Mem → OR) (t : List AV) (M : Mem) (st : Nat) (x y : Operand) : execOpA P call t M (.cpy st x y) = cpyO M st (evalA t x) (evalA t y) := by
  simp only [execOpA, cpyO]
  cases evalA t x <;> rfl
/-- Bytes that are frozen, laid into a row of ours where there is room for all of them. -/
theorem cpy_ok {M : Mem} (wf : Wf M) {id off n : Nat} {cap : Option Nat} {cs : List AV} {y : AV} {l : List UInt8} (hg : M.get id = some (.row false cs)) (hy : Bs y l) (hn : l.length ≤ n) (hc : off + l.length ≤ cs.length) :
    ∃ k, cpyO M 1 (.sl id off n cap 1) y = some (.sc (goInt k), M.upd id (.row false (lay cs off (u8s l)))) := by
  refine ⟨Nat.min l.length n, ?_⟩
  have hm : Nat.min l.length n = l.length := Nat.min_eq_left hn
  have hf : firstA M l.length 1 y = some (u8s l) := by
    rcases bs_form hy with ⟨rfl, rfl⟩ | ⟨cap, rfl⟩
    · rfl
    · simp only [firstA, Nat.beq_refl, Nat.ble_eq_true_of_le (Nat.le_refl _), Bool.and_self]
      rw [List.take_of_length_le (by rw [u8s_len]; omega)]
  have hly : lenA y = some l.length := by obtain ⟨_, _, h, _⟩ := hy.open; exact h
  have hlx : lenA (.sl id off n cap 1) = some n := rfl
  have hb : Nat.ble (off + (u8s l).length) cs.length = true := Nat.ble_eq_true_of_le (by rw [u8s_len]; exact hc)
  unfold cpyO
  simp only [hlx, hly, hm, hf, hg, hb, u8s_one, Bool.and_self, put_upd wf (Mem.get_lt hg)]
/-! ### A table with gaps -/
def msk : List (Option AFunc) → List (Option AFunc) → List (Option AFunc)
  | none :: l, _ :: m => none :: msk l m
  | some _ :: l, x :: m => x :: msk l m
  | _, _ => []
theorem msk_get : ∀ {l m : List (Option AFunc)} {i : Nat} {a : AFunc} {x : Option AFunc}, l[i]? = some (some a) → (msk l m)[i]? = some x → m[i]? = some x
  | [], _, _, _, _, h, _ => by simp at h
  | none :: l, [], _, _, _, _, k => by simp [msk] at k
  | some _ :: l, [], _, _, _, _, k => by simp [msk] at k
  | none :: l, y :: m, 0, _, _, h, _ => by simp at h
  | some _ :: l, y :: m, 0, _, _, _, k => by simpa [msk] using k
  | none :: l, y :: m, i + 1, _, _, h, k => by
    simp only [msk, List.getElem?_cons_succ] at h k ⊢
    exact msk_get h k
  | some _ :: l, y :: m, i + 1, _, _, h, k => by
    simp only [msk, List.getElem?_cons_succ] at h k ⊢
    exact msk_get h k
/-- Without what is proved by itself. -/
def noX : Option AFunc → Option AFunc
  | some af => match af.gc with | 3 => none | _ => some af
  | none => none
theorem tab_msk {P : Program} {l : List (Option AFunc)} {n : Nat} (h : (l.map noX).map clr = msk (l.map noX) (tabList P n 0))
    (hx : ∀ f af, l[f]? = some (some af) → af.gc = 3 → ∃ fn, P.funcs[f]? = some fn ∧ (fn.name == "runtime.NumGoroutine") = false ∧ fn.body.isSome = true ∧ ∃ g, af.body = .ext g ∧ ExtOK Γ P f g) : TabOK Γ P (fsT l) := by
  intro f af hf
  have hl : l[f]? = some (some af) := by
    unfold fsT at hf
    rw [nth_eq] at hf
    cases hl : l[f]? with
    | none => rw [hl] at hf; cases hf
    | some x => rw [hl] at hf; simp at hf; subst hf; rfl
  by_cases hg : af.gc = 3
  · obtain ⟨fn, h1, h2, h3, g, h4, h5⟩ := hx f af hl hg
    exact ⟨fn, h1, h2, .inr ⟨hg, h3, g, h4, h5⟩⟩
  · have hl' : (l.map noX)[f]? = some (some af) := by
      have e : noX (some af) = some af := by
        obtain ⟨a, b, c, g⟩ := af
        unfold noX
        match g, hg with
        | 0, _ => rfl
        | 1, _ => rfl
        | 2, _ => rfl
        | 3, h => exact absurd rfl h
        | _ + 4, _ => rfl
      rw [List.getElem?_map, hl, Option.map_some, e]
    have h1 : ((l.map noX).map clr)[f]? = some (clr (some af)) := by rw [List.getElem?_map, hl']; rfl
    rw [h] at h1
    have h2 := msk_get hl' h1
    have h3 : nth none (tabList P n 0) f = some { af with gc := 0 } := by rw [nth_eq, h2]; rfl
    have h4 := tabList_get P n 0 f _ h3
    rw [Nat.zero_add] at h4
    obtain ⟨fn, k1, k2, k3⟩ := tab_fsOf (Γ := Γ) P f _ h4
    refine ⟨fn, k1, k2, .inl ⟨?_, hg⟩⟩
    rcases k3 with ⟨k3, _⟩ | ⟨k3, _⟩
    · exact k3
    · exact absurd (show (0 : Nat) = 3 from k3) (by decide)
def no3 : Option AFunc → Bool
  | some af => match af.gc with | 3 => false | _ => true
  | none => true
theorem tab_msk0 {P : Program} {l : List (Option AFunc)} {n : Nat} (h : (l.map noX).map clr = msk (l.map noX) (tabList P n 0)) (h3 : l.all no3 = true) : TabOK Γ P (fsT l) :=
  tab_msk h fun f af hl hg => by
    rw [List.all_eq_true] at h3
    have := h3 _ (List.mem_of_getElem? hl)
    simp only [no3] at this
    rw [hg] at this
    cases this
end Go.Ax

/-
  The executor, run on symbols: whether two structs of plain cells are the same.
-/
set_option linter.unusedSimpArgs false
set_option linter.unusedVariables false
set_option maxRecDepth 100000
namespace Go.Ax
open Go
variable {P : Program}

theorem pureRun_inv {α β : Type} (f : α → Sem β) {b : β} : ∀ {s : Sem α}, pureRun P (s >>= f) = some b → ∃ a, pureRun P s = some a ∧ pureRun P (f a) = some b := by
  intro s
  induction s with
  | pure a => intro h; exact ⟨a, rfl, h⟩
  | program k ih => intro h; exact ih P h
  | mark m k ih => intro h; exact ih h
  | _ => intro h; cases h
theorem pureRun_struct {d : Nat} {t : TypeId} {xs ys : Array Value} {fs : Array Field} {b : Bool} (ht : P.underlying t = some (.struct fs)) (hp : P.stoodInHeld t = false) (h : pureRun P (Op.eqFields d xs ys fs.toList) = some b) :
    pureRun P (Op.equalIn (d + 1) t (.agg xs) (.agg ys)) = some b := by
  unfold Op.equalIn
  refine pureRun_bind2 _ (a := TypeDesc.struct fs) (pureRun_bind2 _ (a := P) rfl (by simp only [ht]; rfl)) ?_
  refine pureRun_bind2 _ (a := P) rfl ?_
  simp only [hp, Bool.false_eq_true, if_false]
  rw [← Array.forIn_toList]
  generalize fs.toList = l at h
  clear ht
  induction l with
  | nil => exact h
  | cons f l ih =>
    simp only [Op.eqFields] at h
    simp only [List.forIn_cons]
    split at h
    · rename_i hn
      obtain ⟨a, h1, h⟩ := pureRun_inv _ h
      obtain ⟨c, h2, h⟩ := pureRun_inv _ h
      obtain ⟨r, h3, h⟩ := pureRun_inv _ h
      cases r with
      | false =>
        simp only [Bool.not_false, if_true] at h
        cases h
        refine pureRun_bind2 _ (a := (some false, ())) (pureRun_bind2 _ (a := ForInStep.done (some false, ())) ?_ rfl) rfl
        rw [if_pos hn]
        exact pureRun_bind2 _ h1 (pureRun_bind2 _ h2 (pureRun_bind2 _ h3 rfl))
      | true =>
        simp only [Bool.not_true, Bool.false_eq_true, if_false] at h
        obtain ⟨e, k1, k2⟩ := pureRun_inv _ (ih h)
        refine pureRun_bind2 _ (a := e) (pureRun_bind2 _ (a := ForInStep.yield (none, ())) ?_ k1) k2
        rw [if_pos hn]
        exact pureRun_bind2 _ h1 (pureRun_bind2 _ h2 (pureRun_bind2 _ h3 rfl))
    · rename_i hn
      obtain ⟨e, k1, k2⟩ := pureRun_inv _ (ih h)
      refine pureRun_bind2 _ (a := e) (pureRun_bind2 _ (a := ForInStep.yield (none, ())) ?_ k1) k2
      rw [if_neg hn]
      rfl

/-- Plain types, down to their cells; what is compared of the program. -/
inductive PT where
  | int (k : IntKind)
  | bool
  | str
  | st (l : List PT)
mutual
def PT.n : PT → Nat
  | .st l => PT.ns l
  | .int _ => 1
  | .bool => 1
  | .str => 1
def PT.ns : List PT → Nat
  | [] => 0
  | t :: l => t.n + PT.ns l
end
mutual
def PT.dep : PT → Nat
  | .st l => PT.deps l + 1
  | .int _ => 1
  | .bool => 1
  | .str => 1
def PT.deps : List PT → Nat
  | [] => 0
  | t :: l => Nat.max t.dep (PT.deps l)
end
mutual
/-- Cells of such a type. -/
def PT.is : PT → List Value → Prop
  | .int k, l => ∃ n, l = [.int k n]
  | .bool, l => ∃ b, l = [.bool b]
  | .str, l => ∃ s, l = [.string s]
  | .st ts, l => PT.iss ts l
def PT.iss : List PT → List Value → Prop
  | [], l => l = []
  | t :: ts, l => ∃ a b, l = a ++ b ∧ t.is a ∧ PT.iss ts b
end
mutual
def PT.fits (P : Program) : PT → TypeId → Bool
  | .int k, t => match P.underlying t with | some (.int _) => true | _ => false
  | .bool, t => match P.underlying t with | some .bool => true | _ => false
  | .str, t => match P.underlying t with | some .string => true | _ => false
  | .st gs, t => match P.underlying t with
    | some (.struct fs) => !P.stoodInHeld t && (match P.info? t with | some i => Nat.beq i.size (PT.ns gs) | none => false) && PT.fitss P gs fs.toList 0
    | _ => false
def PT.fitss (P : Program) : List PT → List Field → Nat → Bool
  | [], [], _ => true
  | g :: gs, f :: fs, o => Nat.beq f.offset o && !(f.name == "_") && g.fits P f.type && PT.fitss P gs fs (o + g.n)
  | [], _ :: _, _ => false
  | _ :: _, [], _ => false
end
/-- The value of cells. -/
def PT.val : PT → List Value → Value
  | .st _, l => .agg l.toArray
  | _, l => l.headD undef
mutual
theorem PT.is_len : ∀ (g : PT) {l : List Value}, g.is l → l.length = g.n
  | .int _, _, h => by simp only [PT.is] at h; obtain ⟨_, rfl⟩ := h; rfl
  | .bool, _, h => by simp only [PT.is] at h; obtain ⟨_, rfl⟩ := h; rfl
  | .str, _, h => by simp only [PT.is] at h; obtain ⟨_, rfl⟩ := h; rfl
  | .st ts, _, h => by
    simp only [PT.is] at h
    simpa [PT.n] using PT.iss_len ts h
theorem PT.iss_len : ∀ (g : List PT) {l : List Value}, PT.iss g l → l.length = PT.ns g
  | [], _, h => by simp only [PT.iss] at h; subst h; rfl
  | t :: ts, _, h => by
    simp only [PT.iss] at h
    obtain ⟨a, b, rfl, h1, h2⟩ := h
    rw [List.length_append, PT.is_len t h1, PT.iss_len ts h2]; rfl
end
theorem pure_isAgg {t : TypeId} {d : TypeDesc} (h : P.underlying t = some d) : pureRun P (isAgg t) = some (match d with | .struct _ | .array _ _ => true | _ => false) := by
  unfold isAgg
  refine pureRun_bind2 _ (a := d) (pureRun_bind2 _ (a := P) rfl (by simp only [h]; rfl)) ?_
  cases d <;> rfl
theorem pure_part1 {t : TypeId} {d : TypeDesc} (h : P.underlying t = some d) (hd : (match d with | .struct _ | .array _ _ => true | _ => false) = false) {xs : Array Value} {o : Nat} {v : Value} (hv : xs[o]? = some v) : pureRun P (Go.part t xs o) = some v := by
  unfold Go.part
  refine pureRun_bind2 _ (pure_isAgg h) ?_
  rw [hd, hv]
  rfl
theorem pure_partS {t : TypeId} {fs : Array Field} {n : Nat} (h : P.underlying t = some (.struct fs)) (hn : ∃ i, P.info? t = some i ∧ i.size = n) {xs : Array Value} {o : Nat} : pureRun P (Go.part t xs o) = some (.agg (xs.extract o (o + n))) := by
  obtain ⟨i, hi, rfl⟩ := hn
  unfold Go.part
  refine pureRun_bind2 _ (pure_isAgg h) ?_
  refine pureRun_bind2 _ (a := i.size) ?_ rfl
  unfold sizeOf typeInfo
  refine pureRun_bind2 _ (a := i) ?_ rfl
  refine pureRun_bind2 _ (a := P) rfl ?_
  rw [hi]; rfl
mutual
theorem PT.eq : ∀ (g : PT) (t : TypeId) (n : Nat) {xs ys : List Value}, g.fits P t = true → g.dep ≤ n → g.is xs → g.is ys → ∃ b, pureRun P (Op.equalIn n t (g.val xs) (g.val ys)) = some b ∧ (b = true ↔ xs = ys)
  | .int k, t, n, xs, ys, hf, hn, hx, hy => by
    simp only [PT.dep] at hn
    obtain ⟨n, rfl⟩ : ∃ m, n = m + 1 := ⟨n - 1, by omega⟩
    simp only [PT.is] at hx hy
    obtain ⟨a, rfl⟩ := hx
    obtain ⟨b, rfl⟩ := hy
    simp only [PT.fits] at hf
    split at hf
    · rename_i j hu
      refine ⟨a == b, ?_, by simp⟩
      unfold Op.equalIn
      refine pureRun_bind2 _ (a := TypeDesc.int j) (pureRun_bind2 _ (a := P) rfl (by simp only [hu]; rfl)) ?_
      show pureRun P (if k = k then pure (a == b) else stuck _) = _
      rw [if_pos rfl]
      rfl
    · cases hf
  | .bool, t, n, xs, ys, hf, hn, hx, hy => by
    simp only [PT.dep] at hn
    obtain ⟨n, rfl⟩ : ∃ m, n = m + 1 := ⟨n - 1, by omega⟩
    simp only [PT.is] at hx hy
    obtain ⟨a, rfl⟩ := hx
    obtain ⟨b, rfl⟩ := hy
    simp only [PT.fits] at hf
    split at hf
    · rename_i hu
      refine ⟨a == b, ?_, by simp⟩
      unfold Op.equalIn
      refine pureRun_bind2 _ (a := TypeDesc.bool) (pureRun_bind2 _ (a := P) rfl (by simp only [hu]; rfl)) ?_
      rfl
    · cases hf
  | .str, t, n, xs, ys, hf, hn, hx, hy => by
    simp only [PT.dep] at hn
    obtain ⟨n, rfl⟩ : ∃ m, n = m + 1 := ⟨n - 1, by omega⟩
    simp only [PT.is] at hx hy
    obtain ⟨a, rfl⟩ := hx
    obtain ⟨b, rfl⟩ := hy
    simp only [PT.fits] at hf
    split at hf
    · rename_i hu
      refine ⟨a == b, ?_, by
        obtain ⟨x⟩ := a
        obtain ⟨y⟩ := b
        show (x == y) = true ↔ _
        rw [beq_iff_eq]
        exact ⟨fun h => by rw [h], fun h => by cases h; rfl⟩⟩
      unfold Op.equalIn
      refine pureRun_bind2 _ (a := TypeDesc.string) (pureRun_bind2 _ (a := P) rfl (by simp only [hu]; rfl)) ?_
      rfl
    · cases hf
  | .st gs, t, n, xs, ys, hf, hn, hx, hy => by
    simp only [PT.dep] at hn
    obtain ⟨n, rfl⟩ : ∃ m, n = m + 1 := ⟨n - 1, by omega⟩
    simp only [PT.is] at hx hy
    simp only [PT.fits] at hf
    split at hf
    · rename_i fs hu
      simp only [Bool.and_eq_true, Bool.not_eq_true'] at hf
      obtain ⟨b, h1, h2⟩ := PT.eqs gs fs.toList n 0 (X := xs.toArray) (Y := ys.toArray) hf.2 (by omega) hx hy (by simp) (by simp)
      exact ⟨b, pureRun_struct hu hf.1.1 h1, h2⟩
    · cases hf
theorem PT.eqs : ∀ (gs : List PT) (fs : List Field) (n o : Nat) {xs ys : List Value} {X Y : Array Value}, PT.fitss P gs fs o = true → PT.deps gs ≤ n → PT.iss gs xs → PT.iss gs ys → X.toList.drop o = xs → Y.toList.drop o = ys →
    ∃ b, pureRun P (Op.eqFields n X Y fs) = some b ∧ (b = true ↔ xs = ys)
  | [], [], n, o, xs, ys, X, Y, _, _, hx, hy, _, _ => by
    simp only [PT.iss] at hx hy
    subst hx hy
    exact ⟨true, rfl, by simp⟩
  | [], _ :: _, _, _, _, _, _, _, hf, _, _, _, _, _ => by simp [PT.fitss] at hf
  | _ :: _, [], _, _, _, _, _, _, hf, _, _, _, _, _ => by simp [PT.fitss] at hf
  | g :: gs, f :: fs, n, o, xs, ys, X, Y, hf, hn, hx, hy, hX, hY => by
    simp only [PT.fitss, Bool.and_eq_true, Bool.not_eq_true'] at hf
    obtain ⟨⟨⟨h1, h2⟩, h3⟩, h4⟩ := hf
    have h1 := Nat.eq_of_beq_eq_true h1
    have h2 : f.name ≠ "_" := fun e => by rw [e] at h2; simp at h2
    simp only [PT.deps] at hn
    have hn1 : g.dep ≤ n := Nat.le_trans (Nat.le_max_left _ _) hn
    have hn2 : PT.deps gs ≤ n := Nat.le_trans (Nat.le_max_right _ _) hn
    simp only [PT.iss] at hx hy
    obtain ⟨xa, xb, hxe, hxa, hxb⟩ := hx
    obtain ⟨ya, yb, hye, hya, hyb⟩ := hy
    have lxa := PT.is_len g hxa
    have lya := PT.is_len g hya
    have hp : ∀ (Z : Array Value) (za zb : List Value), Z.toList.drop o = za ++ zb → g.is za → za.length = g.n → pureRun P (Go.part f.type Z f.offset) = some (g.val za) := by
      intro Z za zb hz hza lza
      rw [h1]
      have hget : ∀ v, za = [v] → Z[o]? = some v := fun v e => by
        rw [e] at hz
        have := congrArg (·[0]?) hz
        simp only [List.getElem?_drop] at this
        rw [← Array.getElem?_toList]
        simpa using this
      cases g with
      | int k =>
        simp only [PT.is] at hza
        obtain ⟨a, rfl⟩ := hza
        simp only [PT.fits] at h3
        split at h3
        · rename_i j hu
          exact pure_part1 hu rfl (hget _ rfl)
        · cases h3
      | bool =>
        simp only [PT.is] at hza
        obtain ⟨a, rfl⟩ := hza
        simp only [PT.fits] at h3
        split at h3
        · rename_i hu
          exact pure_part1 hu rfl (hget _ rfl)
        · cases h3
      | str =>
        simp only [PT.is] at hza
        obtain ⟨a, rfl⟩ := hza
        simp only [PT.fits] at h3
        split at h3
        · rename_i hu
          exact pure_part1 hu rfl (hget _ rfl)
        · cases h3
      | st ts =>
        simp only [PT.fits] at h3
        split at h3
        · rename_i fs' hu
          simp only [Bool.and_eq_true, Bool.not_eq_true'] at h3
          have hi : ∃ i, P.info? f.type = some i ∧ i.size = PT.ns ts := by
            have := h3.1.2
            split at this
            · rename_i i hi
              exact ⟨i, hi, Nat.eq_of_beq_eq_true this⟩
            · cases this
          rw [pure_partS hu hi]
          show some (Value.agg _) = some (Value.agg _)
          congr 2
          apply Array.ext'
          rw [Array.toList_extract, List.extract_eq_take_drop, Nat.add_sub_cancel_left, hz]
          have : za.length = PT.ns ts := lza
          rw [← this, List.take_left]
        · cases h3
    have px := hp X xa xb (hX.trans hxe) hxa lxa
    have py := hp Y ya yb (hY.trans hye) hya lya
    obtain ⟨b1, pe, he1⟩ := PT.eq g f.type n h3 hn1 hxa hya
    have dX : X.toList.drop (o + g.n) = xb := by rw [← List.drop_drop, hX, hxe, ← lxa, List.drop_left]
    have dY : Y.toList.drop (o + g.n) = yb := by rw [← List.drop_drop, hY, hye, ← lya, List.drop_left]
    obtain ⟨b2, ps, he2⟩ := PT.eqs gs fs n (o + g.n) h4 hn2 hxb hyb dX dY
    simp only [Op.eqFields]
    rw [if_pos h2]
    have hl : xa.length = ya.length := lxa.trans lya.symm
    cases b1 with
    | true =>
      refine ⟨b2, pureRun_bind2 _ px (pureRun_bind2 _ py (pureRun_bind2 _ pe ps)), ?_⟩
      have e := he1.1 rfl
      subst e
      rw [he2, hxe, hye]
      exact ⟨fun h => by rw [h], fun h => List.append_cancel_left h⟩
    | false =>
      refine ⟨false, pureRun_bind2 _ px (pureRun_bind2 _ py (pureRun_bind2 _ pe rfl)), ?_⟩
      constructor
      · intro h; cases h
      · intro h
        rw [hxe, hye] at h
        exact he1.2 (List.append_inj h hl).1
end
theorem pureRun_eqG {op : BinOp} {t : TypeId} {x y : Operand} {xs ys : Array Value} (h : P.eqGuardType P.depth t = false) : pureRun P (eqGuard op t x y (.agg xs) (.agg ys)) = some () := by
  unfold eqGuard
  cases op
  all_goals simp only [Bool.not_true, Bool.not_false, Bool.false_eq_true, if_true, if_false]
  all_goals first | rfl | (refine pureRun_bind2 _ (a := P) rfl (pureRun_bind2 _ (a := P) rfl ?_); rw [h]; rfl)
/-- Values of plain cells. -/
def plainV : List AV → Option (List Value)
  | [] => some []
  | .sc v :: l => match plainV l with | some vs => some (v :: vs) | none => none
  | _ :: _ => none
theorem plainV_val : ∀ {l : List AV} {vs : List Value}, plainV l = some vs → toVal.toVals l = some vs
  | [], _, h => by simp [plainV] at h; subst h; rfl
  | .sc v :: l, vs, h => by
    simp only [plainV] at h
    split at h
    · rename_i vs' h'
      cases h
      simp only [toVal.toVals, toVal, plainV_val h']
    · cases h
  | .ptr .. :: _, _, h => by simp [plainV] at h
  | .sl .. :: _, _, h => by simp [plainV] at h
  | .mp _ :: _, _, h => by simp [plainV] at h
  | .fn .. :: _, _, h => by simp [plainV] at h
  | .yl _ :: _, _, h => by simp [plainV] at h
  | .agg _ :: _, _, h => by simp [plainV] at h
  | .tup _ :: _, _, h => by simp [plainV] at h
  | .pv .. :: _, _, h => by simp [plainV] at h
  | .cp .. :: _, _, h => by simp [plainV] at h
/-- Two structs of plain cells, compared. -/
theorem pEqS {t : List AV} (gs : List PT) (neg : Bool) (ty r1 r2 : TypeId) (i j : Nat) {l m : List AV} {xs ys : List Value} (hf : (PT.st gs).fits P ty = true) (hd : (PT.st gs).dep ≤ 10000) (hg : P.eqGuardType P.depth ty = false)
    (h1 : evalA t (.tmp i) = .agg l) (h2 : evalA t (.tmp j) = .agg m) (p1 : plainV l = some xs) (p2 : plainV m = some ys) (i1 : PT.iss gs xs) (i2 : PT.iss gs ys) :
    ∃ b, pureOp P t (mkO (.binOp (if neg then .neq else .eql) ty (.tmp i) (.tmp j) r1) r2) = some (.sc (.bool (if neg then !b else b))) ∧ (b = true ↔ xs = ys) := by
  obtain ⟨b, hb, hbe⟩ := PT.eq (.st gs) ty 10000 hf hd (xs := xs) (ys := ys) (by simpa only [PT.is] using i1) (by simpa only [PT.is] using i2)
  refine ⟨b, ?_, hbe⟩
  have t1 : toVal (.agg l) = some (.agg xs.toArray) := by simp only [toVal, plainV_val p1]
  have t2 : toVal (.agg m) = some (.agg ys.toArray) := by simp only [toVal, plainV_val p2]
  cases neg with
  | true =>
    refine pureOp_of (v := .bool (!b)) ?_ ?_
    · simp only [mkO, Op.operands]
      show ([Operand.tmp i, .tmp j].all fun x => (toVal (evalA t x)).isSome) = true
      simp only [List.all_cons, List.all_nil, h1, h2, t1, t2]
      rfl
    · simp only [execOp, mkO, h1, h2, t1, t2, Option.getD_some]
      have hbo : pureRun P (binOp .neq ty (.agg xs.toArray) (.agg ys.toArray)) = some (.bool (!b)) := by
        unfold binOp
        exact pureRun_bind2 _ hb rfl
      exact pureRun_bind2 _ (pureRun_bind2 _ (a := ()) (pureRun_eqG hg) hbo) rfl
  | false =>
    refine pureOp_of (v := .bool b) ?_ ?_
    · simp only [mkO, Op.operands]
      show ([Operand.tmp i, .tmp j].all fun x => (toVal (evalA t x)).isSome) = true
      simp only [List.all_cons, List.all_nil, h1, h2, t1, t2]
      rfl
    · simp only [execOp, mkO, h1, h2, t1, t2, Option.getD_some]
      have hbo : pureRun P (binOp .eql ty (.agg xs.toArray) (.agg ys.toArray)) = some (.bool b) := by
        unfold binOp
        exact pureRun_bind2 _ hb rfl
      exact pureRun_bind2 _ (pureRun_bind2 _ (a := ()) (pureRun_eqG hg) hbo) rfl
/-! ### A range over a function -/
section
variable {fuel : Nat} {fs : Nat → Option AFunc} {call : Tg → List AV → Mem → Option (AV × Mem)} {M : Mem} {n : Nat}
theorem w_range {f : Operand} {ps : List Nat} {as bo : ACode} {t : List AV} {mk : List Nat} {g : FuncId} {first cap : List AV} {Q : AExit → Fr → Mem → Prop} (wf : Wf M) (hf : evalA t f = .fn g first cap)
    (h : W3 (call (.fn g) (first ++ [.yl (M.size + 1)] ++ cap) ((M.add (.dfr false)).add (.loop .ready none t ps as bo M.size))) (fun _ N => Wf N ∧ M.size + 1 < N.size ∧ ∃ tm ps' as' bo' df, N.get (M.size + 1) = some (.loop .ready none tm ps' as' bo' df) ∧ Q .normal ⟨t, M.size :: mk⟩ (N.upd (M.size + 1) (.loop .exhausted none tm ps' as' bo' df)))) :
    W (execCode P fuel call none (.rangeFunc f ps as bo) ⟨t, mk⟩ M) Q := by
  obtain ⟨v, N, hc, wN, hlt, tm, ps', as', bo', df, hg, hq⟩ := h
  refine ⟨.normal, ⟨t, M.size :: mk⟩, _, ?_, hq⟩
  have hn := new_add (wf.add (.dfr false)) (.loop .ready none t ps as bo M.size)
  rw [add_size] at hn
  simp only [execCode, new_add wf, rangeA, hn, hf, hc, hg, put_upd wN hlt, Option.getD_none]
theorem call_yl {id : Nat} {args tm : List AV} {ps : List Nat} {as bo : ACode} {df : Nat} {Q : AV → Mem → Prop} (hg : M.get id = some (.loop .ready none tm ps as bo df)) (hl : ps.length = args.length)
    (h : W (execCode P fuel (callN P fs fuel n) (some id) as ⟨setAll tm ps args, []⟩ M) (fun e fr N => e = .normal ∧ Wf N ∧ ∃ tm2 ps2 as2 bo2 df2, N.get id = some (.loop .ready none tm2 ps2 as2 bo2 df2) ∧
      W (execCode P fuel (callN P fs fuel n) (some id) bo fr (N.upd id (.loop .busy none tm2 ps2 as2 bo2 df2))) (fun e2 _ N2 => e2 = .normal ∧ Wf N2 ∧ ∃ s3 p3 tm3 ps3 as3 bo3 df3, N2.get id = some (.loop s3 p3 tm3 ps3 as3 bo3 df3) ∧ Q (.sc (.bool true)) (N2.upd id (.loop .ready none tm3 ps3 as3 bo3 df3))))) :
    W3 (callN P fs fuel (n + 1) (.yl id) args M) Q := by
  obtain ⟨e, fr, N, h1, rfl, wN, tm2, ps2, as2, bo2, df2, h2, e2, fr2, N2, h3, rfl, wN2, s3, p3, tm3, ps3, as3, bo3, df3, h4, hq⟩ := h
  refine ⟨_, _, ?_, hq⟩
  have hb : Nat.beq ps.length args.length = true := by rw [hl]; exact Nat.beq_refl _
  simp only [callN, hg, hb, h1, begA, h2, put_upd wN (Mem.get_lt h2), h3, endA, h4, put_upd wN2 (Mem.get_lt h4)]
theorem fin_mark {rs : List ARes} {K : AV → Prop} {t : List AV} {M : Mem} {d : Nat} (wf : Wf M) (h : M.get d = some (.dfr false)) (k : fin rs K .ret ⟨t, []⟩ (M.upd d (.dfr true))) : fin rs K .ret ⟨t, [d]⟩ M := by
  unfold fin at k ⊢
  simp only [spend, h, put_upd wf (Mem.get_lt h)] at k ⊢
  exact k
end
/-- Frozen, it reads as it read, wherever its row stands as it stood. -/
theorem slm_frz2 {α : Type} {M : Mem} {st : Nat} {T : List AV → α → Prop} {a : AV} {l : List α} (h : SlM M st T a l) (hT : Cel T) (k : Nat) (hk : 1 < k) : ∃ ro, Sl st T ro l ∧ ∀ N, (∀ id, rowOf a = some id → N.get id = M.get id) → frz N 0 k a = some ro := by
  rcases h with ⟨rfl, rfl⟩ | ⟨id, rows, cap, rfl, _, hg, h, hl⟩
  · exact ⟨_, .inl ⟨rfl, rfl⟩, fun N _ => frz_sc _ (by omega)⟩
  · refine ⟨.pv rows.flatten rows.length cap st, .inr ⟨rows, cap, rfl, h, hl⟩, fun N hN => ?_⟩
    rw [frz_sl (rd_row ((hN id rfl).trans hg)) (by rw [flat_len hl]; omega) (by omega) (fun x hx => (hT.flat h x hx).2 N _ (by omega)), slot_all _ _ (by rw [flat_len hl])]
end Go.Ax

/-
  The executor, run on symbols: ranges over strings.
-/
set_option linter.unusedSimpArgs false
set_option linter.unusedVariables false
set_option maxRecDepth 100000
namespace Go.Ax
open Go
variable {P : Program} {call : Tg → List AV → Mem → Option (AV × Mem)} {t : List AV} {M : Mem}

/-- A range over a string begins. -/
def rngO (M : Mem) (x : AV) : OR := match x with
  | .sc (.string s) => some (.ptr M.size 0, M.add (.siter s 0))
  | _ => none
theorem x_rng (x : Operand) (h : Wf M) : execOpA P call t M (.rng x) = rngO M (evalA t x) := by
  simp only [execOpA, rngO]
  split
  · rename_i s hs
    rw [hs, new_add h]
  · rename_i hn
    split
    · rename_i s hs; exact absurd hs (hn s)
    · rfl
theorem rng_str (s : ByteArray) : rngO M (.sc (.string s)) = some (.ptr M.size 0, M.add (.siter s 0)) := rfl
/-- The next rune. -/
def nxtO (M : Mem) (x : AV) : OR := match x with
  | .ptr id 0 => match M.get id with
    | some (.siter s pos) => match Nat.blt pos s.size with
      | true => match M.put id (.siter s (pos + (Utf8.decode s pos).2)) with
        | some M => some (.tup [.sc (.bool true), .sc (goInt pos), .sc (.int .i32 (Utf8.decode s pos).1)], M)
        | none => none
      | false => some (.tup [.sc (.bool false)], M)
    | _ => none
  | _ => none
theorem x_nxt (x : Operand) : execOpA P call t M (.nxt x) = nxtO M (evalA t x) := by
  simp only [execOpA]
  unfold nxtO
  cases evalA t x <;> rfl
theorem nxt_on {id pos : Nat} {s : ByteArray} (h : Wf M) (hg : M.get id = some (.siter s pos)) (hi : id < M.size) (hp : pos < s.size) :
    nxtO M (.ptr id 0) = some (.tup [.sc (.bool true), .sc (goInt pos), .sc (.int .i32 (Utf8.decode s pos).1)], M.upd id (.siter s (pos + (Utf8.decode s pos).2))) := by
  simp only [nxtO, hg, (blt_iff _ _).2 hp, put_upd h hi]
theorem nxt_off {id pos : Nat} {s : ByteArray} (hg : M.get id = some (.siter s pos)) (hp : s.size ≤ pos) :
    nxtO M (.ptr id 0) = some (.tup [.sc (.bool false)], M) := by
  simp only [nxtO, hg, (blt_false _ _).2 (Nat.not_lt.2 hp)]
end Go.Ax

/-
  What comes of a run with a plain result, for the world.
-/
set_option linter.unusedSimpArgs false
set_option linter.unusedVariables false
set_option maxRecDepth 100000
namespace Go.Ax
open Go Go.RowKit
variable {Γ : Glob}

/-- **A call whose arguments read what was there, and that comes to a plain value on no memory of its own, returns that value; and what was there stays as it was.** -/
theorem runs_sc {P : Program} {fuel : Nat} {fs : Nat → Option AFunc} (hins : InsOK Γ P) (ht : TabOK Γ P fs) {f n : Nat} {M : Mem} {as : List AV} {x : Value} (h : callN P fs fuel n (.fn f) as mem0 = some (.sc x, M)) (w : World) {vs : Array Value}
    (hv : FRels (fun b => w.heap[b]?) as vs.toList) (hg : Γ.G fun b => w.heap[b]?) : Calls P f vs w (fun e w' => e = .returned x ∧ Below w.heap.size w w') := by
  have k := ((callN_ok hins ht n).fn f as mem0 _ M h (injW w) w vs (RelOn.start P _ _ w hg) (FRels.v (μ := injW w) hv) (fun _ _ _ => rfl)).2
  refine callsIn_wide.1 (k.mono fun e w' hp => ?_)
  obtain ⟨v, μ', rfl, hres⟩ := hp
  have hv : v = x := by
    have := hres.rel
    cases this; rfl
  subst hv
  exact ⟨rfl, hres.ext.os, hres.ext.tape, hres.ext.output, hres.ext.hs, fun b hb => hres.ext.frame b hb fun i q _ _ hq => by cases hq⟩
/-- Plain values are what they are. -/
theorem FRels.plain {h : Nat → Option Obj} : ∀ {l vs : List Value}, FRels h (l.map .sc) vs → vs = l
  | [], _, .nil => rfl
  | _ :: _, _, .cons a b => by cases a; rw [FRels.plain b]
end Go.Ax
namespace Go.Ax
open Go
variable {Γ : Glob}
/-- Does the table hold an outer function nowhere but there? -/
def ext3 : Option AFunc → Bool
  | some af => Nat.beq af.gc 3
  | none => false
def extAt (l : List (Option AFunc)) (xs : List Nat) : Bool := (List.range l.length).all fun i => !ext3 (l.getD i none) || xs.contains i
theorem tab_ext {P : Program} {l : List (Option AFunc)} {n : Nat} {xs : List Nat} (h : (l.map noX).map clr = msk (l.map noX) (tabList P n 0)) (hx : extAt l xs = true)
    (hf : ∀ f ∈ xs, ∃ fn g, l[f]? = some (some ⟨0, .ext g, [], 3⟩) ∧ P.funcs[f]? = some fn ∧ (fn.name == "runtime.NumGoroutine") = false ∧ fn.body.isSome = true ∧ ExtOK Γ P f g) : TabOK Γ P (fsT l) :=
  tab_msk h fun f af hl hg => by
    have hlt : f < l.length := (List.getElem?_eq_some_iff.1 hl).1
    unfold extAt at hx
    rw [List.all_eq_true] at hx
    have := hx f (List.mem_range.2 hlt)
    rw [List.getD_eq_getElem?_getD, hl] at this
    simp only [Option.getD_some, ext3, hg] at this
    have hm : f ∈ xs := by simpa using this
    obtain ⟨fn, g, h1, h2, h3, h4, h5⟩ := hf f hm
    rw [h1] at hl
    obtain rfl : (⟨0, .ext g, [], 3⟩ : AFunc) = af := Option.some.inj (Option.some.inj hl)
    exact ⟨fn, h2, h3, h4, g, rfl, h5⟩
end Go.Ax

/-
  The executor, run on symbols: texts, their pieces and bytes.
-/
set_option linter.unusedSimpArgs false
set_option linter.unusedVariables false
set_option maxRecDepth 100000
namespace Go.Ax
open Go
variable {P : Program} {t : List AV}

theorem pure_underlying {ty : TypeId} {d : TypeDesc} (hu : P.underlying ty = some d) : pureRun P (underlying ty) = some d := pureRun_bind2 _ (a := P) rfl (by simp only [hu]; rfl)
/-- A bound of a piece. -/
def bndS (x : Option AV) (y d : Nat) : Option Nat := match x with
  | none => some d
  | some (.sc (.int _ n)) => if 0 ≤ n ∧ n ≤ (y : Int) then some n.toNat else none
  | _ => none
def subS (d : Option AV) (u : AV) (lo hi : Option AV) : Option AV := match u with
  | .sc (.string s) => match bndS hi s.size s.size with
    | some h => match bndS lo h 0 with
      | some l => some (.sc (.string (s.extract l h)))
      | none => d
    | none => d
  | _ => d
theorem bnd_run {x : Option AV} {y n : Nat} {d : Nat} (code : BoundsCode) (h : bndS x y d = some n) : (x = none ∧ n = d) ∨ ∃ v, x = some (.sc v) ∧ toVal (.sc v) = some v ∧ pureRun P (Instr.sliceBound v y code) = some n := by
  unfold bndS at h
  split at h
  · simp only [Option.some.injEq] at h; exact .inl ⟨rfl, h.symm⟩
  · rename_i k i
    split at h
    · rename_i hc
      simp only [Option.some.injEq] at h
      subst h
      refine .inr ⟨_, rfl, rfl, ?_⟩
      unfold Instr.sliceBound
      exact pureRun_bind2 _ (a := (k, i)) rfl (by simp only [if_pos hc]; rfl)
    · cases h
  · cases h
theorem pSubS {ty : TypeId} (hu : P.underlying ty = some .string) (x : Operand) (lo hi : Option Operand) (r : TypeId) : pureOp P t (mkO (.slice ty x lo hi none) r) = subS (pureD P t (mkO (.slice ty x lo hi none) r)) (evalA t x) (lo.map (evalA t)) (hi.map (evalA t)) := by
  unfold subS
  split
  · rename_i s hx
    split
    · rename_i h hh
      split
      · rename_i l hl
        have ops : (mkO (.slice ty x lo hi none) r).op.operands.toList.all (fun y => (toVal (evalA t y)).isSome) = true := by
          rcases bnd_run (P := P) .sliceAlen hh with ⟨h1, _⟩ | ⟨v, h1, h2, _⟩ <;> rcases bnd_run (P := P) .sliceB hl with ⟨k1, _⟩ | ⟨u, k1, k2, _⟩ <;>
            cases hi <;> cases lo <;> simp only [Option.map_some, Option.map_none, Option.some.injEq, reduceCtorEq] at h1 k1 <;> simp [mkO, Op.operands, hx, toVal, *]
        refine pureOp_of ops ?_
        simp only [execOp, mkO, hx, toVal, Option.getD_some]
        refine pureRun_bind2 _ (a := .string (s.extract l h)) ?_ rfl
        unfold Instr.sliceAt
        refine pureRun_bind2 _ (pure_underlying hu) ?_
        unfold Instr.slice
        refine pureRun_bind2 _ (pure_underlying hu) ?_
        refine pureRun_bind2 _ (a := (l, h, s.size)) ?_ rfl
        unfold Instr.sliceBounds
        refine pureRun_bind2 _ (a := s.size) rfl ?_
        rcases bnd_run (P := P) .sliceAlen hh with ⟨h1, h2⟩ | ⟨v, h1, h2, h3⟩ <;> rcases bnd_run (P := P) .sliceB hl with ⟨k1, k2⟩ | ⟨u, k1, k2, k3⟩ <;>
          cases hi <;> simp only [Option.map_some, Option.map_none, reduceCtorEq, Option.some.injEq] at h1 <;>
          cases lo <;> simp only [Option.map_some, Option.map_none, reduceCtorEq, Option.some.injEq] at k1
        · subst h2 k2
          exact pureRun_bind2 _ (a := s.size) rfl (pureRun_bind2 _ (a := 0) rfl rfl)
        · subst h2
          simp only [Option.map_some, Option.map_none, k1, k2, Option.getD_some]
          exact pureRun_bind2 _ (a := s.size) rfl (pureRun_bind2 _ (a := l) k3 rfl)
        · subst k2
          simp only [Option.map_some, Option.map_none, h1, h2, Option.getD_some]
          exact pureRun_bind2 _ (a := h) h3 (pureRun_bind2 _ (a := 0) rfl rfl)
        · simp only [Option.map_some, Option.map_none, h1, h2, k1, k2, Option.getD_some]
          exact pureRun_bind2 _ (a := h) h3 (pureRun_bind2 _ (a := l) k3 rfl)
      · rfl
    · rfl
  · rfl
theorem ext_str (l : List UInt8) (a b : Nat) : (⟨l.toArray⟩ : ByteArray).extract a b = ⟨((l.take b).drop a).toArray⟩ := by
  apply ByteArray.ext
  apply Array.ext'
  simp [ByteArray.data_extract, List.drop_take]
theorem sub_from {d : Option AV} {l : List UInt8} {i : Nat} (h : i ≤ l.length) : subS d (STR l) (some (I64 i)) none = some (STR (l.drop i)) := by
  have hs : (⟨l.toArray⟩ : ByteArray).size = l.length := by simp [ByteArray.size]
  simp only [subS, bndS, hs]
  rw [if_pos (by omega)]
  simp only [ext_str, Int.toNat_natCast, List.take_length]
theorem sub_to {d : Option AV} {l : List UInt8} {i : Nat} (h : i ≤ l.length) : subS d (STR l) none (some (I64 i)) = some (STR (l.take i)) := by
  have hs : (⟨l.toArray⟩ : ByteArray).size = l.length := by simp [ByteArray.size]
  simp only [subS, bndS, hs]
  rw [if_pos (by omega)]
  simp only [ext_str, Int.toNat_natCast, List.drop_zero]
/-- A text's byte. -/
def idxS (d : Option AV) (u i : AV) : Option AV := match u with
  | .sc (.string s) => match i with
    | .sc (.int _ n) => (match (if 0 ≤ n then s[n.toNat]? else none) with | some b => some (.sc (.int .u8 b.toNat)) | none => d)
    | _ => d
  | _ => d
theorem pIdxS {ty : TypeId} (hu : P.underlying ty = some .string) (x i : Operand) (r : TypeId) : pureOp P t (mkO (.index ty x i) r) = idxS (pureD P t (mkO (.index ty x i) r)) (evalA t x) (evalA t i) := by
  unfold idxS
  split
  · rename_i s hx
    split
    · rename_i k n hi
      split
      · rename_i b hb
        refine pureOp_of ?_ ?_
        · simp [mkO, Op.operands, hx, hi, toVal]
        · simp only [execOp, mkO, hx, hi, toVal, Option.getD_some]
          refine pureRun_bind2 _ (a := .int .u8 b.toNat) ?_ rfl
          unfold Instr.index
          refine pureRun_bind2 _ (a := (k, n)) rfl ?_
          refine pureRun_bind2 _ (pure_underlying hu) ?_
          simp only [hb]
          rfl
      · rfl
    · rfl
  · rfl
theorem idx_str {d : Option AV} {l : List UInt8} {i : Nat} (h : i < l.length) : idxS d (STR l) (I64 i) = some (U8 (l[i]'h).toNat) := by
  have : (⟨l.toArray⟩ : ByteArray)[i]? = some l[i] := by
    have hs : i < (⟨l.toArray⟩ : ByteArray).size := by simpa [ByteArray.size] using h
    rw [getElem?_pos (⟨l.toArray⟩ : ByteArray) i hs]; rfl
  simp only [idxS, Int.toNat_natCast, this]
  rw [if_pos (by omega)]
theorem str_size (l : List UInt8) : (⟨l.toArray⟩ : ByteArray).size = l.length := by simp [ByteArray.size]
end Go.Ax
namespace Go.Ax
open Go
/-- A slice of ours, handed to a call, and frozen then. -/
theorem SlM.hand2 {α : Type} {M : Mem} {st : Nat} {T : List AV → α → Prop} {a : AV} {l : List α} (h : SlM M st T a l) (wf : Wf M) (hT : CelI T) (hT2 : Cel T) {k : Nat} (hk : 1 < k) : ∃ a' M', icy k M a = some (a', M') ∧ Sl st T a' l ∧ Wf M' ∧ M'.size = M.size ∧ (∀ j, rowOf a ≠ some j → M'.get j = M.get j) ∧
    (∀ N, (∀ j, rowOf a = some j → N.get j = M'.get j) → icy k N a = some (a', N)) ∧ (∀ N, (∀ j, rowOf a = some j → N.get j = M'.get j) → Go.Ax.frz N 0 k a = some a') := by
  rcases h with ⟨rfl, rfl⟩ | ⟨id, rows, cap, rfl, hc, hg, hA, hr⟩
  · obtain ⟨k, rfl⟩ : ∃ j, k = j + 1 := ⟨k - 1, by omega⟩
    exact ⟨_, M, rfl, .inl ⟨rfl, rfl⟩, wf, rfl, fun _ _ => rfl, fun N _ => rfl, fun N _ => rfl⟩
  · obtain ⟨a', M', h1, h2, h3, h4, h5, h6⟩ := SlM.hand (.inr ⟨id, rows, cap, rfl, hc, hg, hA, hr⟩ : SlM M st T _ l) wf hT hk
    refine ⟨a', M', h1, h2, h3, h4, h5, h6, fun N hN => ?_⟩
    have hfl := flat_len hr
    have lid := Mem.get_lt hg
    have hcs : ∀ N, icyL (icy (k - 1)) N rows.flatten = some (rows.flatten, N) := icyL_same (by omega) fun x hx N => hT.flat hA x hx N _ (by omega)
    have hble : Nat.ble (0 + rows.length * st) rows.flatten.length = true := ble_t (by omega)
    have hsl : slot rows.flatten 0 (rows.length * st) = rows.flatten := slot_all _ _ hfl.symm
    obtain ⟨k, rfl⟩ : ∃ j, k = j + 1 := ⟨k - 1, by omega⟩
    have e : icy (k + 1) M (.sl id 0 rows.length cap st) = some (.pv rows.flatten rows.length cap st, M.upd id (.fro rows.flatten)) := by
      simp only [Nat.add_sub_cancel] at hcs
      simp only [icy, rd_row hg, hble, hcs, hg, put_upd wf lid, hsl]
    rw [e] at h1
    cases h1
    have hN := hN id rfl
    rw [get_upd_eq wf _ _ lid] at hN
    have hrd : N.rd id = some rows.flatten := by rw [rd_get, hN]; rfl
    rw [frz_sl hrd (by rw [hfl]; omega) (by omega) (fun x hx => (hT2.flat hA x hx).2 N _ (by omega)), hsl]
end Go.Ax

/-
  The executor, run on symbols: a literal, appended.
-/
set_option linter.unusedSimpArgs false
set_option linter.unusedVariables false
set_option maxRecDepth 100000
namespace Go.Ax
open Go
/-- A literal slice, appended to a slice of ours. -/
theorem w3_lit {α : Type} {N : Mem} {st bytes k : Nat} {T : List AV → α → Prop} {o : AV} {l l' : List α} {rows : List (List AV)} {cs : List AV} {Q : AV → Mem → Prop} (wf : Wf N) (h : SlM N st T o l) (hT : Cel T) (hcs : cs = rows.flatten) (hk : k = l'.length) (hA : All2 T rows l') (hr : ∀ r ∈ rows, r.length = st) (hs : 0 < st) (hb1 : (l.length + l'.length) * bytes ≤ 140737488355328) (hb2 : l.length + l'.length ≤ 140737488355328)
    (kk : ∀ a' M', SlM M' st T a' (l ++ l') → Wf M' → N.size ≤ M'.size → (∀ j, j < N.size → rowOf o ≠ some j → M'.get j = N.get j) → (∀ id, rowOf a' = some id → rowOf o = some id ∨ N.size ≤ id) → M'.wm = N.wm → ((rowsOf a').all fun i => Nat.blt i M'.size) = true → oneA a' = true → cellsA a' = [a'] → Q a' M') : W3 (appO (N.add (.row false cs)) st bytes o (.sl N.size 0 k (some k) st)) Q := by
  have hlen : rows.length = l'.length := hA.length_eq
  have g := get_add_new wf (.row false cs) N.size (Nat.le_refl _) (Nat.lt_succ_self _)
  refine w3_appc (wf.add _) (h.keep fun j hj => get_add wf _ _ (h.lt j hj)) hT (l' := l') (new := rows) (by rw [cells_lit g (by rw [hcs, flat_len hr, hk, hlen]), hcs]) (by rw [hk]; rfl) hA hr hs hb1 hb2 fun a' M' m w le _ kp nw wm rl on oc => ?_
  rw [add_size] at le kp nw
  exact kk a' M' m w (by omega) (fun j hj hj2 => by rw [kp j (by omega) hj2, get_add wf _ _ hj]) (fun id hid => (nw id hid).imp (fun h => h) (fun h => by omega)) wm rl on oc
/-- One cell, appended. -/
theorem w3_one {α : Type} {N : Mem} {bytes : Nat} {T : List AV → α → Prop} {o c : AV} {l : List α} {x : α} {Q : AV → Mem → Prop} (wf : Wf N) (h : SlM N 1 T o l) (hT : Cel T) (hc : T [c] x) (hb1 : (l.length + 1) * bytes ≤ 140737488355328) (hb2 : l.length + 1 ≤ 140737488355328)
    (kk : ∀ a' M', SlM M' 1 T a' (l ++ [x]) → Wf M' → N.size ≤ M'.size → (∀ j, j < N.size → rowOf o ≠ some j → M'.get j = N.get j) → (∀ id, rowOf a' = some id → rowOf o = some id ∨ N.size ≤ id) → M'.wm = N.wm → ((rowsOf a').all fun i => Nat.blt i M'.size) = true → oneA a' = true → cellsA a' = [a'] → Q a' M') : W3 (appO (N.add (.row false [c])) 1 bytes o (.sl N.size 0 1 (some 1) 1)) Q :=
  w3_lit wf h hT (rows := [[c]]) rfl rfl (.cons hc .nil) (by simp) (by omega) hb1 hb2 kk
/-- A text, appended to bytes of ours. -/
theorem w3_str {N : Mem} {o : AV} {l m : List UInt8} {Q : AV → Mem → Prop} (wf : Wf N) (h : SlM N 1 isU8 o l) (hb : l.length + m.length ≤ 140737488355328)
    (kk : ∀ a' M', SlM M' 1 isU8 a' (l ++ m) → Wf M' → N.size ≤ M'.size → (∀ j, j < N.size → rowOf o ≠ some j → M'.get j = N.get j) → (∀ id, rowOf a' = some id → rowOf o = some id ∨ N.size ≤ id) → M'.wm = N.wm → ((rowsOf a').all fun i => Nat.blt i M'.size) = true → oneA a' = true → cellsA a' = [a'] → Q a' M') : W3 (appO N 1 1 o (STR m)) Q := by
  refine w3_appc wf h cel_U8 (l' := m) (new := m.map fun x => [U8 x.toNat]) ?_ (by simp only [lenA]; rw [str_size]) (u8s_all2 m) (fun r hr => ?_) (by omega) (by omega) hb fun a' M' m' w le _ kp nw wm rl on oc => kk a' M' m' w le kp nw wm rl on oc
  · rw [u8s_flat]
    simp only [cellsOf, u8s]
  · obtain ⟨y, _, rfl⟩ := List.mem_map.1 hr
    rfl
end Go.Ax
namespace Go.Ax
open Go
variable {P : Program} {call : Tg → List AV → Mem → Option (AV × Mem)}
/-- The frame is named anew. -/
theorem kO_cut {d : Option Nat} {rest : List AOper} {b : List AV} {L : List (Nat × AV)} {Q : List AV → Mem → Prop} {v : AV} {M : Mem}
    (h : ∀ t : List AV, t.length = b.length → (∀ j, j < b.length → nth undefA t j = lk L j (nth undefA b j)) → kO P call d rest (St t []) Q v M) : kO P call d rest (St b L) Q v M :=
  h _ (St_len ..) fun j hj => St_nth b L j hj
theorem w_cut {fuel : Nat} {rd : Option Nat} {c : ACode} {b : List AV} {L : List (Nat × AV)} {mk : List Nat} {Q : AExit → Fr → Mem → Prop} {M : Mem}
    (h : ∀ t : List AV, t.length = b.length → (∀ j, j < b.length → nth undefA t j = lk L j (nth undefA b j)) → W (execCode P fuel call rd c ⟨St t [], mk⟩ M) Q) : W (execCode P fuel call rd c ⟨St b L, mk⟩ M) Q :=
  h _ (St_len ..) fun j hj => St_nth b L j hj
end Go.Ax
namespace Go.Ax
open Go
theorem apart2_q (i n n' : Nat) (h : i < n) : apart2 (.acc [i] []) (.quiet, n, n') = true := by
  have hb : Nat.ble n i = false := by
    cases hc : Nat.ble n i with
    | false => rfl
    | true => have := Nat.le_of_ble_eq_true hc; omega
  simp [apart2, FP.apart, disj, FP.reads, FP.writes, hb]
end Go.Ax

/-
  The executor, run on symbols: what lies frozen in one cell.
-/
set_option linter.unusedSimpArgs false
set_option linter.unusedVariables false
set_option maxRecDepth 100000
namespace Go.Ax
open Go
/-- A frozen value in one cell. -/
structure Fz (a : AV) : Prop where
  rows : rowsOf a = []
  one : oneA a = true
  cells : cellsA a = [a]
  icy : ∀ (M : Mem) (k : Nat), 0 < k → icy k M a = some (a, M)
  frz : ∀ (M : Mem) (m k : Nat), 0 < k → frz M m k a = some a
theorem Sl.fz {α : Type} {st : Nat} {T : List AV → α → Prop} {a : AV} {l : List α} (h : Sl st T a l) : Fz a :=
  ⟨h.rows mem0, h.one, h.cells, h.icy, fun M m k hk => h.frz M m k hk⟩
theorem fz_rows {a : AV} (h : Fz a) : rowsOf a = [] := h.rows
theorem fz_one {a : AV} (h : Fz a) : oneA a = true := h.one
theorem fz_cells {a : AV} (h : Fz a) : cellsA a = [a] := h.cells
theorem fz_icy {a : AV} {M : Mem} {k : Nat} (h : Fz a) (hk : 0 < k) : icy k M a = some (a, M) := h.icy M k hk
theorem fz_frz {a : AV} {M : Mem} {m k : Nat} (h : Fz a) (hk : 0 < k) : frz M m k a = some a := h.frz M m k hk
/-- Rules for them. -/
theorem FZ : type_of% (And.intro @fz_rows (And.intro @fz_one (And.intro @fz_cells (And.intro @fz_icy @fz_frz)))) := And.intro @fz_rows (And.intro @fz_one (And.intro @fz_cells (And.intro @fz_icy @fz_frz)))
/-! ### What is lent -/
theorem call_g2 {fuel : Nat} {P : Program} {fs : Nat → Option AFunc} {f : Nat} {af : AFunc} (h : fs f = some af) (hg : af.gc = 2) {n : Nat} {args : List AV} {M : Mem} {Q : AV → Mem → Prop} (hz : icyL (icy 12) M args = some (args, M)) (hl : args.length ≤ af.ntmps)
    (hb : ∀ b : List AV, b.length = af.ntmps → (∀ (i : Nat) (x : AV), args[i]? = some x → nth undefA b i = x) → W (execCode P fuel (callN P fs fuel n) none af.body ⟨St b [], []⟩ mem0) (fin af.results (fun r => (∃ v, r = .sc v) ∧ Q r M))) :
    W3 (callN P fs fuel (n + 1) (.fn f) args M) Q := by
  obtain ⟨e, fr, M', he, hq⟩ := hb (args ++ List.replicate (af.ntmps - args.length) undefA) (by simp; omega) (fun i x hx => nth_app hx)
  have he : execCode P fuel (callN P fs fuel n) none af.body ⟨args ++ List.replicate (af.ntmps - args.length) undefA, []⟩ mem0 = some (e, fr, M') := he
  have key : ∀ e, (∀ i, e ≠ .exit i) → fin af.results (fun r => (∃ v, r = .sc v) ∧ Q r M) e fr M' → ∃ M2 vs ws, spend fr.marks M' = some M2 ∧ resultsA fr.t M2 af.results = some vs ∧ frzL (frz M2 0 12) vs = some ws ∧ (∃ v, tupOf ws = .sc v) ∧ Q (tupOf ws) M := by
    intro e hne hq
    unfold fin at hq
    split at hq
    · exact hq.elim
    · split at hq
      · rename_i M2 h2
        split at hq
        · rename_i vs h3
          split at hq
          · rename_i ws h4
            exact ⟨M2, vs, ws, h2, h3, h4, hq⟩
          · exact hq.elim
        · exact hq.elim
      · exact hq.elim
  have hne : ∀ i, e ≠ .exit i := fun i hi => by subst hi; exact hq
  obtain ⟨M2, vs, ws, h2, h3, h4, ⟨v, h5⟩, h6⟩ := key e hne hq
  have hsc : ws.all scA = true := by
    unfold tupOf at h5
    split at h5
    · subst h5; rfl
    · cases h5
  refine ⟨tupOf ws, M, ?_, h6⟩
  simp only [callN, h, hg, hz, he]
  cases e with
  | exit i => exact absurd rfl (hne i)
  | _ => simp only [h2, h3, h4, lendA, hsc]
theorem sc_ex (x : Value) : (∃ v, AV.sc x = .sc v) = True := eq_true ⟨x, rfl⟩
/-- A result that is told by what holds of it. -/
theorem gc_ex {fuel : Nat} {P : Program} {fs : Nat → Option AFunc} {f : Nat} {af : AFunc} {n : Nat} {args : List AV} {α : Type} {K : α → Prop} {g : α → AV} (h : fs f = some af) (hg : af.gc = 1) (ic : ∀ M, icyL (icy 12) M args = some (args, M))
    (k : W3 (callN P fs fuel (n + 1) (.fn f) args mem0) (fun r _ => ∃ r', K r' ∧ r = g r')) : ∃ r', K r' ∧ ∀ M, callN P fs fuel (n + 1) (.fn f) args M = some (g r', M) := by
  obtain ⟨r, M1, e, r', p, rfl⟩ := k
  exact ⟨r', p, fun M => call_own h hg e (ic mem0) (ic M)⟩
/-! ### Two lists, element by element -/
def eqL {α β : Type} (p : α → β → Bool) : List α → List β → Bool
  | [], [] => true
  | x :: l, y :: m => p x y && eqL p l m
  | _, _ => false
section
variable {α β : Type} {p : α → β → Bool}
theorem eqL_len : ∀ {l : List α} {m : List β}, eqL p l m = true → l.length = m.length
  | [], [], _ => rfl
  | [], _ :: _, h => by cases h
  | _ :: _, [], h => by cases h
  | x :: l, y :: m, h => by
    simp only [eqL, Bool.and_eq_true] at h
    simp [eqL_len h.2]
theorem eqL_ne {l : List α} {m : List β} (h : l.length ≠ m.length) : eqL p l m = false := by
  rw [Bool.eq_false_iff]; exact fun k => h (eqL_len k)
theorem eqL_iff : ∀ {l : List α} {m : List β}, eqL p l m = true ↔ l.length = m.length ∧ ∀ (i : Nat) (h1 : i < l.length) (h2 : i < m.length), p l[i] m[i] = true
  | [], [] => by simp [eqL]
  | [], _ :: _ => by simp [eqL]
  | _ :: _, [] => by simp [eqL]
  | x :: l, y :: m => by
    simp only [eqL, Bool.and_eq_true, eqL_iff (l := l) (m := m), List.length_cons]
    constructor
    · rintro ⟨a, b, c⟩
      refine ⟨by omega, fun i h1 h2 => ?_⟩
      match i with
      | 0 => exact a
      | i + 1 => exact c i (by omega) (by omega)
    · rintro ⟨a, b⟩
      exact ⟨b 0 (by omega) (by omega), by omega, fun i h1 h2 => b (i + 1) (by omega) (by omega)⟩
theorem eqL_at {l : List α} {m : List β} {i : Nat} (h1 : i < l.length) (h2 : i < m.length) (h : p l[i] m[i] = false) : eqL p l m = false := by
  rw [Bool.eq_false_iff]
  intro k
  have := (eqL_iff.1 k).2 i h1 h2
  rw [h] at this; cases this
theorem eqL_all {l : List α} {m : List β} (h : l.length = m.length) (k : ∀ i (h1 : i < l.length) (h2 : i < m.length), i < l.length → p l[i] m[i] = true) : eqL p l m = true := eqL_iff.2 ⟨h, fun i h1 h2 => k i h1 h2 h1⟩
end
theorem eqL_refl {α : Type} {p : α → α → Bool} (h : ∀ x, p x x = true) (l : List α) : eqL p l l = true := eqL_iff.2 ⟨rfl, fun _ _ _ => h _⟩
theorem eqL_eq {α : Type} {p : α → α → Bool} (h : ∀ x y, p x y = true ↔ x = y) : ∀ {l m : List α}, eqL p l m = true ↔ l = m
  | [], [] => by simp [eqL]
  | [], _ :: _ => by simp [eqL]
  | _ :: _, [] => by simp [eqL]
  | x :: l, y :: m => by
    simp only [eqL, Bool.and_eq_true, h, eqL_eq h (l := l) (m := m), List.cons.injEq]
theorem eqL_symm {α : Type} {p : α → α → Bool} (h : ∀ x y, p x y = p y x) : ∀ (l m : List α), eqL p l m = eqL p m l
  | [], [] => rfl
  | [], _ :: _ => rfl
  | _ :: _, [] => rfl
  | x :: l, y :: m => by simp only [eqL, h x y, eqL_symm h l m]
end Go.Ax

/-
  The executor: what is read of arguments, with what it weighs.
-/
set_option linter.unusedSimpArgs false
set_option linter.unusedVariables false
set_option maxRecDepth 100000
namespace Go.Ax
open Go
theorem Is.sliceW {α : Type} {g : GT} {T : List AV → α → Prop} {l : List AV} (hT : ∀ r, Is g r → Ws g r → ∃ x, T r x) (h : Is (.sl g) l) (hw : Ws (.sl g) l) : ∃ a b, l = [a] ∧ Sl g.n T a b ∧ b.length * g.by ≤ reachBytes := by
  simp only [Is] at h
  rcases h with rfl | ⟨rows, cap, rfl, h1, h2, h3⟩
  · exact ⟨_, [], rfl, .inl ⟨rfl, rfl⟩, by simp⟩
  · simp only [Ws] at hw
    obtain ⟨w1, w2⟩ := hw _ _ _ _ rfl
    have hlen : ∀ r ∈ rows, r.length = g.n := fun r hr => Is.len g (h3 r hr)
    have w3 : ∀ r ∈ rows, Ws g r := fun r hr => by
      obtain ⟨i, hi, rfl⟩ := List.getElem_of_mem hr
      have := w2 i hi
      rwa [flat_slotA hlen i rows[i] (List.getElem?_eq_getElem hi)] at this
    have : ∀ rows : List (List AV), (∀ r ∈ rows, Is g r) → (∀ r ∈ rows, Ws g r) → ∃ b, All2 T rows b := by
      intro rows
      induction rows with
      | nil => exact fun _ _ => ⟨[], .nil⟩
      | cons r rows ih =>
        intro a b
        obtain ⟨x, hx⟩ := hT r (a r (by simp)) (b r (by simp))
        obtain ⟨l, hl⟩ := ih (fun y hy => a y (by simp [hy])) (fun y hy => b y (by simp [hy]))
        exact ⟨x :: l, .cons hx hl⟩
    obtain ⟨b, hb⟩ := this rows h3 w3
    exact ⟨_, b, rfl, .inr ⟨rows, some cap, rfl, hb, hlen⟩, by rw [← hb.length_eq]; exact w1⟩
theorem All2.split {α β : Type} {T : α → β → Prop} {p : β → Prop} : ∀ {l : List α} {m : List β}, All2 (fun r x => T r x ∧ p x) l m → All2 T l m ∧ ∀ x ∈ m, p x
  | _, _, .nil => ⟨.nil, fun _ h => by cases h⟩
  | _, _, .cons a b => ⟨.cons a.1 b.split.1, fun x h => by
    rcases List.mem_cons.1 h with rfl | h
    · exact a.2
    · exact b.split.2 x h⟩
theorem Sl.split {α : Type} {st : Nat} {T : List AV → α → Prop} {p : α → Prop} {a : AV} {l : List α} (h : Sl st (fun r x => T r x ∧ p x) a l) : Sl st T a l ∧ ∀ x ∈ l, p x := by
  rcases h with ⟨rfl, rfl⟩ | ⟨rows, cap, rfl, hA, hr⟩
  · exact ⟨.inl ⟨rfl, rfl⟩, fun _ h => by cases h⟩
  · exact ⟨.inr ⟨rows, cap, rfl, hA.split.1, hr⟩, hA.split.2⟩
/-- A slice's length, by its weight. -/
theorem Ws.len {α : Type} {g : GT} {st : Nat} {T : List AV → α → Prop} {a : AV} {l : List α} (hw : Ws (.sl g) [a]) (h : Sl st T a l) : l.length * g.by ≤ reachBytes := by
  rcases h with ⟨rfl, rfl⟩ | ⟨rows, cap, rfl, hA, _⟩
  · simp
  · simp only [Ws] at hw
    rw [← hA.length_eq]
    exact (hw _ _ _ _ rfl).1
end Go.Ax
