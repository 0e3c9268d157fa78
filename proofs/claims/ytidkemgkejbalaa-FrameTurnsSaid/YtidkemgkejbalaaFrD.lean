/-
  num: Put.
-/
import Derived.Test.YtidkemgkejbalaaFrC
set_option linter.unusedSimpArgs false
set_option linter.unusedVariables false
set_option maxRecDepth 100000
namespace Go.Proofs.Ytidkemgkejbalaa
open Go Go.Ax
variable {fuel : Nat} {M : Mem} {Q : AV → Mem → Prop} {d : Nat}

def mkslO (M : Mem) (st bytes : Nat) (z : Value) (l c : Option Nat) : OR := match l, c with
    | some l, some c => match Nat.ble l c && Nat.ble (c * bytes) 4294967296 && Nat.ble c 4294967296 with
      | true => match M.new (.row false (repCells z c)) with
        | some (id, M) => some (.sl id 0 l (some c) st, M)
        | none => none
      | false => none
    | _, _ => none
theorem x_mksl {P : Program} (call : Tg → List AV → Mem → OR) (t : List AV) (M : Mem) (e : TypeId) (st bytes : Nat) (z : Value) (l c : Operand) : execOpA P call t M (.mksl e st bytes z l c) = mkslO M st bytes z (natOf (evalA t l)) (natOf (evalA t c)) := rfl
theorem mksl_ok {M : Mem} (wf : Wf M) {st bytes l c : Nat} {z : Value} (hl : l ≤ c) (h1 : c * bytes ≤ 4294967296) (h2 : c ≤ 4294967296) : mkslO M st bytes z (some l) (some c) = some (.sl M.size 0 l (some c) st, M.add (.row false (repCells z c))) := by
  unfold mkslO
  simp only [Nat.ble_eq_true_of_le hl, Nat.ble_eq_true_of_le h1, Nat.ble_eq_true_of_le h2, Bool.and_self, new_add wf]
theorem rep_u8 (c : Nat) : repCells (.int .u8 0) c = List.replicate c (U8 0) := by
  induction c with
  | zero => rfl
  | succ c ih => rw [repCells, ih]; rfl
theorem icy_row {M M' : Mem} {k id n st : Nat} {cap : Option Nat} {cs cs' : List AV} {b : Bool} (hg : M.get id = some (.row b cs)) (hn : n * st = cs.length) (hn' : n * st = cs'.length) (hc : icyL (icy k) M cs = some (cs', M'))
    (hg' : M'.get id = some (.row b cs)) (wf : Wf M') (hid : id < M'.size) : icy (k + 1) M (.sl id 0 n cap st) = some (.pv cs' n cap st, M'.upd id (.fro cs)) := by
  simp only [icy, rd_row hg, Nat.zero_add, Nat.ble_eq_true_of_le (Nat.le_of_eq hn), hc, hg', put_upd wf hid, slot_all _ _ hn']
/-- The cells of bytes. -/
def u8s (l : List UInt8) : List AV := l.map fun x => U8 x.toNat
theorem u8s_len (l : List UInt8) : (u8s l).length = l.length := by simp [u8s]
theorem u8s_one (l : List UInt8) : (u8s l).all oneA = true := by
  rw [List.all_eq_true]
  intro x hx
  obtain ⟨y, _, rfl⟩ := List.mem_map.1 hx
  rfl
theorem u8s_icy (l : List UInt8) {k : Nat} (hk : 0 < k) (M : Mem) : icyL (icy k) M (u8s l) = some (u8s l, M) := by
  refine icyL_same hk (fun x hx M => ?_) M
  obtain ⟨y, _, rfl⟩ := List.mem_map.1 hx
  exact icy_sc _ hk
theorem u8s_all2 (l : List UInt8) : All2 isU8 (l.map fun x => [U8 x.toNat]) l := by
  induction l with
  | nil => exact .nil
  | cons x l ih => exact .cons rfl ih
theorem u8s_flat (l : List UInt8) : (l.map fun x => [U8 x.toNat]).flatten = u8s l := by
  induction l with
  | nil => rfl
  | cons x l ih => simp only [List.map_cons, List.flatten_cons, ih]; rfl
theorem bs_pv (l : List UInt8) (cap : Option Nat) {n : Nat} (hn : n = l.length) : Bs (.pv (u8s l) n cap 1) l := by
  refine .inr ⟨l.map fun x => [U8 x.toNat], cap, by rw [u8s_flat, List.length_map, hn], u8s_all2 l, ?_⟩
  intro r hr
  obtain ⟨y, _, rfl⟩ := List.mem_map.1 hr
  rfl
theorem shr64 (P : Program) (ty : TypeId) (n i : Nat) (h : 8 * i ≤ 64) : binV P .shr ty .i64 (n : Int) .i64 ((8 * i : Nat) : Int) = some (.int .i64 ((n / 256 ^ i : Nat) : Int)) := by
  rw [vShr ty .i64 .i64 n ((8 * i : Nat) : Int) (by omega)]
  congr 2
  rw [Int.toNat_natCast, Nat.min_eq_left (by simpa [IntKind.bits] using h), Int.fdiv_eq_ediv_of_nonneg _ (by simp [Int.pow_nonneg]), show (256 : Nat) = 2 ^ 8 by rfl, ← Nat.pow_mul]
  simp
theorem lay_be (n k i : Nat) (h : i < k) : lay (List.replicate (k - i) (U8 0) ++ u8s (be n i)) (k - 1 - i) [U8 (UInt8.ofNat (n / 256 ^ i)).toNat] = List.replicate (k - (i + 1)) (U8 0) ++ u8s (be n (i + 1)) := by
  obtain ⟨j, rfl⟩ : ∃ j, k = i + 1 + j := ⟨k - (i + 1), by omega⟩
  rw [show i + 1 + j - i = j + 1 by omega, show i + 1 + j - 1 - i = j by omega, show i + 1 + j - (i + 1) = j by omega]
  unfold lay
  rw [List.take_append_of_le_length (by simp), List.drop_append_of_le_length (by simp), List.take_replicate, List.drop_replicate]
  rw [Nat.min_eq_left (by omega), show j + 1 - (j + [U8 (UInt8.ofNat (n / 256 ^ i)).toNat].length) = 0 by simp]
  rw [List.append_assoc]
  rfl
end Go.Proofs.Ytidkemgkejbalaa
