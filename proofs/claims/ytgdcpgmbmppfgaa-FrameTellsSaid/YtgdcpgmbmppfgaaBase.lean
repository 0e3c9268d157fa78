/-
  General lemmas: slices that are read (RdA), their cells, pieces and strings; nothing here speaks of the program.
-/
import Derived.Test.YtgdcpgmbmppfgaaProg
import Derived.WalkKit
import Derived.WalkSpells
import Derived.WalkLawsBesides
import Derived.Deep.LoopGhost
import Derived.Lib.Hide
import Derived.Lib.BufferRead
import Derived.BigQuiet
import Derived.Deep.QuietTactic
import Derived.Deep.RegionHeld3
import Derived.Deep.RegionHeldLaw
import Derived.Lib.LazyBuf
import Derived.Lib.SlBytesConst
import Derived.Deep.DeepCutAuto
namespace Go.Proofs.Ytgdcpgmbmppfgaa
open Go.RowKit

/-- The value of a byte. -/
abbrev B8 (x : UInt8) : Value := .int .u8 (x.toNat : Int)

/-- A slice with head 'ao', 'n' elements of 'sz' cells each, reads as the cells 'cs'; what is read lies below block 'B'. -/
def RdA (B : Nat) (w : World) (sz : Nat) (ao : Option Addr) (n cap : Nat) (cs : List Value) : Prop :=
  cs.length = n * sz ∧ n ≤ cap ∧ cap ≤ maxLen ∧ (ao = none → cap = 0) ∧
  (0 < n → ∃ b off, ao = some ⟨b, off, none⟩ ∧ b < B ∧ ∀ j u, cs[j]? = some u → w.cell? ⟨b, off + j, none⟩ = some u)

/-- A slice value that reads as the cells 'cs'. -/
def Rd (B : Nat) (w : World) (sz : Nat) (v : Value) (n : Nat) (cs : List Value) : Prop :=
  ∃ ao cap, v = .slice ao n cap ∧ RdA B w sz ao n cap cs

/-- A slice of bytes. -/
abbrev RdB (B : Nat) (w : World) (v : Value) (l : List UInt8) : Prop := Rd B w 1 v l.length (l.map B8)

theorem RdA.mono {B B' : Nat} {w : World} {sz : Nat} {ao : Option Addr} {n cap : Nat} {cs : List Value} (h : RdA B w sz ao n cap cs) (hB : B ≤ B') : RdA B' w sz ao n cap cs := by
  obtain ⟨h1, h2, h3, h4, h5⟩ := h
  exact ⟨h1, h2, h3, h4, fun hn => let ⟨b, off, e, hb, hc⟩ := h5 hn; ⟨b, off, e, Nat.lt_of_lt_of_le hb hB, hc⟩⟩
theorem RdA.below {B : Nat} {w w' : World} {sz : Nat} {ao : Option Addr} {n cap : Nat} {cs : List Value} (h : RdA B w sz ao n cap cs) (hw : Below B w w') : RdA B w' sz ao n cap cs := by
  obtain ⟨h1, h2, h3, h4, h5⟩ := h
  exact ⟨h1, h2, h3, h4, fun hn => let ⟨b, off, e, hb, hc⟩ := h5 hn; ⟨b, off, e, hb, fun j u hj => (hw.cell (p := ⟨b, off + j, none⟩) hb).trans (hc j u hj)⟩⟩
theorem Rd.mono {B B' : Nat} {w : World} {sz : Nat} {v : Value} {n : Nat} {cs : List Value} (h : Rd B w sz v n cs) (hB : B ≤ B') : Rd B' w sz v n cs := by
  obtain ⟨ao, cap, e, h⟩ := h; exact ⟨ao, cap, e, h.mono hB⟩
theorem Rd.below {B : Nat} {w w' : World} {sz : Nat} {v : Value} {n : Nat} {cs : List Value} (h : Rd B w sz v n cs) (hw : Below B w w') : Rd B w' sz v n cs := by
  obtain ⟨ao, cap, e, h⟩ := h; exact ⟨ao, cap, e, h.below hw⟩
theorem Rd.nil (B : Nat) (w : World) (sz : Nat) : Rd B w sz (.slice none 0 0) 0 [] := ⟨none, 0, rfl, by simp, Nat.le_refl _, Nat.zero_le _, fun _ => rfl, fun h => absurd h (Nat.lt_irrefl 0)⟩
theorem RdA.zero {B : Nat} {w : World} {sz : Nat} {ao : Option Addr} {n cap : Nat} {cs : List Value} (h : RdA B w sz ao n cap cs) (e : ao = none) : n = 0 ∧ cap = 0 := by
  have h4 := h.2.2.2.1 e; have h2 := h.2.1; omega
/-- What is read at a place. -/
theorem RdA.at {B : Nat} {w : World} {sz : Nat} {ao : Option Addr} {n cap : Nat} {cs : List Value} (h : RdA B w sz ao n cap cs) (hn : 0 < n) :
    ∃ b off, ao = some ⟨b, off, none⟩ ∧ b < B ∧ ∀ j u, cs[j]? = some u → w.cell? ⟨b, off + j, none⟩ = some u := h.2.2.2.2 hn

theorem addr_add0 (b off j : Nat) : (⟨b, off, none⟩ : Addr).add j = ⟨b, off + j, none⟩ := by
  unfold Addr.add; split
  · subst_vars; rfl
  · rfl

theorem RdA.of_own {w : World} {base : Nat} {e : TypeId} {sz : Nat} {v : Value} {n : Nat} {xs : List Value} (h : w.ownsRow base e sz v n xs) (hsz : 0 < sz) :
    ∃ ao cap, v = .slice ao n cap ∧ RdA w.heap.size w sz ao n cap xs := by
  have hlt := h.lt
  obtain ⟨hl, h' | ⟨g, cap, cur, rfl, hb, hg, hn, hc, hcs, ht⟩⟩ := id h
  · obtain ⟨rfl, rfl⟩ := h'
    exact ⟨none, 0, rfl, by simpa using hl, Nat.le_refl _, Nat.zero_le _, fun _ => rfl, fun h => absurd h (Nat.lt_irrefl 0)⟩
  · refine ⟨_, _, rfl, hl, hn, hc, (fun h => by cases h), fun _ => ⟨g, 0, rfl, (hlt g rfl).2, fun j u hj => ?_⟩⟩
    have := h.cells (g := g) rfl j u hj
    rwa [addr_add0] at this
theorem Rd.of_own {w : World} {base : Nat} {e : TypeId} {sz : Nat} {v : Value} {n : Nat} {xs : List Value} (h : w.ownsRow base e sz v n xs) (hsz : 0 < sz) : Rd w.heap.size w sz v n xs := by
  obtain ⟨ao, cap, e, h⟩ := RdA.of_own h hsz; exact ⟨ao, cap, e, h⟩

/-- A piece of a slice. -/
theorem RdA.piece {B : Nat} {w : World} {sz : Nat} {ao : Option Addr} {n cap : Nat} {cs : List Value} (h : RdA B w sz ao n cap cs) (hsz : 0 < sz) (l r m : Nat) (hlr : l ≤ r) (hr : r ≤ n) (hm : r ≤ m) (hmc : m ≤ cap) :
    RdA B w sz (if m = l then ao else ao.map (·.add (l * sz))) (r - l) (m - l) ((cs.drop (l * sz)).take ((r - l) * sz)) := by
  obtain ⟨h1, h2, h3, h4, h5⟩ := h
  refine ⟨?_, by omega, by omega, ?_, ?_⟩
  · rw [List.length_take, List.length_drop, h1, ← Nat.sub_mul]
    exact Nat.min_eq_left (Nat.mul_le_mul_right _ (by omega))
  · intro hn
    split at hn
    · omega
    · cases ao with
      | none => have := h4 rfl; omega
      | some a => simp at hn
  · intro hn
    obtain ⟨b, off, rfl, hb, hc⟩ := h5 (by omega)
    rw [if_neg (by omega)]
    refine ⟨b, off + l * sz, by simp [addr_add0], hb, fun j u hj => ?_⟩
    rw [List.getElem?_take] at hj
    split at hj
    · rw [List.getElem?_drop] at hj
      have := hc _ _ hj
      rwa [← Nat.add_assoc] at this
    · cases hj

section
variable {P : Program}
theorem run_slice_lr {B : Nat} {w : World} {sz : Nat} {ao : Option Addr} {n cap : Nat} {cs : List Value} (h : RdA B w sz ao n cap cs) (hsz : 0 < sz)
    (t : TypeId) (ht : P.underlying t = some (.slice (P.elem t))) (hs : ∀ wx, (sizeOf (P.elem t)).run P wx = .ok sz wx) (kl kr : IntKind) (l r : Nat) (hlr : l ≤ r) (hr : r ≤ n) :
    ∃ ao' cap', (∀ wx, (Instr.slice t (.slice ao n cap) (some (.int kl (l : Int))) (some (.int kr (r : Int))) none).run P wx = .ok (.slice ao' (r - l) cap') wx) ∧ RdA B w sz ao' (r - l) cap' ((cs.drop (l * sz)).take ((r - l) * sz)) := by
  refine ⟨_, _, fun wx => ?_, h.piece hsz l r cap hlr hr (by have := h.2.1; omega) (Nat.le_refl _)⟩
  rw [run_slice_lh wx t ao n cap ht kl kr l r (by omega) (by omega) (by have := h.2.1; omega)]
  simp [hs, sliced, Result.andThen]
theorem run_slice_lo {B : Nat} {w : World} {sz : Nat} {ao : Option Addr} {n cap : Nat} {cs : List Value} (h : RdA B w sz ao n cap cs) (hsz : 0 < sz)
    (t : TypeId) (ht : P.underlying t = some (.slice (P.elem t))) (hs : ∀ wx, (sizeOf (P.elem t)).run P wx = .ok sz wx) (kl : IntKind) (l : Nat) (hr : l ≤ n) :
    ∃ ao' cap', (∀ wx, (Instr.slice t (.slice ao n cap) (some (.int kl (l : Int))) none none).run P wx = .ok (.slice ao' (n - l) cap') wx) ∧ RdA B w sz ao' (n - l) cap' (cs.drop (l * sz)) := by
  have hp := h.piece hsz l n cap hr (Nat.le_refl _) h.2.1 (Nat.le_refl _)
  rw [List.take_of_length_le (by rw [List.length_drop, h.1, Nat.sub_mul]; exact Nat.le_refl _)] at hp
  refine ⟨_, _, fun wx => ?_, hp⟩
  rw [run_slice_l wx t ao n cap ht kl l (by omega) (by omega)]
  simp [hs, sliced, Result.andThen]
theorem run_slice_hi {B : Nat} {w : World} {sz : Nat} {ao : Option Addr} {n cap : Nat} {cs : List Value} (h : RdA B w sz ao n cap cs) (hsz : 0 < sz)
    (t : TypeId) (ht : P.underlying t = some (.slice (P.elem t))) (hs : ∀ wx, (sizeOf (P.elem t)).run P wx = .ok sz wx) (kr : IntKind) (r : Nat) (hr : r ≤ n) :
    ∃ ao' cap', (∀ wx, (Instr.slice t (.slice ao n cap) none (some (.int kr (r : Int))) none).run P wx = .ok (.slice ao' r cap') wx) ∧ RdA B w sz ao' r cap' (cs.take (r * sz)) := by
  have hp := h.piece hsz 0 r cap (Nat.zero_le _) hr (by have := h.2.1; omega) (Nat.le_refl _)
  simp only [Nat.zero_mul, List.drop_zero, Nat.sub_zero] at hp
  refine ⟨_, _, fun wx => ?_, hp⟩
  rw [run_slice_h wx t ao n cap ht kr r (by omega) (by have := h.2.1; omega)]
  simp [hs, sliced, Result.andThen]

/-- 'append' of what is read onto a row that is the call's own. -/
theorem run_append_rd {w : World} (base : Nat) (t ty e : TypeId) (i : TypeInfo) (z : Value) (size bytes : Nat) (ht : P.underlying t = some (.slice e)) (hi : P.info? e = some i) (hz : i.zero = some z)
    (hsize : i.size = size) (hby : i.bytes = bytes) (hzs : z.cells.size = size) (hsz : 0 < size)
    (v : Value) (n : Nat) (xs : List Value) (hown : w.ownsRow base e size v n xs)
    {B : Nat} {ao : Option Addr} {m c : Nat} {news : List Value} (hr : RdA B w size ao m c news) (h1 : ∀ u ∈ news, u.oneCell' = true)
    (h63 : n + m ≤ maxLen) (hbytes : (n + m) * bytes ≤ 140737488355328) (hbase : base ≤ w.heap.size) :
    ∃ v' w', (Builtin.append_ #[t, t] ty #[v, .slice ao m c]).run P w = .ok v' w' ∧ w'.ownsRow base e size v' (n + m) (xs ++ news) ∧ w.grownBy w' v.ownBlock := by
  cases ao with
  | none =>
    obtain ⟨rfl, rfl⟩ := hr.zero rfl
    have hn : news = [] := List.eq_nil_of_length_eq_zero (by simpa using hr.1)
    subst hn
    have hrun := run_append_owned_none (P := P) (w := w) base t ty e i size ht hi v n xs hown
    exact ⟨_, _, hrun, by simpa using hown, World.grownBy.refl _ _⟩
  | some a =>
    by_cases hm : m = 0
    · subst hm
      have hn : news = [] := List.eq_nil_of_length_eq_zero (by simpa using hr.1)
      subst hn
      obtain ⟨v', w', hx, ho, hg, _⟩ := run_append_own (P := P) w base t ty e i z size bytes ht hi hz hsize hby hzs hsz v n xs hown a 0 c [] (by simp) (by simp) h1 h63 hbytes hbase
      exact ⟨v', w', hx, ho, hg⟩
    · obtain ⟨b, off, e1, _, hc⟩ := hr.at (by omega)
      cases e1
      obtain ⟨v', w', hx, ho, hg, _⟩ := run_append_own (P := P) w base t ty e i z size bytes ht hi hz hsize hby hzs hsz v n xs hown ⟨b, off, none⟩ m c news hr.1 (fun j u hj => by rw [addr_add0]; exact hc j u hj) h1 h63 hbytes hbase
      exact ⟨v', w', hx, ho, hg⟩

theorem wpList_append_rd {w : World} {ops : Array Oper} {rest : List Oper} {o : Oper} {a : Act} {Q : Exit → Act → World → Prop} (hgd : o.guard = none) (s x : Operand) (t : TypeId)
    (ho : o.op = .call { callee := .builtin .append, args := #[s, x], argTypes := #[t, t] })
    (base : Nat) (e : TypeId) (i : TypeInfo) (z : Value) (size bytes : Nat) (ht : P.underlying t = some (.slice e)) (hi : P.info? e = some i) (hz : i.zero = some z)
    (hsize : i.size = size) (hby : i.bytes = bytes) (hzs : z.cells.size = size) (hsz : 0 < size)
    (v : Value) (n : Nat) (xs : List Value) (hs : a.eval s = v) (hown : w.ownsRow base e size v n xs)
    {B : Nat} {ao : Option Addr} {m c : Nat} {news : List Value} (hx : a.eval x = .slice ao m c) (hr : RdA B w size ao m c news) (h1 : ∀ u ∈ news, u.oneCell' = true)
    (h63 : n + m ≤ maxLen) (hbytes : (n + m) * bytes ≤ 140737488355328) (hbase : base ≤ w.heap.size)
    (h : ∀ v' w', w'.ownsRow base e size v' (n + m) (xs ++ news) → w.grownBy w' v.ownBlock → wpList P ops Q rest (a.put o.dst v') w') : wpList P ops Q (o :: rest) a w := by
  obtain ⟨v', w', hrun, h2, h3⟩ := run_append_rd (P := P) base t o.type e i z size bytes ht hi hz hsize hby hzs hsz v n xs hown hr h1 h63 hbytes hbase
  refine wpList_plain hgd fun K hK => ?_
  unfold Oper.wp execOp
  simp only [ho, resolve, invoke, builtin, Sem.run_bind, Sem.run_pure, Result.andThen_ok, List.map_toArray, List.map_cons, List.map_nil, hs, hx, hrun]
  exact hK _ _ (h v' w' h2 h3)
end

section
variable {P : Program}
/-- 'append' onto a slice without room: a new row. -/
theorem run_append_grow_rd {w : World} (t ty e : TypeId) (i : TypeInfo) (z : Value) (size bytes : Nat) (ht : P.underlying t = some (.slice e)) (hi : P.info? e = some i) (hz : i.zero = some z)
    (hsize : i.size = size) (hby : i.bytes = bytes) (hzs : z.cells.size = size) (hsz : 0 < size)
    {B B' : Nat} {ao bo : Option Addr} {n cap m c : Nat} {olds news : List Value} (ho : RdA B w size ao n cap olds) (hr : RdA B' w size bo m c news) (h1 : ∀ u ∈ news, u.oneCell' = true)
    (hg : cap < n + m) (hm : 0 < m) (h63 : n + m ≤ maxLen) (hbytes : (n + m) * bytes ≤ 140737488355328) :
    ∃ v' w', (Builtin.append_ #[t, t] ty #[.slice ao n cap, .slice bo m c]).run P w = .ok v' w' ∧ w'.ownsRow w.heap.size e size v' (n + m) (olds ++ news) ∧ w.grownBy w' none := by
  obtain ⟨b, off, e1, _, hc⟩ := hr.at hm
  subst e1
  cases ao with
  | none =>
    obtain ⟨rfl, rfl⟩ := ho.zero rfl
    have hn : olds = [] := List.eq_nil_of_length_eq_zero (by simpa using ho.1)
    subst hn
    obtain ⟨v', w', hx, hw, hgr, _⟩ := run_append_own (P := P) w w.heap.size t ty e i z size bytes ht hi hz hsize hby hzs hsz _ 0 [] (World.ownsRow_nil w _ _ _) ⟨b, off, none⟩ m c news hr.1 (fun j u hj => by rw [addr_add0]; exact hc j u hj) h1 h63 hbytes (Nat.le_refl _)
    exact ⟨v', w', hx, hw, hgr⟩
  | some a =>
    refine run_append_arg_grows (P := P) w t ty e i z size bytes ht hi hz hsize hby hzs hsz a n cap olds ho.1 (fun j u hj => ?_) ⟨b, off, none⟩ m c news hr.1 (fun j u hj => by rw [addr_add0]; exact hc j u hj) hg h63 hbytes
    have hjl := (List.getElem?_eq_some_iff.1 hj).1
    have hn : 0 < n := by
      rcases Nat.eq_zero_or_pos n with h | h
      · exfalso; have := ho.1; rw [h, Nat.zero_mul] at this; omega
      · exact h
    obtain ⟨b', off', e1, _, hc'⟩ := ho.at hn
    cases e1
    rw [addr_add0]; exact hc' j u hj
/-- .. as a step of a region that draws its order. -/
theorem step_append_grow_rd {ops : Array Oper} {o : Oper} {a : Act} {w : World} {K : Act → World → Prop} {Q : Exit → Act → World → Prop} {E : Prop} (hw : Region.wanted o (yielded ops a.tmps) = true)
    (s x : Operand) (t : TypeId) (hop : o.op = Op.call { callee := Callee.builtin Builtin.append, args := #[s, x], argTypes := #[t, t] })
    (e : TypeId) (i : TypeInfo) (z : Value) (size bytes : Nat) (ht : P.underlying t = some (.slice e)) (hi : P.info? e = some i) (hz : i.zero = some z)
    (hsize : i.size = size) (hby : i.bytes = bytes) (hzs : z.cells.size = size) (hsz : 0 < size)
    {B B' : Nat} {ao bo : Option Addr} {n cap m c : Nat} {olds news : List Value} (hs : a.eval s = .slice ao n cap) (ho : RdA B w size ao n cap olds) (hx : a.eval x = .slice bo m c) (hr : RdA B' w size bo m c news) (h1 : ∀ u ∈ news, u.oneCell' = true)
    (hg : cap < n + m) (hm : 0 < m) (h63 : n + m ≤ maxLen) (hbytes : (n + m) * bytes ≤ 140737488355328)
    (hK : ∀ v' w', w'.ownsRow w.heap.size e size v' (n + m) (olds ++ news) → w.grownBy w' none → K (a.put o.dst v') w') :
    if Region.wanted o (yielded ops a.tmps) = true then Oper.wp P o a w K Q else E := by
  rw [if_pos hw]
  obtain ⟨v', w', hrun, r1, r2⟩ := run_append_grow_rd (P := P) t o.type e i z size bytes ht hi hz hsize hby hzs hsz ho hr h1 hg hm h63 hbytes
  unfold Oper.wp
  simp [execOp, hop, resolve, invoke, builtin, hs, hx, hrun, Result.andThen]
  exact hK v' w' r1 r2

/-- A slice of bytes as a string. -/
theorem run_str {B : Nat} {w : World} {v : Value} {l : List UInt8} (h : RdB B w v l) (src dst e : TypeId) (hs : P.underlying src = some (.slice e)) (he : P.underlying e = some (.int .u8)) (hd : P.underlying dst = some .string) :
    (convert src dst v).run P w = .ok (.string ⟨l.toArray⟩) w := by
  obtain ⟨ao, cap, rfl, h⟩ := h
  cases ao with
  | none =>
    obtain ⟨h0, rfl⟩ := h.zero rfl
    have : l = [] := List.eq_nil_of_length_eq_zero h0
    subst this
    exact Lib.run_convert_nil_bytes w src dst e 0 hs he hd
  | some a =>
    refine run_convert_bytes_back w src dst e a cap l hs he hd fun j hj => ?_
    obtain ⟨b, off, e1, _, hc⟩ := h.at (by omega)
    cases e1
    rw [addr_add0]
    exact hc j _ (by simp [hj])
end
/-- The string of bytes. -/
abbrev St (l : List UInt8) : Value := .string ⟨l.toArray⟩
theorem mk_toList (l : List UInt8) : (⟨l.toArray⟩ : ByteArray).toList = l := by rw [Lib.toList_data]

theorem bytes_one (l : List UInt8) : ∀ u ∈ l.map B8, u.oneCell' = true := by
  intro u hu; obtain ⟨x, _, rfl⟩ := List.mem_map.1 hu; rfl

theorem alloc_size (w : World) (o : Obj) : (w.alloc o).heap.size = w.heap.size + 1 := by simp
theorem cell_lit (w : World) (cs : Array Value) (e : TypeId) : ∀ (j : Nat) v, cs.toList[j]? = some v → (w.alloc (.cells cs e)).cell? ⟨w.heap.size, j, none⟩ = some v := by
  intro j v hv
  rw [World.cell?, heap_alloc_new]
  simpa using hv
/-- A literal of cells reads as it was written. -/
theorem RdA.lit (w : World) (cs : Array Value) (e : TypeId) (n sz : Nat) (hs : cs.size = n * sz) (hm : n ≤ maxLen) :
    RdA (w.heap.size + 1) (w.alloc (.cells cs e)) sz (some ⟨w.heap.size, 0, none⟩) n n cs.toList := by
  refine ⟨by simpa using hs, Nat.le_refl _, hm, (fun h => by cases h), fun _ => ⟨_, _, rfl, Nat.lt_succ_self _, fun j u hj => ?_⟩⟩
  rw [Nat.zero_add]; exact cell_lit w cs e j u hj
theorem Below.one {B : Nat} {w : World} (h : B ≤ w.heap.size) (o : Obj) : Below B w (w.alloc o) := (Below.refl _ _).alloc h _

theorem RdA.alloc {B : Nat} {w : World} {sz : Nat} {ao : Option Addr} {n cap : Nat} {cs : List Value} (h : RdA B w sz ao n cap cs) (hB : B ≤ w.heap.size) (o : Obj) : RdA B (w.alloc o) sz ao n cap cs := h.below (Below.one hB o)
theorem Rd.alloc {B : Nat} {w : World} {sz : Nat} {v : Value} {n : Nat} {cs : List Value} (h : Rd B w sz v n cs) (hB : B ≤ w.heap.size) (o : Obj) : Rd B (w.alloc o) sz v n cs := h.below (Below.one hB o)
theorem RdB.own {w : World} {base : Nat} {e : TypeId} {v : Value} {l : List UInt8} (h : w.ownsRow base e 1 v l.length (l.map B8)) : RdB w.heap.size w v l := Rd.of_own h (by decide)
theorem RdB.owned {w : World} {base : Nat} {e : TypeId} {v : Value} {n : Nat} {cs : List Value} (l : List UInt8) (h : w.ownsRow base e 1 v n cs) (hc : cs = l.map B8) : RdB w.heap.size w v l := by
  subst hc
  have hn : n = l.length := by have := h.1; simp at this; exact this.symm
  subst hn
  exact RdB.own h
theorem RdB.lit (w : World) (l : List UInt8) (cs : Array Value) (e : TypeId) (hc : cs.toList = l.map B8) (hm : l.length ≤ maxLen) : RdB (w.heap.size + 1) (w.alloc (.cells cs e)) (.slice (some ⟨w.heap.size, 0, none⟩) l.length l.length) l := by
  have hs : cs.size = l.length := by rw [← Array.length_toList, hc, List.length_map]
  have := RdA.lit w cs e l.length 1 (by omega) hm
  rw [hc] at this
  exact ⟨_, _, rfl, this⟩

/-- A constant's bytes. -/
theorem RdB.litF (w : World) (l : List UInt8) (cs : Array Value) (e : TypeId) (fr : Nat × Nat) (hc : cs.toList = l.map B8) (hm : l.length ≤ maxLen) : RdB (w.heap.size + 1) (w.alloc (.cells cs e fr)) (.slice (some ⟨w.heap.size, 0, none⟩) l.length l.length) l := by
  have hs : cs.size = l.length := by rw [← Array.length_toList, hc, List.length_map]
  refine ⟨_, _, rfl, by simp, Nat.le_refl _, hm, (fun h => by cases h), fun _ => ⟨_, _, rfl, Nat.lt_succ_self _, fun j u hj => ?_⟩⟩
  rw [World.cell?, heap_alloc_new, Nat.zero_add]
  rw [← hc] at hj
  simpa using hj

theorem ownsRow_mono {w : World} {B B' : Nat} {e : TypeId} {sz : Nat} {v : Value} {n : Nat} {xs : List Value} (h : w.ownsRow B e sz v n xs) (hB : B' ≤ B) : w.ownsRow B' e sz v n xs := by
  obtain ⟨h1, h2 | ⟨g, cap, cur, h3, h4, h5⟩⟩ := h
  · exact ⟨h1, .inl h2⟩
  · exact ⟨h1, .inr ⟨g, cap, cur, h3, Nat.le_trans hB h4, h5⟩⟩

theorem ofInt_i64 (a : Nat) (ha : a < 9223372036854775808) : (BitVec.ofInt 64 (a : Int)).toNat = a := by
  rw [BitVec.ofInt_natCast, BitVec.toNat_ofNat]; exact Nat.mod_eq_of_lt (by omega)
theorem wrap_i64_nat (a : Nat) (ha : a < 9223372036854775808) : IntKind.i64.wrap (a : Int) = (a : Int) := IntWalk.i64_in _ ⟨by omega, by omega⟩
theorem i64_or_nat (a b : Nat) (ha : a < 9223372036854775808) (hb : b < 9223372036854775808) : bits .or .i64 (a : Int) (b : Int) = ((a ||| b : Nat) : Int) := by
  have hx : a ||| b < 2 ^ 63 := Nat.or_lt_two_pow (by omega) (by omega)
  show IntKind.i64.wrap ((BitVec.ofInt 64 (a : Int) ||| BitVec.ofInt 64 (b : Int)).toNat : Int) = _
  rw [BitVec.toNat_or, ofInt_i64 a ha, ofInt_i64 b hb, wrap_i64_nat _ (by omega)]

theorem i64_xor_nat (a b : Nat) (ha : a < 9223372036854775808) (hb : b < 9223372036854775808) : bits .xor .i64 (a : Int) (b : Int) = ((a ^^^ b : Nat) : Int) := by
  have hx : a ^^^ b < 2 ^ 63 := Nat.xor_lt_two_pow (by omega) (by omega)
  show IntKind.i64.wrap ((BitVec.ofInt 64 (a : Int) ^^^ BitVec.ofInt 64 (b : Int)).toNat : Int) = _
  rw [BitVec.toNat_xor, ofInt_i64 a ha, ofInt_i64 b hb, wrap_i64_nat _ (by omega)]

theorem or_byte (D : Nat) (y : UInt8) (h : D < 36028797018963968) : bits .or .i64 ((D : Int) * 256) (y.toNat : Int) = ((D * 256 + y.toNat : Nat) : Int) := by
  have hy := y.toNat_lt
  have h1 : ((D : Int) * 256) = ((D * 256 : Nat) : Int) := by rw [Int.natCast_mul]; rfl
  rw [h1, i64_or_nat _ _ (by omega) (by omega)]
  have : D * 256 ||| y.toNat = D * 256 + y.toNat := by
    have := Nat.shiftLeft_add_eq_or_of_lt (a := D) (i := 8) (b := y.toNat) (by omega)
    rw [Nat.shiftLeft_eq] at this; exact this.symm
  rw [this]

theorem _root_.Go.RowKit.Below.next {B : Nat} {a b c : World} (h : Below B a b) (k : Below b.heap.size b c) (hB : B ≤ a.heap.size := by first | exact Nat.le_refl _ | omega) : Below B a c := h.trans (k.mono (Nat.le_trans hB h.size))

/-- The first s bytes of a slice whose head is known. -/
theorem RdA.pre {B : Nat} {w : World} {b off cap : Nat} {l : List UInt8} (h : RdA B w 1 (some ⟨b, off, none⟩) l.length cap (l.map B8)) (s : Nat) (hs : s ≤ l.length) (hc : 0 < cap) :
    RdB B w (.slice (some ⟨b, off, none⟩) s cap) (l.take s) := by
  have h1 := h.piece (by decide) 0 s cap (Nat.zero_le _) hs (by have := h.2.1; omega) (Nat.le_refl _)
  have hcp : cap ≠ 0 := by omega
  refine ⟨_, _, by rw [List.length_take, Nat.min_eq_left hs], ?_⟩
  simpa [hcp, addr_add0, Nat.min_eq_left hs] using h1

/-- What is owned stays owned where nothing below is written. -/
theorem ownsRow_below {w w' : World} {B : Nat} {e : TypeId} {sz : Nat} {v : Value} {n : Nat} {xs : List Value} (h : w.ownsRow B e sz v n xs) (hb : Below w.heap.size w w') : w'.ownsRow B e sz v n xs := by
  have hlt := h.lt
  obtain ⟨h1, h2 | ⟨g, cap, cur, h3, h4, h5, h6⟩⟩ := h
  · exact ⟨h1, .inl h2⟩
  · refine ⟨h1, .inr ⟨g, cap, cur, h3, h4, ?_, h6⟩⟩
    rw [hb.block g (hlt g (by rw [h3]; rfl)).2]; exact h5

/-- A piece of a slice whose head is known. -/
theorem RdA.mid {B : Nat} {w : World} {b off cap : Nat} {l : List UInt8} (h : RdA B w 1 (some ⟨b, off, none⟩) l.length cap (l.map B8)) (lo m : Nat) (hm : lo + m ≤ l.length) (hc : lo < cap) :
    RdB B w (.slice (some ⟨b, off + lo, none⟩) m (cap - lo)) ((l.drop lo).take m) := by
  have h1 := h.piece (by decide) lo (lo + m) cap (by omega) hm (by have := h.2.1; omega) (Nat.le_refl _)
  have hl : ((l.drop lo).take m).length = m := by simp; omega
  refine ⟨_, _, by rw [hl], ?_⟩
  rw [hl]
  have hn : ¬ cap = lo := by omega
  simpa [hn, addr_add0, Nat.add_sub_cancel_left] using h1
theorem RdA.suf {B : Nat} {w : World} {b off cap : Nat} {l : List UInt8} (h : RdA B w 1 (some ⟨b, off, none⟩) l.length cap (l.map B8)) (lo : Nat) (hl : lo ≤ l.length) (hc : lo < cap) :
    RdB B w (.slice (some ⟨b, off + lo, none⟩) (l.length - lo) (cap - lo)) (l.drop lo) := by
  have h1 := h.mid lo (l.length - lo) (by omega) hc
  rwa [List.take_of_length_le (by simp)] at h1

/-- The first s bytes of a slice. -/
theorem RdA.preA {B : Nat} {w : World} {ao : Option Addr} {cap : Nat} {l : List UInt8} (h : RdA B w 1 ao l.length cap (l.map B8)) (s : Nat) (hs : s ≤ l.length) :
    RdB B w (.slice ao s cap) (l.take s) := by
  have h1 := h.piece (by decide) 0 s cap (Nat.zero_le _) hs (by have := h.2.1; omega) (Nat.le_refl _)
  have e : (if cap = 0 then ao else ao.map (·.add (0 * 1))) = ao := by
    split
    · rfl
    · cases ao <;> simp [Addr.add]
  rw [e] at h1
  refine ⟨ao, cap, by rw [List.length_take, Nat.min_eq_left hs], ?_⟩
  rw [List.length_take, Nat.min_eq_left hs]
  simpa using h1

theorem flatten_take_le {α : Type} (ls : List (List α)) (k : Nat) : (ls.take k).flatten.length ≤ ls.flatten.length := by
  have h : ls.flatten = (ls.take k).flatten ++ (ls.drop k).flatten := by rw [← List.flatten_append, List.take_append_drop]
  rw [h, List.length_append]; omega

end Go.Proofs.Ytgdcpgmbmppfgaa
