/-
  'append(s, make([]T, k)...)' onto a row that is the call's own; elements of one cell.
-/
import Derived.Test.YtgdcpgmbmppfgaaBase
import Derived.Lib.AppendZerosOnto
import Derived.Laws.CopyOwn
namespace Go.Proofs.Ytgdcpgmbmppfgaa
open Go.RowKit

theorem zeroCells_one (z : Value) (k : Nat) : (Builtin.zeroCells #[z] k).toList = List.replicate k z := by
  apply List.ext_getElem?
  intro j
  by_cases hj : j < k
  · simp [Builtin.zeroCells, hj, Nat.mod_one]
  · simp [Builtin.zeroCells, hj]

section
variable {P : Program}
theorem run_append_own_zeros {w : World} (base : Nat) (t tn ty e : TypeId) (i : TypeInfo) (z : Value) (bytes : Nat) (kq kn : IntKind) (ht : P.underlying t = some (.slice e)) (htn : P.underlying tn = some (.int kn)) (hi : P.info? e = some i) (hz : i.zero = some z)
    (hsize : i.size = 1) (hby : i.bytes = bytes) (hzs : z.cells = #[z]) (h1z : z.oneCell' = true)
    (g n cap : Nat) (xs : List Value) (hown : w.ownsRow base e 1 (.slice (some ⟨g, 0, none⟩) n cap) n xs) (k : Nat) (hk : 0 < k)
    (h63 : n + k ≤ maxLen) (hbytes : (n + k) * bytes ≤ 140737488355328) (hbase : base ≤ w.heap.size) :
    ∃ v' w', (Builtin.append_ #[t, tn] ty #[.slice (some ⟨g, 0, none⟩) n cap, .int kq k]).run P w = .ok v' w' ∧ w'.ownsRow base e 1 v' (n + k) (xs ++ List.replicate k z) ∧ w.grownBy w' (some g) := by
  subst hby
  have h63' : n + k ≤ 9223372036854775807 := by simp only [maxLen] at h63; omega
  have hk48 : k * i.bytes ≤ 281474976710656 := by
    have : k * i.bytes ≤ (n + k) * i.bytes := Nat.mul_le_mul_right _ (by omega)
    omega
  have hx := hown.1
  rcases id hown.2 with ⟨h', _⟩ | ⟨g', cap', cur, h', hb, hg, hnc, hcm, hcs, htake⟩
  · cases h'
  · cases h'
    by_cases hroom : n + k ≤ cap
    · have hw : IntKind.i64.wrap (k : Int) = k := by rw [IntKind.wrap_i64]; omega
      have hneg : ¬ ((k : Int) < 0) := by omega
      have h48i : ¬ (281474976710656 < (k : Int) * (i.bytes : Int)) := by rw [← Int.natCast_mul]; omega
      have hst := run_storeCells_at P g n e (List.replicate k z) 0 cur w hg (by simp; omega) (by intro u hu; rw [(List.mem_replicate.1 hu).2]; exact h1z)
      simp only [Nat.add_zero] at hst
      have hrun : (Builtin.append_ #[t, tn] ty #[.slice (some ⟨g, 0, none⟩) n cap, .int kq k]).run P w = .ok (.slice (some ⟨g, 0, none⟩) (n + k) cap) (w.setRow g (cur.toList.take n ++ List.replicate k z ++ cur.toList.drop (n + (List.replicate k z).length)).toArray) := by
        have hks : ¬ k = 0 := by omega
        simp [Builtin.append_, run_underlying ht, run_underlying htn, sizeOf, typeInfo, zeroValue, hi, hz, hsize, asInt, asIntOf, hw, hneg, h48i, hroom, hks, hzs, zeroCells_one, Addr.add_lit, hst]
      refine ⟨_, _, hrun, ⟨by simp [hx], .inr ⟨g, cap, _, rfl, hb, setRow_heap w g cur _ e _ hg, hroom, hcm, ?_, ?_⟩⟩, ⟨rfl, rfl, rfl, by simp [World.setRow], fun j _ hj => setRow_other w g j _ (fun e => hj (by simp [e]))⟩⟩
      · simp; omega
      · have ht' : cur.toList.take n = xs := by simpa using htake
        rw [ht']
        have : (n + k) * 1 = (xs ++ List.replicate k z).length := by simp [hx]
        rw [this]; exact List.take_left
    · have holds : (Builtin.firstCells i.size n (.slice (some ⟨g, 0, none⟩) n cap)).run P w.drew = .ok xs.toArray w.drew := by
        refine run_firstCells_some (P := P) w.drew i.size n ⟨g, 0, none⟩ n cap xs (by rw [hsize]; exact hx) (fun j u hj => ?_)
        exact hown.cells (g := g) rfl j u hj
      have hr := Lib.run_append_grow_zeros (P := P) w t tn ty e i z kq kn ht htn hi hz (some ⟨g, 0, none⟩) n cap xs holds k hk (by omega) (by omega) (by omega) hk48 (growslice_fits (by omega) hbytes)
      refine ⟨_, _, hr, ⟨by simp [hx], .inr ⟨w.heap.size, _, _, rfl, hbase, heap_alloc_new w.drew _, grownCap_ge w _ _ e, grownCap_le_maxLen w _ _ e h63, ?_, ?_⟩⟩, ⟨rfl, rfl, rfl, by simp, fun j hj _ => heap_alloc_old w.drew _ hj⟩⟩
      · have hge := grownCap_ge w (n + k) cap e
        simp [size_zeroCells, hzs, hx]; omega
      · simp only [Array.toList_append, List.append_assoc, hzs, zeroCells_one]
        rw [← List.append_assoc]
        have : (n + k) * 1 = (xs ++ List.replicate k z).length := by simp [hx]
        rw [this]; exact List.take_left

theorem wpList_append_own_zeros {w : World} {ops : Array Oper} {rest : List Oper} {o : Oper} {a : Act} {Q : Exit → Act → World → Prop} (hgd : o.guard = none) (s x : Operand) (t tn : TypeId)
    (ho : o.op = .call { callee := .builtin .append, args := #[s, x], argTypes := #[t, tn] })
    (base : Nat) (e : TypeId) (i : TypeInfo) (z : Value) (bytes : Nat) (kq kn : IntKind) (ht : P.underlying t = some (.slice e)) (htn : P.underlying tn = some (.int kn)) (hi : P.info? e = some i) (hz : i.zero = some z)
    (hsize : i.size = 1) (hby : i.bytes = bytes) (hzs : z.cells = #[z]) (h1z : z.oneCell' = true)
    (g n cap : Nat) (xs : List Value) (hs : a.eval s = .slice (some ⟨g, 0, none⟩) n cap) (hown : w.ownsRow base e 1 (.slice (some ⟨g, 0, none⟩) n cap) n xs) (k : Nat) (C : Int) (hx : a.eval x = .int kq C) (hC : C = (k : Int)) (hk : 0 < k)
    (h63 : n + k ≤ maxLen) (hbytes : (n + k) * bytes ≤ 140737488355328) (hbase : base ≤ w.heap.size)
    (h : ∀ v' w', w'.ownsRow base e 1 v' (n + k) (xs ++ List.replicate k z) → w.grownBy w' (some g) → wpList P ops Q rest (a.put o.dst v') w') : wpList P ops Q (o :: rest) a w := by
  subst hC
  obtain ⟨v', w', hr, h1, h2⟩ := run_append_own_zeros (P := P) base t tn o.type e i z bytes kq kn ht htn hi hz hsize hby hzs h1z g n cap xs hown k hk h63 hbytes hbase
  exact Lib.wpList_append_run w hgd s x t tn ho _ _ hs hx v' w' hr (h v' w' h1 h2)

/-- 'copy' into a row that is the call's own, from what is read. -/
theorem wpList_copy_rd {w : World} {ops : Array Oper} {rest : List Oper} {o : Oper} {a : Act} {Q : Exit → Act → World → Prop} (hgd : o.guard = none) (d s : Operand) (dT sT : TypeId)
    (ho : o.op = .call { callee := .builtin .copy, args := #[d, s], argTypes := #[dT, sT] }) (elem : TypeId) (hu : P.underlying dT = some (.slice elem)) (hsz : (P.info? elem).map (·.size) = some 1)
    (dp : Option Addr) (dLen dCap : Nat) (hd : a.eval d = .slice dp dLen dCap) {B base : Nat} {e : TypeId} {g n cap off m c : Nat} {xs cs : List Value} {ao : Option Addr} (hs : a.eval s = .slice ao m c)
    (hown : w.ownsRow base e 1 (.slice (some ⟨g, 0, none⟩) n cap) n xs) (hr : RdA B w 1 ao m c cs) (h1 : ∀ v ∈ cs, v.oneCell' = true) (hdp : 0 < m → dp = some ⟨g, off, none⟩) (hm : m ≤ dLen) (hfit : off + m ≤ n)
    (B0 : Nat) (w0 : World) (hb : Below B0 w0 w) (hBg : B0 ≤ g)
    (h : ∀ w', w'.ownsRow base e 1 (.slice (some ⟨g, 0, none⟩) n cap) n (xs.take off ++ cs ++ xs.drop (off + m)) → Below B0 w0 w' → wpList P ops Q rest (a.put o.dst (goInt m)) w') :
    wpList P ops Q (o :: rest) a w := by
  have hx := hown.1
  have hcl : cs.length = m := by have := hr.1; omega
  rcases id hown.2 with ⟨h', _⟩ | ⟨g', cap', cur, h', hbg, hg, hnc, hcm, hcs, htake⟩
  · cases h'
  · cases h'
    refine wpList_copy_splice hgd d s dT sT ho elem hu hsz dp ao dLen dCap m c hd hs g off cur.toList e (by simpa using hg) cs (by rw [hcl]; exact (Nat.min_eq_left hm).symm) (fun hp => ⟨hdp (by omega), ?_⟩) (by have : cur.toList.length = cur.size := rfl; omega) h1 B0 w0 hb hBg ?_
    · obtain ⟨b, o', e1, _, hc⟩ := hr.at (by omega)
      exact ⟨_, e1, fun j v hj => by rw [addr_add0]; exact hc j v hj⟩
    · intro w' hw' hbw
      rw [hcl]
      refine h w' ⟨?_, .inr ⟨g, cap, _, rfl, hbg, hw'.out, hnc, hcm, ?_, ?_⟩⟩ hbw
      · simp [hcl, hx]; omega
      · simp [splice, hcl]; omega
      · rw [Nat.mul_one] at htake ⊢
        have hL : n ≤ cur.toList.length := by have : cur.toList.length = cur.size := rfl; omega
        simp only [splice]
        rw [hcl, ← htake]
        generalize cur.toList = L at *
        rw [← List.append_assoc, List.take_append, List.take_of_length_le (by simp; omega), List.take_take, Nat.min_eq_left (by omega), List.drop_take]
        congr 2
        simp; omega
end
end Go.Proofs.Ytgdcpgmbmppfgaa
