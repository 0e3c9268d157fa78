/-
  From the statements' readings of arguments to the walks' words.
-/
import Derived.Test.YtgdcpgmbmppfgaaBase
import Derived.ProofKit
import Derived.OpenShut
import Derived.ShutString
import Derived.ChangeOld
namespace Go.Proofs.Ytgdcpgmbmppfgaa
open Go.ChangeShapes Go.WideShapes Go.ChangeAt Go.RowKit

theorem own : ownKnob Try.prog.godebug = none := by kernel_rfl
theorem laidOut : laidOutB Try.prog = true := by kernel_rfl

theorem u8_of_wf {n : Int} (h : (Lit.int .u8 n).wf = true) : 0 ≤ n ∧ n ≤ 255 := by
  simp [Lit.wf, IntKind.min, IntKind.max, IntKind.signed, IntKind.bits] at h
  omega

/-- A row of bytes that came in. -/
theorem rdB_of_row {w : World} {x : Addr} {len cap : Nat} {zs : List Int} (hl : len ≤ cap) (hm : cap ≤ maxLen) (hz : zs.length = cap)
    (hc : ∀ i, i < zs.length → w.cell? (x.add i) = some (.int .u8 (zs.getD i 0))) (hwf : ∀ n ∈ zs, (Lit.int .u8 n).wf = true) :
    ∃ l : List UInt8, l.length = len ∧ RdB w.heap.size w (.slice (some x) len cap) l := by
  refine ⟨(zs.take len).map fun z => UInt8.ofNat z.toNat, by simp; omega, some x, cap, by simp [hz, Nat.min_eq_left hl], ?_⟩
  have hlen : ((zs.take len).map fun z => UInt8.ofNat z.toNat).length = len := by simp; omega
  refine ⟨by simp, by rw [hlen]; exact hl, hm, (fun h => by cases h), fun hn => ?_⟩
  rw [hlen] at hn
  obtain ⟨b, off, spot⟩ := x
  have h0 := hc 0 (by omega)
  have hs : spot = none := by
    cases spot with
    | none => rfl
    | some s =>
      exfalso
      unfold Addr.add World.cell? at h0
      simp at h0
      split at h0 <;> simp at h0
  subst hs
  refine ⟨b, off, rfl, World.block_lt_of_cell? w _ (by rw [addr_add0] at h0; exact h0), fun j u hj => ?_⟩
  have hjl : j < len := by
    have := (List.getElem?_eq_some_iff.1 hj).1
    simpa [hz, Nat.min_eq_left hl] using this
  have h1 := hc j (by omega)
  rw [addr_add0] at h1
  rw [h1]
  have hjz : j < zs.length := by omega
  have hwj := u8_of_wf (hwf zs[j] (List.getElem_mem hjz))
  simp only [List.getElem?_map, List.getElem?_take, if_pos hjl, List.getElem?_eq_getElem hjz, Option.map_some, Option.some.injEq] at hj
  subst hj
  simp only [B8, List.getD_eq_getElem?_getD, List.getElem?_eq_getElem hjz, Option.getD_some, UInt8.toNat_ofNat', Option.some.injEq, Value.int.injEq, true_and]
  rw [Nat.mod_eq_of_lt (by omega)]; omega

section
variable {H : Type} {enc : TypeId × Value → H}
set_option maxRecDepth 100000 in
/-- A slice of bytes that came in. -/
theorem open_rdB {W : World} {base : Nat} {v : Value} {d : DataW H} {p : List MemPlace} (hv : Value.okWide Try.prog W .any base 23 v) (h : DataW.Trod enc Try.prog W 0 (fun _ => true) true 23 v d p) :
    ∃ l : List UInt8, RdB W.heap.size W v l := by
  obtain ⟨a1, len1, cap1, rfl⟩ := okWide_slice Try.underlying23 hv
  obtain ⟨fuel, hf⟩ := h
  rcases open_ints Try.underlying23 Try.underlying5 (by kernel_rfl) hf with ⟨hcs, _⟩ | ⟨x, l, c, zs, hcs, _, hl, hm, hz, _, hcell, hwz⟩
  · simp [Value.cells] at hcs
    obtain ⟨rfl, rfl, rfl⟩ := hcs
    exact ⟨[], Rd.nil _ _ _⟩
  · simp [Value.cells] at hcs
    obtain ⟨rfl, rfl, rfl⟩ := hcs
    obtain ⟨l, _, h⟩ := rdB_of_row hl hm (by simpa using hz) hcell hwz
    exact ⟨l, h⟩
end
end Go.Proofs.Ytgdcpgmbmppfgaa
