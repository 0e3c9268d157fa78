/-
  The protocol: ends may be; putting, sending.
-/
import Derived.Test.YtbemomagabjbnaaLoM
set_option linter.unusedSimpArgs false
set_option linter.unusedVariables false
set_option maxRecDepth 100000
namespace Go.Proofs.Ytbemomagabjbnaa
open Go Go.Ax
variable {ep : Int} {k : Nat} {x : Pair}

theorem Inv.alen (h : Inv ep k x) : x.a.out.length = x.put.length - k := by rw [h.aout, items_len, List.length_drop]
theorem Inv.amay (h : Inv ep k x) (h0 : 0 ≤ ep) (h1 : ep < 2147483648) (hp : x.put.length ≤ 1000) : x.a.may = true := by
  have hl := h.alen
  have hs := h.asince
  have h32 := h.out32
  have hkt := h.kt
  have htp := h.tp
  rw [may_eq, Bool.and_eq_true]
  constructor
  · simp only [End.plain, Bool.and_eq_true, decide_eq_true_eq, from', h.aep, h.anx, h.awant, Bool.not_eq_true', Bool.and_eq_false_iff, decide_eq_false_iff_not]
    refine ⟨⟨⟨⟨⟨⟨h0, h1⟩, by omega, by omega⟩, by omega, by omega⟩, by omega⟩, hs.1, hs.2.1⟩, ?_⟩
    by_cases hz : x.a.out.length = 0
    · right; have := hs.2.2 hz; omega
    · exact .inl hz
  · rw [List.all_eq_true]
    intro i hi
    have hi := List.mem_range.1 hi
    have hg : x.a.out[i]? = some ⟨((k + i + 1 : Nat) : Int), [(x.put.drop k)[i]'(by rw [List.length_drop]; omega)]⟩ := by
      rw [h.aout]; exact items_get k _ i _
    simp only [End.mayAt, hg, Bool.and_eq_true, decide_eq_true_eq, h.anx]
    refine ⟨⟨by omega, by omega⟩, by simp⟩
theorem Inv.bmay (h : Inv ep k x) (h0 : 0 ≤ ep) (h1 : ep < 2147483648) (hp : x.put.length ≤ 1000) : x.b.may = true := by
  have htp := h.tp
  rw [may_eq, Bool.and_eq_true]
  constructor
  · simp only [End.plain, Bool.and_eq_true, decide_eq_true_eq, from', h.bep, h.bnx, h.bwant, h.bout, h.bsince, Bool.not_eq_true', Bool.and_eq_false_iff, decide_eq_false_iff_not]
    refine ⟨⟨⟨⟨⟨⟨h0, h1⟩, by omega, by omega⟩, by omega, by omega⟩, by simp⟩, by omega, by omega⟩, ?_⟩
    right; omega
  · rw [h.bout]; rfl
theorem Inv.pkmay (h : Inv ep k x) (h0 : 0 ≤ ep) (h1 : ep < 2147483648) (hp : x.put.length ≤ 1000) {p : Pk} (hm : p ∈ x.up ∨ p ∈ x.down) : p.may = true := by
  have htp := h.tp
  rw [Pk.may_iff]
  rcases hm with hm | hm
  · obtain ⟨e1, e2, s, b, e3, e4, e5⟩ := h.up p hm
    have hs := (List.getElem?_eq_some_iff.1 e3).1
    rw [e1, e2, e4, e5]
    exact ⟨⟨h0, h1⟩, ⟨by omega, by omega⟩, ⟨by omega, by omega⟩, by simp, fun h => by omega⟩
  · obtain ⟨e1, e2, e3, j, e4, e5⟩ := h.down p hm
    rw [e1, e2, e3, e4]
    exact ⟨⟨h0, h1⟩, ⟨by omega, by omega⟩, ⟨by omega, by omega⟩, by simp, fun _ => rfl⟩

theorem Inv.puts (h : Inv ep k x) (h0 : 0 ≤ ep) (h1 : ep < 2147483648) (hp : x.put.length < 1000) (b : UInt8) : Inv ep k (x.puts b) := by
  have hm := h.amay h0 h1 (by omega)
  have hl := h.alen
  have hkt := h.kt
  have htp := h.tp
  by_cases h32 : 32 ≤ x.a.out.length
  · have e : x.a.put [b] = (zeroE, 9) := by
      unfold End.put
      rw [if_pos hm, if_neg (by simp), if_pos (.inl h32)]
    have e2 : x.puts b = x := by
      unfold Pair.puts
      rw [e]
      have := h.ok
      cases x
      simp_all
    rw [e2]; exact h
  · have e : x.a.put [b] = ({ x.a with nx := x.a.nx + 1, out := x.a.out ++ [⟨x.a.nx, [b]⟩] }, 0) := by
      unfold End.put
      rw [if_pos hm, if_neg (by simp), if_neg (by have := h.anx; omega)]
    have e2 : x.puts b = { x with a := { x.a with nx := x.a.nx + 1, out := x.a.out ++ [⟨x.a.nx, [b]⟩] }, put := x.put ++ [b] } := by
      unfold Pair.puts
      rw [e]
      have := h.ok
      cases x
      simp_all
    rw [e2]
    have hd : (x.put ++ [b]).drop k = x.put.drop k ++ [b] := List.drop_append_of_le_length (by omega)
    have hpl : (x.put ++ [b]).length = x.put.length + 1 := by simp
    refine { h with anx := ?_, aout := ?_, asince := ?_, told := ?_, tp := ?_, out32 := ?_, up := ?_ }
    · show x.a.nx + 1 = (((x.put ++ [b]).length + 1 : Nat) : Int)
      rw [hpl, h.anx]; omega
    · show x.a.out ++ [⟨x.a.nx, [b]⟩] = items k ((x.put ++ [b]).drop k)
      rw [hd, items_snoc, ← h.aout, h.anx, List.length_drop]
      congr 4
      omega
    · have := h.asince
      refine ⟨this.1, this.2.1, fun hz => ?_⟩
      have hz : (x.a.out ++ [⟨x.a.nx, [b]⟩] : List Item).length = 0 := hz
      simp at hz
    · show x.told = (x.put ++ [b]).take x.told.length
      rw [List.take_append_of_le_length (by omega)]; exact h.told
    · show x.told.length ≤ (x.put ++ [b]).length
      omega
    · show (x.put ++ [b]).length - k ≤ 32
      omega
    · intro p hpm
      obtain ⟨e1, e2, s, c, e3, e4, e5⟩ := h.up p hpm
      have hs := (List.getElem?_eq_some_iff.1 e3).1
      exact ⟨e1, e2, s, c, by show (x.put ++ [b])[s]? = some c; rw [List.getElem?_append_left hs]; exact e3, e4, e5⟩
end Go.Proofs.Ytbemomagabjbnaa
