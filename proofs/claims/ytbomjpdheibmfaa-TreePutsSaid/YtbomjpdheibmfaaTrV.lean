/-
  What arguments read as: runs.
-/
import Derived.Test.YtbomjpdheibmfaaSwV
import Derived.Test.YtbomjpdheibmfaaEf
set_option linter.unusedSimpArgs false
set_option linter.unusedVariables false
set_option maxRecDepth 100000
namespace Go.Proofs.Ytbomjpdheibmfaa
open Go Go.Ax
abbrev gRn : GT := .ag [gSp, gId, .sl (.int .i32)]
theorem of_rn (r : List AV) (h : Is gRn r) : ∃ x, isRn r x := by
  simp only [gRn, gSp, gId, gHd, gLb, Is, IsL] at h
  obtain ⟨_, _, rfl, ⟨_, _, rfl, ⟨_, _, rfl, ⟨_, _, rfl, ⟨_, _, rfl, ⟨n1, rfl, w1⟩, _, _, rfl, ⟨n2, rfl, w2⟩, rfl⟩, _, _, rfl, ⟨n3, rfl, w3⟩, rfl⟩, _, _, rfl, ⟨n4, rfl, w4⟩, rfl⟩, _, _, rfl, ⟨n5, rfl, w5⟩, rfl⟩, _, _, rfl, ⟨_, _, rfl, ⟨_, _, rfl, ⟨_, _, rfl, ⟨n6, rfl, w6⟩, _, _, rfl, ⟨n7, rfl, w7⟩, rfl⟩, _, _, rfl, ⟨n8, rfl, w8⟩, rfl⟩, _, _, rfl, ⟨n9, rfl, w9⟩, rfl⟩, _, _, rfl, hr, rfl⟩ := h
  have r1 : 0 ≤ n1 ∧ n1 ≤ 255 := by exact rng_u8 w1
  have r2 : 0 ≤ n2 ∧ n2 < 4294967296 := by exact rng_u32 w2
  have r3 : 0 ≤ n3 ∧ n3 ≤ 255 := by exact rng_u8 w3
  have r4 : i64R n4 := by exact rng_i64 w4
  have r5 : i64R n5 := by exact rng_i64 w5
  have r6 : 0 ≤ n6 ∧ n6 ≤ 255 := by exact rng_u8 w6
  have r7 : 0 ≤ n7 ∧ n7 < 4294967296 := by exact rng_u32 w7
  have r8 : 0 ≤ n8 ∧ n8 ≤ 255 := by exact rng_u8 w8
  have r9 : i64R n9 := by exact rng_i64 w9
  obtain ⟨ra, l, e, hs, hi⟩ := of_runes (r := _) (by simp only [Is]; exact hr)
  subst e
  exact ⟨⟨⟨⟨⟨⟨n1, n2⟩, n3⟩, n4⟩, n5⟩, ⟨⟨⟨n6, n7⟩, n8⟩, n9⟩, l⟩, ra, rfl, hs, ⟨⟨⟨⟨r1.1, r1.2, r2.1, r2.2⟩, r3⟩, r4⟩, r5⟩, ⟨⟨⟨r6.1, r6.2, r7.1, r7.2⟩, r8⟩, r9⟩, hi⟩
end Go.Proofs.Ytbomjpdheibmfaa
