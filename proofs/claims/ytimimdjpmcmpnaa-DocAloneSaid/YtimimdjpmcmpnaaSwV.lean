/-
  What arguments read as: labels, operations, rows of numbers.
-/
import Derived.Test.YtimimdjpmcmpnaaSaA
import Derived.Test.YtimimdjpmcmpnaaEf
set_option linter.unusedSimpArgs false
set_option linter.unusedVariables false
set_option maxRecDepth 100000
namespace Go.Proofs.Ytimimdjpmcmpnaa
open Go Go.Ax

abbrev gLb : GT := .ag [.int .u8, .int .u32]
abbrev gHd : GT := .ag [gLb, .int .u8]
abbrev gId : GT := .ag [gHd, .int .i64]
abbrev gSp : GT := .ag [gId, .int .i64]
abbrev gOp : GT := .ag [.int .u8, gHd, .int .i64, gSp, gId, gLb, .sl (.int .i32)]
theorem rng_u8 {n : Int} (h : (Lit.int .u8 n).wf = true) : 0 ≤ n ∧ n ≤ 255 := by
  simp [Lit.wf, IntKind.min, IntKind.max, IntKind.signed, IntKind.bits] at h
  omega
theorem rng_u32 {n : Int} (h : (Lit.int .u32 n).wf = true) : 0 ≤ n ∧ n < 4294967296 := by
  simp [Lit.wf, IntKind.min, IntKind.max, IntKind.signed, IntKind.bits] at h
  omega
theorem rng_i64 {n : Int} (h : (Lit.int .i64 n).wf = true) : i64R n := by
  simp [Lit.wf, IntKind.min, IntKind.max, IntKind.signed, IntKind.bits] at h
  unfold i64R
  omega
def isI32r (r : List AV) (x : Int) : Prop := isI32 r x ∧ (-2147483648 ≤ x ∧ x ≤ 2147483647)
theorem of_i32 (r : List AV) (h : Is (.int .i32) r) : ∃ x, isI32r r x := by
  simp only [Is] at h
  obtain ⟨n, rfl, hw⟩ := h
  refine ⟨n, rfl, ?_⟩
  simp [Lit.wf, IntKind.min, IntKind.max, IntKind.signed, IntKind.bits] at hw
  omega
theorem all2_i32 : ∀ {rows : List (List AV)} {l : List Int}, All2 isI32r rows l → All2 isI32 rows l ∧ i32s l
  | _, _, .nil => ⟨.nil, fun x h => by cases h⟩
  | _, _, .cons a t => by
    obtain ⟨h1, h2⟩ := all2_i32 t
    refine ⟨.cons a.1 h1, fun x h => ?_⟩
    rcases List.mem_cons.1 h with rfl | h
    · exact a.2
    · exact h2 x h
theorem sl_i32 {a : AV} {l : List Int} (h : Sl 1 isI32r a l) : Sl 1 isI32 a l ∧ i32s l := by
  rcases h with ⟨rfl, rfl⟩ | ⟨rows, cap, rfl, hA, hr⟩
  · exact ⟨.inl ⟨rfl, rfl⟩, fun x h => by cases h⟩
  · obtain ⟨h1, h2⟩ := all2_i32 hA
    exact ⟨.inr ⟨rows, cap, rfl, h1, hr⟩, h2⟩
theorem of_runes {r : List AV} (h : Is (.sl (.int .i32)) r) : ∃ a l, r = [a] ∧ Sl 1 isI32 a l ∧ i32s l := by
  obtain ⟨a, l, e, hs⟩ := Is.slice of_i32 h
  obtain ⟨h1, h2⟩ := sl_i32 hs
  exact ⟨a, l, e, h1, h2⟩
theorem of_lb (r : List AV) (h : Is gLb r) : ∃ x, isLb r x := by
  simp only [gLb, Is, IsL] at h
  obtain ⟨_, _, rfl, ⟨n1, rfl, w1⟩, _, _, rfl, ⟨n2, rfl, w2⟩, rfl⟩ := h
  exact ⟨⟨n1, n2⟩, rfl, (rng_u8 w1).1, (rng_u8 w1).2, (rng_u32 w2).1, (rng_u32 w2).2⟩
theorem of_op (r : List AV) (h : Is gOp r) : ∃ x, isOp r x := by
  simp only [gOp, gSp, gId, gHd, gLb, Is, IsL] at h
  obtain ⟨_, _, rfl, ⟨n1, rfl, w1⟩, _, _, rfl, ⟨_, _, rfl, ⟨_, _, rfl, ⟨n2, rfl, w2⟩, _, _, rfl, ⟨n3, rfl, w3⟩, rfl⟩, _, _, rfl, ⟨n4, rfl, w4⟩, rfl⟩, _, _, rfl, ⟨n5, rfl, w5⟩, _, _, rfl, ⟨_, _, rfl, ⟨_, _, rfl, ⟨_, _, rfl, ⟨_, _, rfl, ⟨n6, rfl, w6⟩, _, _, rfl, ⟨n7, rfl, w7⟩, rfl⟩, _, _, rfl, ⟨n8, rfl, w8⟩, rfl⟩, _, _, rfl, ⟨n9, rfl, w9⟩, rfl⟩, _, _, rfl, ⟨n10, rfl, w10⟩, rfl⟩, _, _, rfl, ⟨_, _, rfl, ⟨_, _, rfl, ⟨_, _, rfl, ⟨n11, rfl, w11⟩, _, _, rfl, ⟨n12, rfl, w12⟩, rfl⟩, _, _, rfl, ⟨n13, rfl, w13⟩, rfl⟩, _, _, rfl, ⟨n14, rfl, w14⟩, rfl⟩, _, _, rfl, ⟨_, _, rfl, ⟨n15, rfl, w15⟩, _, _, rfl, ⟨n16, rfl, w16⟩, rfl⟩, _, _, rfl, hr, rfl⟩ := h
  have r1 : 0 ≤ n1 ∧ n1 ≤ 255 := by exact rng_u8 w1
  have r2 : 0 ≤ n2 ∧ n2 ≤ 255 := by exact rng_u8 w2
  have r3 : 0 ≤ n3 ∧ n3 < 4294967296 := by exact rng_u32 w3
  have r4 : 0 ≤ n4 ∧ n4 ≤ 255 := by exact rng_u8 w4
  have r5 : i64R n5 := by exact rng_i64 w5
  have r6 : 0 ≤ n6 ∧ n6 ≤ 255 := by exact rng_u8 w6
  have r7 : 0 ≤ n7 ∧ n7 < 4294967296 := by exact rng_u32 w7
  have r8 : 0 ≤ n8 ∧ n8 ≤ 255 := by exact rng_u8 w8
  have r9 : i64R n9 := by exact rng_i64 w9
  have r10 : i64R n10 := by exact rng_i64 w10
  have r11 : 0 ≤ n11 ∧ n11 ≤ 255 := by exact rng_u8 w11
  have r12 : 0 ≤ n12 ∧ n12 < 4294967296 := by exact rng_u32 w12
  have r13 : 0 ≤ n13 ∧ n13 ≤ 255 := by exact rng_u8 w13
  have r14 : i64R n14 := by exact rng_i64 w14
  have r15 : 0 ≤ n15 ∧ n15 ≤ 255 := by exact rng_u8 w15
  have r16 : 0 ≤ n16 ∧ n16 < 4294967296 := by exact rng_u32 w16
  obtain ⟨ra, l, e, hs, hi⟩ := of_runes (r := _) (by simp only [Is]; exact hr)
  subst e
  exact ⟨⟨n1, ⟨⟨n2, n3⟩, n4⟩, n5, ⟨⟨⟨⟨n6, n7⟩, n8⟩, n9⟩, n10⟩, ⟨⟨⟨n11, n12⟩, n13⟩, n14⟩, ⟨n15, n16⟩, l⟩, ra, rfl, hs, r1, ⟨⟨r2.1, r2.2, r3.1, r3.2⟩, r4⟩, r5, ⟨⟨⟨⟨r6.1, r6.2, r7.1, r7.2⟩, r8⟩, r9⟩, r10⟩, ⟨⟨⟨r11.1, r11.2, r12.1, r12.2⟩, r13⟩, r14⟩, ⟨r15.1, r15.2, r16.1, r16.2⟩, hi⟩
end Go.Proofs.Ytimimdjpmcmpnaa
