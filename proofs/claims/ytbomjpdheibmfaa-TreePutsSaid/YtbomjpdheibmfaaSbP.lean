/-
  Ids as keys of maps.
-/
import Derived.Test.YtbomjpdheibmfaaSaB
import Derived.Test.YtbomjpdheibmfaaEf
set_option linter.unusedSimpArgs false
set_option linter.unusedVariables false
set_option maxRecDepth 100000
namespace Go.Proofs.Ytbomjpdheibmfaa
open Go Go.Ax
variable {fuel : Nat} {M : Mem} {Q : AV → Mem → Prop} {d : Nat} {x : Eid} {l : List Op}
def idV (x : Eid) : List Value := [.int .u8 x.hd.lb.lv, .int .u32 x.hd.lb.cats, .int .u8 x.hd.num, .int .i64 x.c]
theorem idV_is (x : Eid) : PT.iss [.st [.st [.int .u8, .int .u32], .int .u8], .int .i64] (idV x) := by
  simp only [PT.iss, PT.is]
  exact ⟨[.int .u8 x.hd.lb.lv, .int .u32 x.hd.lb.cats, .int .u8 x.hd.num], [.int .i64 x.c], rfl, ⟨[.int .u8 x.hd.lb.lv, .int .u32 x.hd.lb.cats], [.int .u8 x.hd.num], rfl, ⟨[.int .u8 x.hd.lb.lv], [.int .u32 x.hd.lb.cats], rfl, ⟨_, rfl⟩, ⟨[.int .u32 x.hd.lb.cats], [], rfl, ⟨_, rfl⟩, rfl⟩⟩, ⟨[.int .u8 x.hd.num], [], rfl, ⟨_, rfl⟩, rfl⟩⟩, ⟨[.int .i64 x.c], [], rfl, ⟨_, rfl⟩, rfl⟩⟩
theorem idV_inj (x y : Eid) : idV x = idV y ↔ x = y := by
  obtain ⟨⟨⟨a, b⟩, c⟩, e⟩ := x
  obtain ⟨⟨⟨a', b'⟩, c'⟩, e'⟩ := y
  simp [idV, and_assoc]
theorem id_ck (b : Bool) (n1 n2 n3 n4 : Int) : (pureRun Try.prog (Instr.checkKey b 10000 29 (.agg #[.int .u8 n1, .int .u32 n2, .int .u8 n3, .int .i64 n4]))).isSome = true := by
  cases b <;> kernel_rfl
def idKey : KeyT Try.prog 29 idA where
  val x := .agg (idV x).toArray
  hval x := rfl
  ck b x := id_ck b _ _ _ _
  eq x y := by
    obtain ⟨r, h1, h2⟩ := PT.eq (P := Try.prog) (.st [.st [.st [.int .u8, .int .u32], .int .u8], .int .i64]) 29 10000 (by kernel_rfl) (by decide) (xs := idV x) (ys := idV y) (by simpa only [PT.is] using idV_is x) (by simpa only [PT.is] using idV_is y)
    have e : r = decide (x = y) := by
      rw [Bool.eq_iff_iff, h2, idV_inj]
      simp
    rw [← e]
    exact h1
  same x := by simp [Instr.sameBits, idV]
end Go.Proofs.Ytbomjpdheibmfaa
