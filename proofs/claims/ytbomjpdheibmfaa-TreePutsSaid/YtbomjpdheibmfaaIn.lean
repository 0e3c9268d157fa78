/-
  slices.Insert, in this program.
-/
import Derived.Test.YtbomjpdheibmfaaRows
import Derived.Test.YtbomjpdheibmfaaEf
import Derived.KernelRfl
set_option linter.unusedSimpArgs false
set_option linter.unusedVariables false
namespace Go.Proofs.Ytbomjpdheibmfaa
open Go.Ax
theorem ovlOK : OvlOK Try.prog :=
  ovlOK_of (g := 40) (tS := 22) (tR := 4) (by kernel_rfl) Try.func40 (by kernel_rfl) (by kernel_rfl) (by kernel_rfl) (by kernel_rfl) (by kernel_rfl)
theorem insO : InsO (pursAt Try.prog 21) 3 4 :=
  ⟨by kernel_rfl, by kernel_rfl, by kernel_rfl, by kernel_rfl, by kernel_rfl, by kernel_rfl, by kernel_rfl, by kernel_rfl, by kernel_rfl, by kernel_rfl, by kernel_rfl⟩
theorem insProg : InsProg Try.prog :=
  insProg_of (g := 21) (t0 := 22) (e0 := 34) (ti0 := (Try.prog.info? 34).getD default) (O := pursAt Try.prog 21) (g' := 41)
    (z := (zeroOf Try.prog 34).getD default) (tint := 3) (tb := 4) (by kernel_rfl) Try.func21 (by kernel_rfl) (by kernel_rfl) (by kernel_rfl) (by kernel_rfl) (by kernel_rfl) insO (by kernel_rfl) (by kernel_rfl) (by kernel_rfl)
theorem insOK : InsOK Glob.any Try.prog := insOK_of ovlOK insProg
end Go.Proofs.Ytbomjpdheibmfaa
