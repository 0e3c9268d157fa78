/-
  slices.Insert, in this program.
-/
import Derived.Test.YtimimdjpmcmpnaaRows
import Derived.Test.YtimimdjpmcmpnaaEf
import Derived.KernelRfl
set_option linter.unusedSimpArgs false
set_option linter.unusedVariables false
namespace Go.Proofs.Ytimimdjpmcmpnaa
open Go.Ax

theorem ovlOK : OvlOK Try.prog :=
  ovlOK_of (g := 72) (tS := 44) (tR := 4) (by kernel_rfl) Try.func72 (by kernel_rfl) (by kernel_rfl) (by kernel_rfl) (by kernel_rfl) (by kernel_rfl)

theorem insO : InsO (pursAt Try.prog 39) 3 4 :=
  ⟨by kernel_rfl, by kernel_rfl, by kernel_rfl, by kernel_rfl, by kernel_rfl, by kernel_rfl, by kernel_rfl, by kernel_rfl, by kernel_rfl, by kernel_rfl, by kernel_rfl⟩

theorem insProg : InsProg Try.prog :=
  insProg_of (g := 39) (t0 := 44) (e0 := 60) (ti0 := (Try.prog.info? 60).getD default) (O := pursAt Try.prog 39) (g' := 73)
    (z := (zeroOf Try.prog 60).getD default) (tint := 3) (tb := 4) (by kernel_rfl) Try.func39 (by kernel_rfl) (by kernel_rfl) (by kernel_rfl) (by kernel_rfl) (by kernel_rfl) insO (by kernel_rfl) (by kernel_rfl) (by kernel_rfl)

theorem insOK : InsOK Glob.any Try.prog := insOK_of ovlOK insProg
end Go.Proofs.Ytimimdjpmcmpnaa
