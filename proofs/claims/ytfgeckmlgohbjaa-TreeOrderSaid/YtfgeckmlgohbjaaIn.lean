/-
  slices.Insert, in this program.
-/
import Derived.Test.YtfgeckmlgohbjaaRows
import Derived.Test.YtfgeckmlgohbjaaEf
import Derived.KernelRfl
set_option linter.unusedSimpArgs false
set_option linter.unusedVariables false
namespace Go.Proofs.Ytfgeckmlgohbjaa
open Go.Ax

theorem ovlOK : OvlOK Try.prog :=
  ovlOK_of (g := 39) (tS := 22) (tR := 4) (by kernel_rfl) Try.func39 (by kernel_rfl) (by kernel_rfl) (by kernel_rfl) (by kernel_rfl) (by kernel_rfl)

theorem insO : InsO (pursAt Try.prog 19) 3 4 :=
  ⟨by kernel_rfl, by kernel_rfl, by kernel_rfl, by kernel_rfl, by kernel_rfl, by kernel_rfl, by kernel_rfl, by kernel_rfl, by kernel_rfl, by kernel_rfl, by kernel_rfl⟩

theorem insProg : InsProg Try.prog :=
  insProg_of (g := 19) (t0 := 22) (e0 := 39) (ti0 := (Try.prog.info? 39).getD default) (O := pursAt Try.prog 19) (g' := 40)
    (z := (zeroOf Try.prog 39).getD default) (tint := 3) (tb := 4) (by kernel_rfl) Try.func19 (by kernel_rfl) (by kernel_rfl) (by kernel_rfl) (by kernel_rfl) (by kernel_rfl) insO (by kernel_rfl) (by kernel_rfl) (by kernel_rfl)

theorem insOK : InsOK Glob.any Try.prog := insOK_of ovlOK insProg
end Go.Proofs.Ytfgeckmlgohbjaa
