/-
  slices.Insert, in this program.
-/
import Derived.Test.YtonejapgmaofdaaRows
import Derived.Test.YtonejapgmaofdaaEe
namespace Go.Proofs.Ytonejapgmaofdaa
open Go.Ax

theorem ovlOK : OvlOK Try.prog :=
  ovlOK_of (g := 43) (tS := 22) (tR := 4) (by kernel_rfl) Try.func43 (by kernel_rfl) (by kernel_rfl) (by kernel_rfl) (by kernel_rfl) (by kernel_rfl)

theorem insO : InsO (pursAt Try.prog 20) 3 4 :=
  ⟨by kernel_rfl, by kernel_rfl, by kernel_rfl, by kernel_rfl, by kernel_rfl, by kernel_rfl, by kernel_rfl, by kernel_rfl, by kernel_rfl, by kernel_rfl, by kernel_rfl⟩

theorem insProg : InsProg Try.prog :=
  insProg_of (g := 20) (t0 := 22) (e0 := 36) (ti0 := (Try.prog.info? 36).getD default) (O := pursAt Try.prog 20) (g' := 44)
    (z := (zeroOf Try.prog 36).getD default) (tint := 3) (tb := 4) (by kernel_rfl) Try.func20 (by kernel_rfl) (by kernel_rfl) (by kernel_rfl) (by kernel_rfl) (by kernel_rfl) insO (by kernel_rfl) (by kernel_rfl) (by kernel_rfl)

theorem insOK : InsOK Try.prog := insOK_of ovlOK insProg
end Go.Proofs.Ytonejapgmaofdaa
