/-
  slices.Insert, in this program.
-/
import Derived.Test.YtipmhbfneciojaaGreatRows
import Derived.Test.YtipmhbfneciojaaGreatEe
namespace Go.Proofs.YtipmhbfneciojaaGreat
open Go.Ax

theorem ovlOK : OvlOK Tryz.prog :=
  ovlOK_of (g := 75) (tS := 60) (tR := 4) (by kernel_rfl) Tryz.func75 (by kernel_rfl) (by kernel_rfl) (by kernel_rfl) (by kernel_rfl) (by kernel_rfl)

theorem insO : InsO (pursAt Tryz.prog 54) 3 4 :=
  ⟨by kernel_rfl, by kernel_rfl, by kernel_rfl, by kernel_rfl, by kernel_rfl, by kernel_rfl, by kernel_rfl, by kernel_rfl, by kernel_rfl, by kernel_rfl, by kernel_rfl⟩

theorem insProg : InsProg Tryz.prog :=
  insProg_of (g := 54) (t0 := 60) (e0 := 78) (ti0 := (Tryz.prog.info? 78).getD default) (O := pursAt Tryz.prog 54) (g' := 76)
    (z := (zeroOf Tryz.prog 78).getD default) (tint := 3) (tb := 4) (by kernel_rfl) Tryz.func54 (by kernel_rfl) (by kernel_rfl) (by kernel_rfl) (by kernel_rfl) (by kernel_rfl) insO (by kernel_rfl) (by kernel_rfl) (by kernel_rfl)

theorem insOK : InsOK Tryz.prog := insOK_of ovlOK insProg
end Go.Proofs.YtipmhbfneciojaaGreat
