/-
  slices.Insert, in this program.
-/
import Derived.Test.YthoclaoobjagbaaGreatRows
import Derived.Test.YthoclaoobjagbaaGreatEe
namespace Go.Proofs.YthoclaoobjagbaaGreat
open Go.Ax

theorem ovlOK : OvlOK Tryz.prog :=
  ovlOK_of (g := 98) (tS := 70) (tR := 4) (by kernel_rfl) Tryz.func98 (by kernel_rfl) (by kernel_rfl) (by kernel_rfl) (by kernel_rfl) (by kernel_rfl)

theorem insO : InsO (pursAt Tryz.prog 67) 3 4 :=
  ⟨by kernel_rfl, by kernel_rfl, by kernel_rfl, by kernel_rfl, by kernel_rfl, by kernel_rfl, by kernel_rfl, by kernel_rfl, by kernel_rfl, by kernel_rfl, by kernel_rfl⟩

theorem insProg : InsProg Tryz.prog :=
  insProg_of (g := 67) (t0 := 70) (e0 := 88) (ti0 := (Tryz.prog.info? 88).getD default) (O := pursAt Tryz.prog 67) (g' := 99)
    (z := (zeroOf Tryz.prog 88).getD default) (tint := 3) (tb := 4) (by kernel_rfl) Tryz.func67 (by kernel_rfl) (by kernel_rfl) (by kernel_rfl) (by kernel_rfl) (by kernel_rfl) insO (by kernel_rfl) (by kernel_rfl) (by kernel_rfl)

theorem insOK : InsOK Tryz.prog := insOK_of ovlOK insProg
end Go.Proofs.YthoclaoobjagbaaGreat
