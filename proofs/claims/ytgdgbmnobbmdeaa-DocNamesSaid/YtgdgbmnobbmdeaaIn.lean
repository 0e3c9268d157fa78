/-
  slices.Insert, in this program.
-/
import Derived.Test.YtgdgbmnobbmdeaaRows
import Derived.Test.YtgdgbmnobbmdeaaEe
namespace Go.Proofs.Ytgdgbmnobbmdeaa
open Go.Ax

theorem ovlOK : OvlOK Try.prog :=
  ovlOK_of (g := 84) (tS := 59) (tR := 4) (by kernel_rfl) Try.func84 (by kernel_rfl) (by kernel_rfl) (by kernel_rfl) (by kernel_rfl) (by kernel_rfl)

theorem insO : InsO (pursAt Try.prog 63) 3 4 :=
  ⟨by kernel_rfl, by kernel_rfl, by kernel_rfl, by kernel_rfl, by kernel_rfl, by kernel_rfl, by kernel_rfl, by kernel_rfl, by kernel_rfl, by kernel_rfl, by kernel_rfl⟩

theorem insProg : InsProg Try.prog :=
  insProg_of (g := 63) (t0 := 59) (e0 := 82) (ti0 := (Try.prog.info? 82).getD default) (O := pursAt Try.prog 63) (g' := 85)
    (z := (zeroOf Try.prog 82).getD default) (tint := 3) (tb := 4) (by kernel_rfl) Try.func63 (by kernel_rfl) (by kernel_rfl) (by kernel_rfl) (by kernel_rfl) (by kernel_rfl) insO (by kernel_rfl) (by kernel_rfl) (by kernel_rfl)

theorem insOK : InsOK Try.prog := insOK_of ovlOK insProg
end Go.Proofs.Ytgdgbmnobbmdeaa
