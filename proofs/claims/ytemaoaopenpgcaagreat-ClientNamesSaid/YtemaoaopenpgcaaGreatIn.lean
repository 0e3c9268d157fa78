/-
  slices.Insert, in this program.
-/
import Derived.Test.YtemaoaopenpgcaaGreatRows
import Derived.Test.YtemaoaopenpgcaaGreatEg
import Derived.KernelRfl
set_option linter.unusedSimpArgs false
set_option linter.unusedVariables false
namespace Go.Proofs.YtemaoaopenpgcaaGreat
open Go.Ax

theorem ovlOK : zIN Tryz.prog :=
  zN8 (g := 239) (tS := 149) (tR := 4) (by kernel_rfl) Tryz.func239 (by kernel_rfl) (by kernel_rfl) (by kernel_rfl) (by kernel_rfl) (by kernel_rfl)

theorem insFn : InsO (zO9 Tryz.prog 187) 3 4 :=
  ⟨by kernel_rfl, by kernel_rfl, by kernel_rfl, by kernel_rfl, by kernel_rfl, by kernel_rfl, by kernel_rfl, by kernel_rfl, by kernel_rfl, by kernel_rfl, by kernel_rfl⟩

theorem zP2 : zFB Tryz.prog :=
  zJ0 (g := 187) (t0 := 149) (e0 := 205) (ti0 := (Tryz.prog.info? 205).getD default) (O := zO9 Tryz.prog 187) (g' := 240)
    (z := (zeroOf Tryz.prog 205).getD default) (tint := 3) (tb := 4) (by kernel_rfl) Tryz.func187 (by kernel_rfl) (by kernel_rfl) (by kernel_rfl) (by kernel_rfl) (by kernel_rfl) insFn (by kernel_rfl) (by kernel_rfl) (by kernel_rfl)

theorem insOK : zG2 Glob.any Tryz.prog := zMO ovlOK zP2
end Go.Proofs.YtemaoaopenpgcaaGreat
