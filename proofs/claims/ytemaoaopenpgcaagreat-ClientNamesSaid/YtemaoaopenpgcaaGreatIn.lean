/-
  slices.Insert, in this program.
-/
import Derived.Test.YtemaoaopenpgcaaGreatRows
import Derived.Test.YtemaoaopenpgcaaGreatEg
import Derived.KernelRfl
set_option linter.unusedSimpArgs false
set_option linter.unusedVariables false
namespace Go.Proofs.YtemaoaopenpgcaaGreat
open Go.Ax

theorem ovlOK : zIP Tryz.prog :=
  zND (g := 239) (tS := 149) (tR := 4) (by kernel_rfl) Tryz.func239 (by kernel_rfl) (by kernel_rfl) (by kernel_rfl) (by kernel_rfl) (by kernel_rfl)

theorem insFn : InsO (zOD Tryz.prog 187) 3 4 :=
  ⟨by kernel_rfl, by kernel_rfl, by kernel_rfl, by kernel_rfl, by kernel_rfl, by kernel_rfl, by kernel_rfl, by kernel_rfl, by kernel_rfl, by kernel_rfl, by kernel_rfl⟩

theorem zP5 : zFF Tryz.prog :=
  zJ2 (g := 187) (t0 := 149) (e0 := 205) (ti0 := (Tryz.prog.info? 205).getD default) (O := zOD Tryz.prog 187) (g' := 240)
    (z := (zeroOf Tryz.prog 205).getD default) (tint := 3) (tb := 4) (by kernel_rfl) Tryz.func187 (by kernel_rfl) (by kernel_rfl) (by kernel_rfl) (by kernel_rfl) (by kernel_rfl) insFn (by kernel_rfl) (by kernel_rfl) (by kernel_rfl)

theorem insOK : zG6 Glob.any Tryz.prog := zMT ovlOK zP5
end Go.Proofs.YtemaoaopenpgcaaGreat
