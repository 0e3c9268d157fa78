/-
  slices.Insert, in this program.
-/
import Derived.Test.YtliicocdhkcanaaGreatRows
import Derived.Test.YtliicocdhkcanaaGreatEg
import Derived.KernelRfl
set_option linter.unusedSimpArgs false
set_option linter.unusedVariables false
namespace Go.Proofs.YtliicocdhkcanaaGreat
open Go.Ax

theorem ovlOK : zRZ Tryz.prog :=
  zZV (g := 212) (tS := 109) (tR := 4) (by kernel_rfl) Tryz.func212 (by kernel_rfl) (by kernel_rfl) (by kernel_rfl) (by kernel_rfl) (by kernel_rfl)

theorem insFn : InsO (zbV Tryz.prog 154) 3 4 :=
  ⟨by kernel_rfl, by kernel_rfl, by kernel_rfl, by kernel_rfl, by kernel_rfl, by kernel_rfl, by kernel_rfl, by kernel_rfl, by kernel_rfl, by kernel_rfl, by kernel_rfl⟩

theorem zd8 : zKZ Tryz.prog :=
  zST (g := 154) (t0 := 109) (e0 := 172) (ti0 := (Tryz.prog.info? 172).getD default) (O := zbV Tryz.prog 154) (g' := 213)
    (z := (zeroOf Tryz.prog 172).getD default) (tint := 3) (tb := 4) (by kernel_rfl) Tryz.func154 (by kernel_rfl) (by kernel_rfl) (by kernel_rfl) (by kernel_rfl) (by kernel_rfl) insFn (by kernel_rfl) (by kernel_rfl) (by kernel_rfl)

theorem insOK : zMZ Glob.any Tryz.prog := zYY ovlOK zd8
end Go.Proofs.YtliicocdhkcanaaGreat
