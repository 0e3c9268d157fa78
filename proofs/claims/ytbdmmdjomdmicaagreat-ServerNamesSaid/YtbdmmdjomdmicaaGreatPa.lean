/-
  Texts joined: Tc SvN.
-/
import Derived.Test.YtbdmmdjomdmicaaGreatTb
import Derived.Test.YtbdmmdjomdmicaaGreatMpA
import Derived.KernelRfl
import Derived.Test.YtbdmmdjomdmicaaGreatYsV
import Derived.Test.YtbdmmdjomdmicaaGreatEg
set_option linter.unusedSimpArgs false
set_option linter.unusedVariables false
set_option maxRecDepth 100000
namespace Go.Proofs.YtbdmmdjomdmicaaGreat
open Go Go.Ax
theorem tbl_0:(((tbl.map noX).drop (0*100)).take 100).map clr=msk (((tbl.map noX).drop (0*100)).take 100) (zAV Tryz.prog 100 (0+0*100)):=by kernel_rfl
theorem tbl_1:(((tbl.map noX).drop (1*100)).take 100).map clr=msk (((tbl.map noX).drop (1*100)).take 100) (zAV Tryz.prog 100 (0+1*100)):=by kernel_rfl
theorem tbl_2:(((tbl.map noX).drop (2*100)).take 100).map clr=msk (((tbl.map noX).drop (2*100)).take 100) (zAV Tryz.prog 100 (0+2*100)):=by kernel_rfl
theorem tbl_3:(((tbl.map noX).drop (3*100)).take 100).map clr=msk (((tbl.map noX).drop (3*100)).take 100) (zAV Tryz.prog 100 (0+3*100)):=by kernel_rfl
theorem zS8:(tbl.map noX).map clr=msk (tbl.map noX) (zAV Tryz.prog (4*100) 0):=zGH 4 0 _ (zKH tbl_0 tbl_1 tbl_2 tbl_3) (Nat.le_of_ble_eq_true (by kernel_rfl))
theorem tabOK:zIJ Glob.any Tryz.prog (fsT tbl):=zNL zS8 (by kernel_rfl)
theorem run_args:zCN 4000000 200 3 [] mem0=some (BL true,mem0):=(root 200 (by decide)).2.2 mem0
end Go.Proofs.YtbdmmdjomdmicaaGreat
