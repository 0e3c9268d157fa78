/-
  A closed function's run, in parts: alive.
-/
import Derived.Test.YthoclaoobjagbaaGreatIn
set_option linter.unusedVariables false
namespace Go.Proofs.YthoclaoobjagbaaGreat.alive
open Go.Ax

def t1 : List AV := [aF, .ptr 0 0, aD, aD, aD, aD, aD, aD, aD, aD, .agg [aB 1, aU 0, aB 0, aI 1], .agg [aB 1, aU 0, aB 0], aD, aD, aD, aD, aD, aD, aD, aD, aD, aD, aD, aD, aD, aD, aD, aD, aD, aD, aD, aD, aD, aD, aD, aD, aD, aD, aD, aD, aD, aD, aD, aD, aD, aD, aD, aD, aD, aD, aD, aD, aD, aD, aD, aD, aD, aD, aD, aD, aD, aD, aD, aD, aD, aD, aD, aD, aD, aD, aD, aD]
def N1 : Mem := ⟨(tD (oR false [aB 1, aU 0, aB 0]) tN tN), 1, 0, false⟩
def rho1 : T Nat := (tD (1) tN tN)
def rl1 : List Nat := [1]
def t2 : List AV := [aF, .ptr 0 0, .ptr 4 0, aI 0, aD, aD, aD, aD, aD, aD, .agg [aB 1, aU 0, aB 0, aI 1], .agg [aB 1, aU 0, aB 0], .tup [.agg [aB 1, aB 1, aU 0, aB 0, aI 5, aB 1, aU 0, aB 0, aI 4, aI 2, aB 1, aU 0, aB 0, aI 1, aB 0, aU 0, .sl 3 0 2 none 1], aI 0], .sl 2 0 1 (some 1) 17, .agg [aB 1, aU 0, aB 0], .tup [.agg [aB 1, aB 1, aU 0, aB 0, aI 5, aB 1, aU 0, aB 0, aI 4, aI 2, aB 1, aU 0, aB 0, aI 1, aB 0, aU 0, .sl 3 0 2 none 1], aI 0], .agg [aB 1, aB 1, aU 0, aB 0, aI 5, aB 1, aU 0, aB 0, aI 4, aI 2, aB 1, aU 0, aB 0, aI 1, aB 0, aU 0, .sl 3 0 2 none 1], aI 0, aD, aD, aD, aD, aD, aD, aD, aD, aD, aD, aD, aD, aD, aD, aD, aD, aD, aD, aD, aD, aD, aD, aD, aD, aD, aD, aD, aD, aD, aD, aD, aD, aD, aD, aD, aD, aD, aD, aD, aD, aD, aD, aD, aD, aD, aD, aD, aD, aD, aD, aD, aD, aD, aD]
def N2 : Mem := ⟨(tD (oR false [aB 1, aU 0, aB 0]) (tD (oR false [aR 97, aR 98, aR 99]) (tD (oR false [aR 120, aR 121]) tN tN) tN) (tD (oR false [aB 1, aB 1, aU 0, aB 0, aI 1, aB 1, aU 0, aB 0, aI 1, aI 3, aB 0, aU 0, aB 0, aI 0, aB 0, aU 0, .sl 1 0 3 (some 3) 1]) (tD (oR false [aB 1, aB 1, aU 0, aB 0, aI 5, aB 1, aU 0, aB 0, aI 4, aI 2, aB 1, aU 0, aB 0, aI 1, aB 0, aU 0, .sl 3 0 2 none 1]) tN tN) tN)), 5, 0, false⟩
def rho2 : T Nat := (tD (0) (tD (3) (tD (133) tN tN) tN) (tD (4) (tD (1368) tN tN) tN))
def rl2 : List Nat := [0, 3, 4, 133, 1368]
def t3 : List AV := [aF, .ptr 0 0, .ptr 4 0, aI 0, .sl 7 0 1 none 17, aI 0, aD, aD, aD, aD, .agg [aB 1, aU 0, aB 0, aI 1], .agg [aB 1, aU 0, aB 0], .tup [.agg [aB 1, aB 1, aU 0, aB 0, aI 5, aB 1, aU 0, aB 0, aI 4, aI 2, aB 1, aU 0, aB 0, aI 1, aB 0, aU 0, .sl 3 0 2 none 1], aI 0], .sl 2 0 1 (some 1) 17, .agg [aB 1, aU 0, aB 0], .tup [.agg [aB 1, aB 1, aU 0, aB 0, aI 5, aB 1, aU 0, aB 0, aI 4, aI 2, aB 1, aU 0, aB 0, aI 1, aB 0, aU 0, .sl 3 0 2 none 1], aI 0], .agg [aB 1, aB 1, aU 0, aB 0, aI 5, aB 1, aU 0, aB 0, aI 4, aI 2, aB 1, aU 0, aB 0, aI 1, aB 0, aU 0, .sl 3 0 2 none 1], aI 0, .tup [.sl 7 0 1 none 17, aI 0], .sl 6 0 1 (some 1) 17, .agg [aB 1, aU 0, aB 0], .tup [.sl 7 0 1 none 17, aI 0], .sl 7 0 1 none 17, aI 0, aD, aD, aD, aD, aD, aD, aD, aD, aD, aD, aD, aD, aD, aD, aD, aD, aD, aD, aD, aD, aD, aD, aD, aD, aD, aD, aD, aD, aD, aD, aD, aD, aD, aD, aD, aD, aD, aD, aD, aD, aD, aD, aD, aD, aD, aD, aD, aD]
def N3 : Mem := ⟨(tD (oR false [aB 1, aU 0, aB 0]) (tD (oR false [aR 97, aR 98, aR 99]) (tD (oR false [aR 120, aR 121]) (tD (oR false [aB 2, aB 1, aU 0, aB 0, aI 5, aB 1, aU 0, aB 0, aI 2, aI 2, aB 0, aU 0, aB 0, aI 0, aB 0, aU 0, aN]) tN tN) tN) (tD (oR false [aR 97, aR 98, aR 99]) tN tN)) (tD (oR false [aB 1, aB 1, aU 0, aB 0, aI 1, aB 1, aU 0, aB 0, aI 1, aI 3, aB 0, aU 0, aB 0, aI 0, aB 0, aU 0, .sl 1 0 3 (some 3) 1]) (tD (oR false [aB 1, aB 1, aU 0, aB 0, aI 5, aB 1, aU 0, aB 0, aI 4, aI 2, aB 1, aU 0, aB 0, aI 1, aB 0, aU 0, .sl 3 0 2 none 1]) tN tN) (tD (oR false [aB 1, aB 1, aU 0, aB 0, aI 1, aB 1, aU 0, aB 0, aI 1, aI 3, aB 0, aU 0, aB 0, aI 0, aB 0, aU 0, .sl 5 0 3 (some 3) 1]) tN tN))), 8, 0, false⟩
def rho3 : T Nat := (tD (0) (tD (1) (tD (3) (tD (1097) tN tN) tN) (tD (7) tN tN)) (tD (2) (tD (4) tN tN) (tD (8) tN tN)))
def rl3 : List Nat := [0, 1, 2, 3, 4, 7, 8, 1097]
def tab : List Nat := []
theorem htab : ∀ g ∈ tab, TrueFn Tryz.prog g := fun g hg => by cases hg
def t0 : List AV := List.replicate 72 undefA
theorem s0 : segB Tryz.prog tab 20000 200 9 0 2 t0 mem0 (chkAll 1 rho1 t1 N1 rl1) = true := by kernel_rfl
theorem s1 : segB Tryz.prog tab 20000 200 9 2 1 t1 N1 (chkAll 5 rho2 t2 N2 rl2) = true := by kernel_rfl
theorem s2 : segB Tryz.prog tab 20000 200 9 3 1 t2 N2 (chkAll 8 rho3 t3 N3 rl3) = true := by kernel_rfl
theorem fin : finB Tryz.prog tab 20000 200 9 4 t3 N3 = true := by kernel_rfl
theorem d3 : Done Tryz.prog 9 4 t3 N3 := fin_ok insOK htab fin
theorem d2 : Done Tryz.prog 9 3 t2 N2 := seg_ok insOK htab s2 rfl d3
theorem d1 : Done Tryz.prog 9 2 t1 N1 := seg_ok insOK htab s1 rfl d2
theorem d0 : Done Tryz.prog 9 0 t0 mem0 := seg_ok insOK htab s0 rfl d1
theorem is_true : TrueFn Tryz.prog 9 := true_of_done (by kernel_rfl) (by kernel_rfl) d0
end Go.Proofs.YthoclaoobjagbaaGreat.alive
