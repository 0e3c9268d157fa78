/-
  A closed function's run, in parts: alive.
-/
import Derived.Test.YtipmhbfneciojaaGreatIn
import Derived.Test.YtipmhbfneciojaaGreatViewTb
set_option linter.unusedVariables false
namespace Go.Proofs.YtipmhbfneciojaaGreat.alive
open Go.Ax

def t1 : List AV := [aF, aD, aD, aD, aD, aD, aD, aD, aD, aD, aD, aD, aD, aD, aD, aD, aD, aD, aD, aD, aD, aD, aD, aD, aD, aD, aD, aD, aD, aD, aD, aD, aD, aD, aD, aD, aD, aD, aD, aD, aD, aD, aD, aD, aD, aD, aD, aD, aD, aD, aD]
def N1 : Mem := ⟨tN, 0, 0, false⟩
def rho1 : T Nat := tN
def rl1 : List Nat := []
def t2 : List AV := [aF, .sl 3 0 3 none 5, aI 0, aD, aD, aD, aD, .tup [.sl 3 0 3 none 5, aI 0], .sl 2 0 3 (some 3) 17, .agg [aB 1, aU 0], .tup [.sl 3 0 3 none 5, aI 0], .sl 3 0 3 none 5, aI 0, aD, aD, aD, aD, aD, aD, aD, aD, aD, aD, aD, aD, aD, aD, aD, aD, aD, aD, aD, aD, aD, aD, aD, aD, aD, aD, aD, aD, aD, aD, aD, aD, aD, aD, aD, aD, aD, aD]
def N2 : Mem := ⟨(tD (oR false [aR 97, aR 98, aR 99]) (tD (oR false [aR 100]) (tD (oR false [aB 1, aU 0, aB 0, aI 1, .sc (.int .i32 (.negSucc 0)), aB 1, aU 0, aB 0, aI 2, aR 98, aB 1, aU 0, aB 0, aI 3, aR 99]) tN tN) tN) (tD (oR false [aB 1, aB 1, aU 0, aB 0, aI 1, aB 1, aU 0, aB 0, aI 1, aI 3, aB 0, aU 0, aB 0, aI 0, aB 0, aU 0, .sl 0 0 3 (some 3) 1, aB 1, aB 2, aU 0, aB 0, aI 1, aB 2, aU 0, aB 0, aI 5, aI 1, aB 1, aU 0, aB 0, aI 2, aB 0, aU 0, .sl 1 0 1 (some 1) 1, aB 3, aB 1, aU 0, aB 0, aI 2, aB 1, aU 0, aB 0, aI 1, aI 1, aB 0, aU 0, aB 0, aI 0, aB 2, aU 0, aN]) tN tN)), 4, 0, false⟩
def rho2 : T Nat := (tD (2) (tD (7) (tD (1777) tN tN) tN) (tD (13) tN tN))
def rl2 : List Nat := [2, 7, 13, 1777]
def t3 : List AV := [aF, .sl 3 0 3 none 5, aI 0, .sl 7 0 4 none 5, aI 0, aD, aD, .tup [.sl 3 0 3 none 5, aI 0], .sl 2 0 3 (some 3) 17, .agg [aB 1, aU 0], .tup [.sl 3 0 3 none 5, aI 0], .sl 3 0 3 none 5, aI 0, .tup [.sl 7 0 4 none 5, aI 0], .sl 6 0 3 (some 3) 17, .agg [aB 2, aU 0], .tup [.sl 7 0 4 none 5, aI 0], .sl 7 0 4 none 5, aI 0, aD, aD, aD, aD, aD, aD, aD, aD, aD, aD, aD, aD, aD, aD, aD, aD, aD, aD, aD, aD, aD, aD, aD, aD, aD, aD, aD, aD, aD, aD, aD, aD]
def N3 : Mem := ⟨(tD (oR false [aR 97, aR 98, aR 99]) (tD (oR false [aR 100]) (tD (oR false [aB 1, aU 0, aB 0, aI 1, .sc (.int .i32 (.negSucc 0)), aB 1, aU 0, aB 0, aI 2, aR 98, aB 1, aU 0, aB 0, aI 3, aR 99]) (tD (oR false [aB 1, aU 0, aB 0, aI 1, aR 97, aB 1, aU 0, aB 0, aI 2, aR 98, aB 2, aU 0, aB 0, aI 5, aR 100, aB 1, aU 0, aB 0, aI 3, aR 99]) tN tN) tN) (tD (oR false [aR 100]) tN tN)) (tD (oR false [aB 1, aB 1, aU 0, aB 0, aI 1, aB 1, aU 0, aB 0, aI 1, aI 3, aB 0, aU 0, aB 0, aI 0, aB 0, aU 0, .sl 0 0 3 (some 3) 1, aB 1, aB 2, aU 0, aB 0, aI 1, aB 2, aU 0, aB 0, aI 5, aI 1, aB 1, aU 0, aB 0, aI 2, aB 0, aU 0, .sl 1 0 1 (some 1) 1, aB 3, aB 1, aU 0, aB 0, aI 2, aB 1, aU 0, aB 0, aI 1, aI 1, aB 0, aU 0, aB 0, aI 0, aB 2, aU 0, aN]) (tD (oR false [aR 97, aR 98, aR 99]) tN tN) (tD (oR false [aB 1, aB 1, aU 0, aB 0, aI 1, aB 1, aU 0, aB 0, aI 1, aI 3, aB 0, aU 0, aB 0, aI 0, aB 0, aU 0, .sl 4 0 3 (some 3) 1, aB 1, aB 2, aU 0, aB 0, aI 1, aB 2, aU 0, aB 0, aI 5, aI 1, aB 1, aU 0, aB 0, aI 2, aB 0, aU 0, .sl 5 0 1 (some 1) 1, aB 3, aB 1, aU 0, aB 0, aI 2, aB 1, aU 0, aB 0, aI 1, aI 1, aB 0, aU 0, aB 0, aI 0, aB 2, aU 0, aN]) tN tN))), 8, 0, false⟩
def rho3 : T Nat := (tD (0) (tD (1) (tD (3) (tD (3120) tN tN) tN) (tD (11) tN tN)) (tD (2) (tD (6) tN tN) (tD (17) tN tN)))
def rl3 : List Nat := [0, 1, 2, 3, 6, 11, 17, 3120]
def tab : List Nat := []
theorem htab : ∀ g ∈ tab, TrueFn Tryz.prog g := fun g hg => by cases hg
def t0 : List AV := List.replicate 51 undefA
theorem s0 : segB Tryz.prog (fsT tbl) tab 20000 200 11 0 1 t0 mem0 (chkAll 0 rho1 t1 N1 rl1) = true := by kernel_rfl
theorem s1 : segB Tryz.prog (fsT tbl) tab 20000 200 11 1 1 t1 N1 (chkAll 4 rho2 t2 N2 rl2) = true := by kernel_rfl
theorem s2 : segB Tryz.prog (fsT tbl) tab 20000 200 11 2 1 t2 N2 (chkAll 8 rho3 t3 N3 rl3) = true := by kernel_rfl
theorem fin : finB Tryz.prog (fsT tbl) tab 20000 200 11 3 t3 N3 = true := by kernel_rfl
theorem d3 : Done Tryz.prog 11 3 t3 N3 := fin_ok insOK tabOK htab fin
theorem d2 : Done Tryz.prog 11 2 t2 N2 := seg_ok insOK tabOK htab s2 rfl d3
theorem d1 : Done Tryz.prog 11 1 t1 N1 := seg_ok insOK tabOK htab s1 rfl d2
theorem d0 : Done Tryz.prog 11 0 t0 mem0 := seg_ok insOK tabOK htab s0 rfl d1
theorem is_true : TrueFn Tryz.prog 11 := true_of_done (by kernel_rfl) (by kernel_rfl) d0
end Go.Proofs.YtipmhbfneciojaaGreat.alive
