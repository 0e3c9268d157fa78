/-
  A closed function's run, in parts: main.
-/
import Derived.Test.YtonejapgmaofdaaTreeAlive
set_option linter.unusedVariables false
namespace Go.Proofs.Ytonejapgmaofdaa.main
open Go.Ax

def t1 : List AV := [aF, .sl 3 0 1 none 10, aT, aN, aI 6, aN, aI 2, aI 0, aI 6, aI 1, aI 0, .ptr 7 0, .sl 14 0 3 none 10, aT, .sl 15 0 1 none 10, aI 0, .ptr 18 0, aD, aD, aD, aD, aD, .tup [.sl 3 0 1 none 10, aT], .agg [aB 1, aU 0, aB 0, aI 1, aI 2, aB 0, aU 0, aB 0, aI 0, .sl 0 0 2 (some 2) 1], .sl 1 0 1 (some 1) 10, .tup [.sl 3 0 1 none 10, aT], .sl 3 0 1 none 10, aT, .tup [aN, aI 6], .sl 3 0 1 none 10, .agg [aB 1, aU 0, aB 0, aI 4, aI 1, aB 1, aU 0, aB 0, aI 3, .sl 4 0 1 (some 1) 1], .tup [aN, aI 6], aN, aI 6, .tup [aN, aI 2], .sl 3 0 1 none 10, .agg [aB 1, aU 0, aB 0, aI 2, aI 1, aB 1, aU 0, aB 0, aI 1, .sl 5 0 1 (some 1) 1], .tup [aN, aI 2], aN, aI 2, .tup [aI 0, aI 6], .sl 3 0 1 none 10, .agg [aB 1, aU 0, aB 0, aI 3], .tup [aI 0, aI 6], aI 0, aI 6, .tup [aI 1, aI 0], .sl 3 0 1 none 10, .agg [aB 1, aU 0, aB 0, aI 2], .tup [aI 1, aI 0], aI 1, aI 0, .agg [aB 1, aU 0, aB 0, aI 4, aI 1, aB 1, aU 0, aB 0, aI 1, .sl 6 0 1 (some 1) 1], .agg [aB 2, aU 0, aB 0, aI 4], .ptr 7 0, .ptr 7 0, .tup [.sl 14 0 3 none 10, aT], .agg [aB 1, aU 0, aB 0, aI 1, aI 1, aB 0, aU 0, aB 0, aI 0, .sl 8 0 1 (some 1) 1], .agg [aB 1, aU 0, aB 0, aI 2, aI 1, aB 1, aU 0, aB 0, aI 1, .sl 9 0 1 (some 1) 1], .agg [aB 2, aU 0, aB 0, aI 4, aI 1, aB 1, aU 0, aB 0, aI 1, .sl 6 0 1 (some 1) 1], .sl 10 0 3 (some 3) 10, .tup [.sl 14 0 3 none 10, aT], .sl 14 0 3 none 10, aT, .tup [.sl 15 0 1 none 10, aI 0], .sl 14 0 3 none 10, .agg [aB 1, aU 0], .tup [.sl 15 0 1 none 10, aI 0], .sl 15 0 1 none 10, aI 0, .agg [aB 0, aU 0, aB 0, aI 0], .ptr 7 5, .agg [aB 1, aU 0, aB 0, aI 5, aI 1, aB 1, aU 0, aB 0, aI 1, .sl 17 0 1 (some 1) 1], .agg [aB 2, aU 0, aB 0, aI 4], .ptr 18 5, aD, aD, aD, aD, aD, aD, aD, aD, aD, aD, aD, aD, aD, aD, aD, aD, aD, aD, aD, aD, aD, aD, aD, aD, aD, aD, aD, aD, aD, aD, aD, aD, aD, aD, aD, aD, aD, aD, aD, aD, aD, aD, aD, aD, aD, aD, aD, aD, aD, aD, aD, aD, aD, aD, aD, aD, aD, aD, aD, aD, aD, aD, aD, aD, aD, aD, aD, aD, aD, aD, aD, aD, aD, aD, aD]
def N1 : Mem := ⟨(tD (oR false [aR 0, aR 0]) (tD (oR false [aB 1, aU 0, aB 0, aI 1, aI 2, aB 0, aU 0, aB 0, aI 0, .sl 0 0 2 (some 2) 1]) (tD (oR false [aB 1, aU 0, aB 0, aI 1, aI 2, aB 0, aU 0, aB 0, aI 0, .sl 2 0 2 none 1]) (tD (oR false [aB 2, aU 0, aB 0, aI 4, aI 1, aB 0, aU 0, aB 0, aI 0, .sl 6 0 1 (some 1) 1]) (tD (oR false [aB 1, aU 0, aB 0, aI 1, aI 2, aB 0, aU 0, aB 0, aI 0, .sl 16 0 2 none 1]) tN tN) tN) (tD (oR false [aR 0]) tN tN)) (tD (oR false [aR 0]) (tD (oR false [aR 0]) (tD (oR false [aR 0]) tN tN) tN) (tD (oR false [aR 0]) tN tN))) (tD (oR false [aR 0, aR 0]) (tD (oR false [aR 0]) (tD (oR false [aR 0]) (tD (oR false [aR 0, aR 0]) tN tN) tN) (tD (oR false [aR 0]) tN tN)) (tD (oR false [aR 0]) (tD (oR false [aB 1, aU 0, aB 0, aI 1, aI 1, aB 0, aU 0, aB 0, aI 0, .sl 8 0 1 (some 1) 1, aB 1, aU 0, aB 0, aI 2, aI 1, aB 1, aU 0, aB 0, aI 1, .sl 9 0 1 (some 1) 1, aB 2, aU 0, aB 0, aI 4, aI 1, aB 1, aU 0, aB 0, aI 1, .sl 6 0 1 (some 1) 1]) (tD (oR false [aB 1, aU 0, aB 0, aI 5, aI 1, aB 2, aU 0, aB 0, aI 4, .sl 17 0 1 (some 1) 1]) tN tN) tN) (tD (oR false [aB 1, aU 0, aB 0, aI 1, aI 1, aB 0, aU 0, aB 0, aI 0, .sl 11 0 1 none 1, aB 2, aU 0, aB 0, aI 4, aI 1, aB 1, aU 0, aB 0, aI 1, .sl 12 0 1 none 1, aB 1, aU 0, aB 0, aI 2, aI 1, aB 1, aU 0, aB 0, aI 1, .sl 13 0 1 none 1]) tN tN)))), 19, 0, false⟩
def rho1 : T Nat := (tD (2) (tD (4) (tD (48) (tD (465) (tD (1168) tN tN) tN) (tD (929) tN tN)) (tD (154) (tD (473) (tD (1276) tN tN) tN) (tD (965) tN tN))) (tD (46) (tD (51) (tD (469) (tD (1226) tN tN) tN) (tD (947) tN tN)) (tD (462) (tD (476) (tD (1279) tN tN) tN) (tD (967) tN tN))))
def rl1 : List Nat := [2, 4, 46, 48, 51, 154, 462, 465, 469, 473, 476, 929, 947, 965, 967, 1168, 1226, 1276, 1279]
def tab : List Nat := [10]
theorem htab : ∀ g ∈ tab, TrueFn Try.prog g := by
  intro g hg
  simp only [tab, List.mem_cons, List.not_mem_nil, or_false] at hg
  subst hg; exact alive.is_true
def t0 : List AV := List.replicate 150 undefA
theorem s0 : segB Try.prog tab 20000 200 3 0 13 t0 mem0 (chkAll 19 rho1 t1 N1 rl1) = true := by kernel_rfl
theorem fin : finB Try.prog tab 20000 200 3 13 t1 N1 = true := by kernel_rfl
theorem d1 : Done Try.prog 3 13 t1 N1 := fin_ok insOK htab fin
theorem d0 : Done Try.prog 3 0 t0 mem0 := seg_ok insOK htab s0 rfl d1
theorem is_true : TrueFn Try.prog 3 := true_of_done (by kernel_rfl) (by kernel_rfl) d0
end Go.Proofs.Ytonejapgmaofdaa.main
