/-
  The program's functions, as the executor has them: the table.
-/
import Derived.Test.YtliicocdhkcanaaGreatRows
import Derived.Test.YtliicocdhkcanaaGreatEg
set_option linter.unusedSimpArgs false
set_option linter.unusedVariables false
set_option maxRecDepth 100000
namespace Go.Proofs.YtliicocdhkcanaaGreat.K
open Go Go.Ax
def c118 : ACode :=
  (.seq (.region [⟨some 2, .mov (.const (.int .i64 0)), none, []⟩] false)
  (.seq (.region [⟨some 3, .mov (.func 180), none, []⟩] false)
  (.seq (.block 0 (.seq (.region [⟨some 5, .mov (.tmp 0), none, []⟩,
      ⟨some 6, .len (.tmp 5), none, []⟩,
      ⟨some 7, .pur (mkO (.binOp .gtr 3 (.tmp 6) (.const (.int .i64 64)) 3) 4), none, []⟩,
      ⟨some 4, .mov (.tmp 7), none, []⟩] false)
    (.cond (.tmp 4)
      (.seq (.region [⟨some 2, .mov (.const (.int .i64 4)), none, []⟩] false)
      .ret)
      (.seq (.region [⟨some 9, .mov (.tmp 0), none, []⟩,
        ⟨some 10, .mov (.tmp 3), none, []⟩,
        ⟨some 11, .call (.func 182) [(.tmp 9), (.tmp 10)], none, []⟩,
        ⟨some 8, .mov (.tmp 11), none, []⟩] false)
      (.cond (.tmp 8)
        (.seq (.region [⟨some 2, .mov (.const (.int .i64 8)), none, []⟩] false)
        .ret)
        .skip)))))
  (.seq (.region [⟨some 2, .mov (.const (.int .i64 0)), none, []⟩] false)
  .ret))))
def a118 : AFunc := ⟨12, c118, [.tmp 2], 1⟩

def c180 : ACode :=
  (.seq (.region [⟨some 2, .mov (.const (.bool false)), none, []⟩] false)
  (.seq (.region [⟨some 3, .mov (.tmp 0), none, []⟩,
    ⟨some 4, .pur (mkO (.binOp .neq 21 (.tmp 3) (.const (.int .i32 (-1))) 21) 4), none, []⟩,
    ⟨some 5, .mov (.tmp 4), none, []⟩,
    ⟨some 6, .mov (.tmp 0), some (5, true), []⟩,
    ⟨some 7, .call (.func 181) [(.tmp 6)], some (5, true), []⟩,
    ⟨some 8, .pur (mkO (.unOp .not 4 (.tmp 7)) 4), some (5, true), []⟩,
    ⟨some 9, .pick (.tmp 5) (.tmp 8) (.const (.bool false)), none, []⟩,
    ⟨some 2, .mov (.tmp 9), none, []⟩] false)
  .ret))
def a180 : AFunc := ⟨10, c180, [.tmp 2], 1⟩

def c181 : ACode :=
  (.seq (.region [⟨some 2, .mov (.const (.bool false)), none, []⟩] false)
  (.seq (.block 0 (.seq (.region [⟨some 4, .mov (.tmp 0), none, []⟩,
      ⟨some 5, .pur (mkO (.binOp .leq 21 (.const (.int .i32 0)) (.tmp 4) 21) 4), none, []⟩,
      ⟨some 6, .mov (.tmp 5), none, []⟩,
      ⟨some 7, .mov (.tmp 0), some (6, true), []⟩,
      ⟨some 8, .pur (mkO (.binOp .lss 21 (.tmp 7) (.const (.int .i32 55296)) 21) 4), some (6, true), []⟩,
      ⟨some 9, .pick (.tmp 6) (.tmp 8) (.const (.bool false)), none, []⟩,
      ⟨some 3, .mov (.tmp 9), none, []⟩] false)
    (.cond (.tmp 3)
      (.seq (.region [⟨some 2, .mov (.const (.bool true)), none, []⟩] false)
      .ret)
      (.seq (.region [⟨some 11, .mov (.tmp 0), none, []⟩,
        ⟨some 12, .pur (mkO (.binOp .lss 21 (.const (.int .i32 57343)) (.tmp 11) 21) 4), none, []⟩,
        ⟨some 13, .mov (.tmp 12), none, []⟩,
        ⟨some 14, .mov (.tmp 0), some (13, true), []⟩,
        ⟨some 15, .pur (mkO (.binOp .leq 21 (.tmp 14) (.const (.int .i32 1114111)) 21) 4), some (13, true), []⟩,
        ⟨some 16, .pick (.tmp 13) (.tmp 15) (.const (.bool false)), none, []⟩,
        ⟨some 10, .mov (.tmp 16), none, []⟩] false)
      (.cond (.tmp 10)
        (.seq (.region [⟨some 2, .mov (.const (.bool true)), none, []⟩] false)
        .ret)
        .skip)))))
  (.seq (.region [⟨some 2, .mov (.const (.bool false)), none, []⟩] false)
  .ret)))
def a181 : AFunc := ⟨17, c181, [.tmp 2], 1⟩

def c182 : ACode :=
  (.seq (.region [⟨some 4, .mov (.const (.bool false)), none, []⟩] false)
  (.seq (.region [⟨some 5, .mov (.tmp 0), none, []⟩,
    ⟨some 6, .mov (.tmp 1), none, []⟩,
    ⟨some 7, .call (.func 221) [(.tmp 5), (.tmp 6)], none, []⟩,
    ⟨some 8, .pur (mkO (.binOp .geq 3 (.tmp 7) (.const (.int .i64 0)) 3) 4), none, []⟩,
    ⟨some 4, .mov (.tmp 8), none, []⟩] false)
  .ret))
def a182 : AFunc := ⟨9, c182, [.tmp 4], 1⟩

def c221 : ACode :=
  (.seq (.region [⟨some 4, .mov (.const (.int .i64 0)), none, []⟩] false)
  (.seq (.seq (.region [⟨some 6, .mov (.tmp 0), none, []⟩,
    ⟨some 7, .len (.tmp 6), none, []⟩,
    ⟨some 8, .mov (.const (.int .i64 0)), none, []⟩] false)
  (.block 0 (.loop (.seq (.region [⟨some 9, .pur (mkO (.binOp .lss 3 (.tmp 8) (.tmp 7) 3) 0), none, []⟩] false)
      (.seq (.cond (.tmp 9)
        .skip
        (.exit 0))
      (.seq (.block 1 (.seq (.region [⟨some 10, .mov (.tmp 8), none, []⟩,
          ⟨some 5, .mov (.tmp 10), none, []⟩] false)
        (.seq (.region [⟨some 11, .mov (.tmp 1), none, []⟩,
          ⟨some 12, .mov (.tmp 0), none, []⟩,
          ⟨some 13, .mov (.tmp 5), none, []⟩,
          ⟨some 14, .iad 1 (.tmp 12) (.tmp 13), none, []⟩,
          ⟨some 15, .load 1 false (.tmp 14), none, []⟩,
          ⟨some 16, .call (.tmp 11) [(.tmp 15)], none, []⟩] false)
        (.cond (.tmp 16)
          (.seq (.region [⟨some 17, .mov (.tmp 5), none, []⟩,
            ⟨some 4, .mov (.tmp 17), none, []⟩] false)
          .ret)
          .skip))))
      (.region [⟨some 18, .pur (mkO (.binOp .add 3 (.tmp 8) (.const (.int .i64 1)) 3) 3), none, []⟩,
        ⟨some 8, .mov (.tmp 18), none, []⟩] false)))))))
  (.seq (.region [⟨some 4, .mov (.const (.int .i64 (-1))), none, []⟩] false)
  .ret)))
def a221 : AFunc := ⟨19, c221, [.tmp 4], 1⟩

def tbl : List (Option AFunc) := [none, none, none, none, none, none, none, none, none, none, none, none, none, none, none, none, none, none, none, none, none, none, none, none, none, none, none, none, none, none, none, none, none, none, none, none, none, none, none, none, none, none, none, none, none, none, none, none, none, none, none, none, none, none, none, none, none, none, none, none, none, none, none, none, none, none, none, none, none, none, none, none, none, none, none, none, none, none, none, none, none, none, none, none, none, none, none, none, none, none, none, none, none, none, none, none, none, none, none, none, none, none, none, none, none, none, none, none, none, none, none, none, none, none, none, none, none, none, some a118, none, none, none, none, none, none, none, none, none, none, none, none, none, none, none, none, none, none, none, none, none, none, none, none, none, none, none, none, none, none, none, none, none, none, none, none, none, none, none, none, none, none, none, none, none, none, none, none, none, none, none, none, none, none, none, none, none, none, none, none, none, some a180, some a181, some a182, none, none, none, none, none, none, none, none, none, none, none, none, none, none, none, none, none, none, none, none, none, none, none, none, none, none, none, none, none, none, none, none, none, none, none, none, none, none, some a221, none, none, none, none, none, none, none, none, none, none, none, none, none, none, none, none, none, none, none, none, none, none, none, none, none, none, none, none, none, none]
theorem tf118 : fsT tbl 118 = some a118 := rfl
theorem tf180 : fsT tbl 180 = some a180 := rfl
theorem tf181 : fsT tbl 181 = some a181 := rfl
theorem tf182 : fsT tbl 182 = some a182 := rfl
theorem tf221 : fsT tbl 221 = some a221 := rfl
end Go.Proofs.YtliicocdhkcanaaGreat.K
