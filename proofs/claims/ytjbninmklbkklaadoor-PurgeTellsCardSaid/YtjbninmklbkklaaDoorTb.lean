/-
  The program's functions, as the executor has them: the table.
-/
import Derived.Test.YtjbninmklbkklaaDoorRows
import Derived.Test.YtjbninmklbkklaaDoorEe
import Derived.Test.YtjbninmklbkklaaDoorPuX
set_option linter.unusedSimpArgs false
set_option linter.unusedVariables false
set_option maxRecDepth 100000
namespace Go.Proofs.YtjbninmklbkklaaDoor
open Go Go.Ax
/-- blindstamp/blindstamplaw30.PurgeTells -/
def c6 : ACode :=
  (.seq (.region [⟨some 5, .box 25 (.tmp 2), none, [1]⟩,
    ⟨some 6, .mov (.const (.bool false)), none, [0]⟩] false)
  (.seq (.seq (.region [⟨some 19, .mov (.tmp 0), none, []⟩,
    ⟨some 20, .call (.func 8) [(.tmp 19), (.const (.int .i64 100))], none, []⟩,
    ⟨some 21, .mov (.tmp 20), none, []⟩,
    ⟨some 22, .mov (.tmp 0), some (21, true), []⟩,
    ⟨some 23, .len (.tmp 22), some (21, true), []⟩,
    ⟨some 24, .pur (mkO (.binOp .leq 3 (.tmp 23) (.const (.int .i64 2048)) 3) 4), some (21, true), []⟩,
    ⟨some 25, .mov (.tmp 24), some (21, true), []⟩,
    ⟨some 26, .mov (.tmp 0), some (25, false), []⟩,
    ⟨some 27, .len (.tmp 26), some (25, false), []⟩,
    ⟨some 28, .pur (mkO (.binOp .gtr 3 (.tmp 27) (.const (.int .i64 2060)) 3) 4), some (25, false), []⟩,
    ⟨some 29, .pick (.tmp 25) (.const (.bool true)) (.tmp 28), some (21, true), []⟩,
    ⟨some 30, .pick (.tmp 21) (.tmp 29) (.const (.bool false)), none, []⟩,
    ⟨some 31, .mov (.tmp 30), none, []⟩,
    ⟨some 32, .mov (.tmp 1), some (31, false), []⟩,
    ⟨some 33, .call (.func 8) [(.tmp 32), (.const (.int .i64 100))], some (31, false), []⟩,
    ⟨some 34, .pick (.tmp 31) (.const (.bool true)) (.tmp 33), none, []⟩] false)
  (.cond (.tmp 34)
    (.seq (.region [⟨some 6, .mov (.const (.bool true)), none, []⟩] false)
    .ret)
    .skip))
  (.seq (.region [⟨some 35, .mov (.tmp 0), none, []⟩,
    ⟨some 36, .call (.func 16) [(.tmp 35)], none, []⟩,
    ⟨some 7, .mov (.tmp 36), none, []⟩] false)
  (.seq (.region [⟨some 38, .mov (.tmp 7), none, [1]⟩,
    ⟨some 39, .load 2 true (.tmp 5), none, [0]⟩,
    ⟨some 40, .call (.func 9) [(.tmp 38), (.tmp 39)], none, []⟩,
    ⟨some 37, .mov (.tmp 40), none, []⟩,
    ⟨some 41, .ext (.tmp 37) 0, none, [5]⟩,
    ⟨some 42, .ext (.tmp 37) 1, none, [4, 6]⟩,
    ⟨some 8, .mov (.tmp 41), none, [5]⟩,
    ⟨some 9, .mov (.tmp 42), none, []⟩] false)
  (.seq (.region [⟨some 44, .mov (.tmp 0), none, [1]⟩,
    ⟨some 45, .load 2 true (.tmp 5), none, [0]⟩,
    ⟨some 46, .call (.func 17) [(.tmp 44), (.tmp 45)], none, []⟩,
    ⟨some 43, .mov (.tmp 46), none, []⟩,
    ⟨some 47, .ext (.tmp 43) 0, none, [5]⟩,
    ⟨some 48, .ext (.tmp 43) 1, none, [4, 6]⟩,
    ⟨some 10, .mov (.tmp 47), none, [5]⟩,
    ⟨some 11, .mov (.tmp 48), none, []⟩] false)
  (.seq (.region [⟨some 50, .mov (.tmp 7), none, []⟩,
    ⟨some 51, .call (.func 11) [(.tmp 50)], none, []⟩,
    ⟨some 49, .mov (.tmp 51), none, []⟩,
    ⟨some 52, .ext (.tmp 49) 0, none, [4]⟩,
    ⟨some 53, .ext (.tmp 49) 1, none, [3, 5]⟩,
    ⟨some 12, .mov (.tmp 52), none, [4]⟩,
    ⟨some 13, .mov (.tmp 53), none, []⟩] false)
  (.seq (.region [⟨some 55, .mov (.tmp 0), none, []⟩,
    ⟨some 56, .call (.func 18) [(.tmp 55)], none, []⟩,
    ⟨some 54, .mov (.tmp 56), none, []⟩,
    ⟨some 57, .ext (.tmp 54) 0, none, [4]⟩,
    ⟨some 58, .ext (.tmp 54) 1, none, [3, 5]⟩,
    ⟨some 14, .mov (.tmp 57), none, [4]⟩,
    ⟨some 15, .mov (.tmp 58), none, []⟩] false)
  (.seq (.region [⟨some 59, .mov (.tmp 7), none, []⟩,
    ⟨some 60, .call (.func 19) [(.tmp 59)], none, []⟩,
    ⟨some 16, .mov (.tmp 60), none, []⟩] false)
  (.seq (.region [⟨some 61, .mov (.tmp 8), none, [1]⟩,
    ⟨some 62, .mov (.tmp 10), none, [0]⟩,
    ⟨some 63, .call (.func 10) [(.tmp 61), (.tmp 62)], none, []⟩,
    ⟨some 64, .mov (.tmp 63), none, []⟩,
    ⟨some 65, .mov (.tmp 9), some (64, true), [5]⟩,
    ⟨some 66, .mov (.tmp 11), some (64, true), [4]⟩,
    ⟨some 67, .pur (mkO (.binOp .eql 3 (.tmp 65) (.tmp 66) 3) 4), some (64, true), []⟩,
    ⟨some 68, .pick (.tmp 64) (.tmp 67) (.const (.bool false)), none, []⟩,
    ⟨some 69, .mov (.tmp 68), none, []⟩,
    ⟨some 70, .mov (.tmp 12), some (69, true), [10]⟩,
    ⟨some 71, .mov (.tmp 14), some (69, true), [9]⟩,
    ⟨some 72, .pur (mkO (.binOp .eql 3 (.tmp 70) (.tmp 71) 3) 4), some (69, true), []⟩,
    ⟨some 73, .pick (.tmp 69) (.tmp 72) (.const (.bool false)), none, []⟩,
    ⟨some 74, .mov (.tmp 73), none, []⟩,
    ⟨some 75, .mov (.tmp 13), some (74, true), [15]⟩,
    ⟨some 76, .mov (.tmp 15), some (74, true), [14]⟩,
    ⟨some 77, .pur (mkO (.binOp .eql 3 (.tmp 75) (.tmp 76) 3) 4), some (74, true), []⟩,
    ⟨some 78, .pick (.tmp 74) (.tmp 77) (.const (.bool false)), none, []⟩,
    ⟨some 79, .mov (.tmp 78), none, []⟩,
    ⟨some 80, .mov (.tmp 7), some (79, true), [21]⟩,
    ⟨some 81, .call (.func 13) [(.tmp 80)], some (79, true), [21]⟩,
    ⟨some 82, .mov (.tmp 0), some (79, true), [19, 20]⟩,
    ⟨some 83, .call (.func 20) [(.tmp 82)], some (79, true), []⟩,
    ⟨some 84, .pur (mkO (.binOp .eql 3 (.tmp 81) (.tmp 83) 3) 4), some (79, true), []⟩,
    ⟨some 85, .pick (.tmp 79) (.tmp 84) (.const (.bool false)), none, []⟩,
    ⟨some 17, .mov (.tmp 85), none, []⟩] false)
  (.seq (.region [⟨some 86, .mov (.tmp 7), none, [1, 3, 4]⟩,
    ⟨some 87, .mov (.tmp 1), none, [0, 3, 4]⟩,
    ⟨some 88, .call (.func 21) [(.tmp 86), (.tmp 87)], none, [3, 4]⟩,
    ⟨some 89, .mov (.tmp 0), none, [0, 1, 2, 4]⟩,
    ⟨some 90, .mov (.tmp 1), none, [0, 1, 2, 3]⟩,
    ⟨some 91, .call (.func 10) [(.tmp 89), (.tmp 90)], none, []⟩,
    ⟨some 92, .pur (mkO (.binOp .eql 4 (.tmp 88) (.tmp 91) 4) 4), none, []⟩,
    ⟨some 93, .mov (.tmp 92), none, []⟩,
    ⟨some 94, .mov (.tmp 7), some (93, true), [9]⟩,
    ⟨some 95, .mov (.tmp 0), some (93, true), [8]⟩,
    ⟨some 96, .call (.func 21) [(.tmp 94), (.tmp 95)], some (93, true), []⟩,
    ⟨some 97, .pick (.tmp 93) (.tmp 96) (.const (.bool false)), none, []⟩,
    ⟨some 98, .mov (.tmp 97), none, []⟩,
    ⟨some 99, .mov (.tmp 16), some (98, true), [14]⟩,
    ⟨some 100, .mov (.tmp 0), some (98, true), [13]⟩,
    ⟨some 101, .call (.func 10) [(.tmp 99), (.tmp 100)], some (98, true), []⟩,
    ⟨some 102, .pick (.tmp 98) (.tmp 101) (.const (.bool false)), none, []⟩,
    ⟨some 18, .mov (.tmp 102), none, []⟩] false)
  (.seq (.region [⟨some 103, .mov (.tmp 8), none, []⟩,
    ⟨some 104, .call (.func 22) [(.tmp 103)], none, []⟩] false)
  (.seq (.region [⟨some 105, .mov (.tmp 16), none, []⟩,
    ⟨some 106, .call (.func 22) [(.tmp 105)], none, []⟩] false)
  (.seq (.region [⟨some 107, .mov (.tmp 17), none, []⟩,
    ⟨some 108, .mov (.tmp 107), none, []⟩,
    ⟨some 109, .mov (.tmp 18), some (108, true), []⟩,
    ⟨some 110, .pick (.tmp 108) (.tmp 109) (.const (.bool false)), none, []⟩,
    ⟨some 111, .mov (.tmp 110), none, []⟩,
    ⟨some 112, .mov (.tmp 7), some (111, true), [6]⟩,
    ⟨some 113, .mov (.tmp 0), some (111, true), [5]⟩,
    ⟨some 114, .call (.func 10) [(.tmp 112), (.tmp 113)], some (111, true), []⟩,
    ⟨some 115, .pick (.tmp 111) (.tmp 114) (.const (.bool false)), none, []⟩,
    ⟨some 6, .mov (.tmp 115), none, []⟩] false)
  .ret)))))))))))))
def a6 : AFunc := ⟨116, c6, [.tmp 6], 1⟩

/-- blindstamp/blindstampref30.Great -/
def c8 : ACode :=
  (.seq (.region [⟨some 4, .mov (.const (.bool false)), none, []⟩] false)
  (.seq (.region [⟨some 5, .mov (.const (.int .i64 0)), none, []⟩] false)
  (.seq (.seq (.region [⟨some 6, .mov (.const (.int .i64 0)), none, []⟩] false)
  (.block 0 (.loop (.seq (.seq (.region [⟨some 7, .mov (.tmp 6), none, [1, 2]⟩,
        ⟨some 8, .mov (.tmp 0), none, [0]⟩,
        ⟨some 9, .len (.tmp 8), none, [0]⟩,
        ⟨some 10, .pur (mkO (.binOp .lss 3 (.tmp 7) (.tmp 9) 3) 4), none, []⟩,
        ⟨some 11, .mov (.tmp 10), none, []⟩,
        ⟨some 12, .mov (.tmp 6), some (11, true), []⟩,
        ⟨some 13, .pur (mkO (.binOp .lss 3 (.tmp 12) (.const (.int .i64 300)) 3) 4), some (11, true), []⟩,
        ⟨some 14, .pick (.tmp 11) (.tmp 13) (.const (.bool false)), none, []⟩] false)
      (.cond (.tmp 14)
        .skip
        (.exit 0)))
      (.seq (.block 1 (.region [⟨some 17, .mov (.tmp 5), none, [1, 2, 3, 4, 5, 6, 7, 9, 10, 11, 12, 13, 14, 15, 17, 18, 19, 20, 21, 22, 23]⟩,
          ⟨some 18, .mov (.tmp 0), none, [0, 2, 9, 10, 11, 12, 13, 14, 15, 17, 18, 19, 20, 21, 22, 23]⟩,
          ⟨some 19, .mov (.tmp 6), none, [0, 1, 9, 10, 11, 12, 13, 14, 15, 17, 18, 19, 20, 21, 22, 23]⟩,
          ⟨some 20, .iad 17 (.tmp 18) (.tmp 19), none, [0, 9, 10, 11, 12, 13, 14, 15, 17, 18, 19, 20, 21, 22, 23]⟩,
          ⟨some 21, .fad 7 (.tmp 20), none, [0, 9, 10, 11, 12, 13, 14, 15, 17, 18, 19, 20, 21, 22, 23]⟩,
          ⟨some 22, .load 1 false (.tmp 21), none, [0, 9, 10, 11, 12, 13, 14, 15, 17, 18, 19, 20, 21, 22, 23]⟩,
          ⟨some 23, .pur (mkO (.call ⟨.builtin .len, #[(.tmp 22)], #[9]⟩) 3), none, [0, 9, 10, 11, 12, 13, 14, 15, 17, 18, 19, 20, 21, 22, 23]⟩,
          ⟨some 24, .pur (mkO (.call ⟨.builtin .min, #[(.tmp 23), (.const (.int .i64 10000))], #[3, 3]⟩) 3), none, [0, 9, 10, 11, 12, 13, 14, 15, 17, 18, 19, 20, 21, 22, 23]⟩,
          ⟨some 25, .pur (mkO (.binOp .add 3 (.tmp 17) (.tmp 24) 3) 3), none, [9, 10, 11, 12, 13, 14, 15, 17, 18, 19, 20, 21, 22, 23]⟩,
          ⟨some 26, .mov (.tmp 0), none, [0, 1, 2, 3, 4, 5, 6, 7, 8, 10, 17, 18, 19, 20, 21, 22, 23]⟩,
          ⟨some 27, .mov (.tmp 6), none, [0, 1, 2, 3, 4, 5, 6, 7, 8, 9, 17, 18, 19, 20, 21, 22, 23]⟩,
          ⟨some 28, .iad 17 (.tmp 26) (.tmp 27), none, [0, 1, 2, 3, 4, 5, 6, 7, 8, 17, 18, 19, 20, 21, 22, 23]⟩,
          ⟨some 29, .fad 11 (.tmp 28), none, [0, 1, 2, 3, 4, 5, 6, 7, 8, 17, 18, 19, 20, 21, 22, 23]⟩,
          ⟨some 30, .load 1 false (.tmp 29), none, [0, 1, 2, 3, 4, 5, 6, 7, 8, 17, 18, 19, 20, 21, 22, 23]⟩,
          ⟨some 31, .len (.tmp 30), none, [0, 1, 2, 3, 4, 5, 6, 7, 8, 17, 18, 19, 20, 21, 22, 23]⟩,
          ⟨some 32, .pur (mkO (.call ⟨.builtin .min, #[(.tmp 31), (.const (.int .i64 10000))], #[3, 3]⟩) 3), none, [0, 1, 2, 3, 4, 5, 6, 7, 8, 17, 18, 19, 20, 21, 22, 23]⟩,
          ⟨some 33, .pur (mkO (.binOp .add 3 (.tmp 25) (.tmp 32) 3) 3), none, [17, 18, 19, 20, 21, 22, 23]⟩,
          ⟨some 34, .mov (.tmp 0), none, [0, 1, 2, 3, 4, 5, 6, 7, 8, 9, 10, 11, 12, 13, 14, 15, 16, 18]⟩,
          ⟨some 35, .mov (.tmp 6), none, [0, 1, 2, 3, 4, 5, 6, 7, 8, 9, 10, 11, 12, 13, 14, 15, 16, 17]⟩,
          ⟨some 36, .iad 17 (.tmp 34) (.tmp 35), none, [0, 1, 2, 3, 4, 5, 6, 7, 8, 9, 10, 11, 12, 13, 14, 15, 16]⟩,
          ⟨some 37, .fad 16 (.tmp 36), none, [0, 1, 2, 3, 4, 5, 6, 7, 8, 9, 10, 11, 12, 13, 14, 15, 16]⟩,
          ⟨some 38, .load 1 false (.tmp 37), none, [0, 1, 2, 3, 4, 5, 6, 7, 8, 9, 10, 11, 12, 13, 14, 15, 16]⟩,
          ⟨some 39, .len (.tmp 38), none, [0, 1, 2, 3, 4, 5, 6, 7, 8, 9, 10, 11, 12, 13, 14, 15, 16]⟩,
          ⟨some 40, .pur (mkO (.call ⟨.builtin .min, #[(.tmp 39), (.const (.int .i64 10000))], #[3, 3]⟩) 3), none, [0, 1, 2, 3, 4, 5, 6, 7, 8, 9, 10, 11, 12, 13, 14, 15, 16]⟩,
          ⟨some 41, .pur (mkO (.binOp .add 3 (.tmp 33) (.tmp 40) 3) 3), none, []⟩,
          ⟨some 5, .mov (.tmp 41), none, []⟩] true))
      (.region [⟨some 15, .mov (.tmp 6), none, []⟩,
        ⟨some 16, .pur (mkO (.binOp .add 3 (.tmp 15) (.const (.int .i64 1)) 3) 3), none, []⟩,
        ⟨some 6, .mov (.tmp 16), none, []⟩] false))))))
  (.seq (.region [⟨some 42, .mov (.tmp 0), none, [2]⟩,
    ⟨some 43, .len (.tmp 42), none, [2]⟩,
    ⟨some 44, .mov (.tmp 1), none, [0, 1]⟩,
    ⟨some 45, .pur (mkO (.binOp .gtr 3 (.tmp 43) (.tmp 44) 3) 4), none, []⟩,
    ⟨some 46, .mov (.tmp 45), none, []⟩,
    ⟨some 47, .mov (.tmp 5), some (46, false), []⟩,
    ⟨some 48, .pur (mkO (.binOp .gtr 3 (.tmp 47) (.const (.int .i64 20000)) 3) 4), some (46, false), []⟩,
    ⟨some 49, .pick (.tmp 46) (.const (.bool true)) (.tmp 48), none, []⟩,
    ⟨some 4, .mov (.tmp 49), none, []⟩] false)
  .ret))))
def a8 : AFunc := ⟨50, c8, [.tmp 4], 1⟩

/-- blindstamp/purge.Purge -/
def c9 : ACode :=
  (.seq (.region [⟨some 3, .box 25 (.tmp 1), none, [1, 2]⟩,
    ⟨some 4, .mov (.const (.slice none 0 0)), none, [0]⟩,
    ⟨some 5, .mov (.const (.int .i64 0)), none, [0]⟩] false)
  (.seq (.seq (.region [⟨some 10, .mov (.tmp 0), none, []⟩,
    ⟨some 11, .call (.func 13) [(.tmp 10)], none, []⟩,
    ⟨some 6, .mov (.tmp 11), none, []⟩] false)
  (.seq (.region [⟨some 12, .mov (.tmp 6), none, []⟩,
    ⟨some 13, .pur (mkO (.binOp .neq 28 (.tmp 12) (.const (.int .i64 0)) 28) 4), none, []⟩] false)
  (.cond (.tmp 13)
    (.seq (.region [⟨some 14, .mov (.tmp 6), none, [1]⟩,
      ⟨some 4, .mov (.const (.slice none 0 0)), none, [0]⟩,
      ⟨some 5, .mov (.tmp 14), none, []⟩] false)
    .ret)
    .skip)))
  (.seq (.seq (.region [⟨some 15, .load 2 true (.tmp 3), none, []⟩,
    ⟨some 16, .call (.func 24) [(.tmp 15)], none, []⟩,
    ⟨some 7, .mov (.tmp 16), none, []⟩] false)
  (.seq (.region [⟨some 17, .mov (.tmp 7), none, []⟩,
    ⟨some 18, .pur (mkO (.binOp .neq 28 (.tmp 17) (.const (.int .i64 0)) 28) 4), none, []⟩] false)
  (.cond (.tmp 18)
    (.seq (.region [⟨some 19, .mov (.tmp 7), none, [1]⟩,
      ⟨some 4, .mov (.const (.slice none 0 0)), none, [0]⟩,
      ⟨some 5, .mov (.tmp 19), none, []⟩] false)
    .ret)
    .skip)))
  (.seq (.region [⟨some 8, .alloc 22 (.slice none 0 0), none, []⟩] false)
  (.seq (.seq (.region [⟨some 20, .mov (.tmp 0), none, [1]⟩,
    ⟨some 21, .load 2 true (.tmp 3), none, [0]⟩,
    ⟨some 22, .call (.func 25) [(.tmp 20), (.tmp 21)], none, []⟩] false)
  (.block 0 (.rangeFunc (.tmp 22) [23] (.region [⟨some 9, .alloc 44 (.agg #[(.int .u8 0), (.int .u8 0), (.int .u32 0), (.int .u8 0), (.int .i64 0), (.int .i64 0), (.int .i64 0), (.string ⟨#[]⟩), (.int .u8 0), (.int .u32 0), (.int .u8 0), (.slice none 0 0), (.int .i64 0), (.int .u8 0), (.int .u32 0), (.bool false), (.slice none 0 0)]), none, []⟩,
        ⟨none, .store 17 (.tmp 9) (.tmp 23), none, []⟩] false) (.block 1 (.region [⟨some 24, .load 1 false (.tmp 8), none, [1, 2]⟩,
          ⟨some 25, .load 17 true (.tmp 9), none, [0]⟩,
          ⟨some 26, .bsl 44 17 (.agg #[(.int .u8 0), (.int .u8 0), (.int .u32 0), (.int .u8 0), (.int .i64 0), (.int .i64 0), (.int .i64 0), (.string ⟨#[]⟩), (.int .u8 0), (.int .u32 0), (.int .u8 0), (.slice none 0 0), (.int .i64 0), (.int .u8 0), (.int .u32 0), (.bool false), (.slice none 0 0)]) 1 [(0, 17, (.tmp 25))], none, [0]⟩,
          ⟨some 27, .app 44 17 144 (.agg #[(.int .u8 0), (.int .u8 0), (.int .u32 0), (.int .u8 0), (.int .i64 0), (.int .i64 0), (.int .i64 0), (.string ⟨#[]⟩), (.int .u8 0), (.int .u32 0), (.int .u8 0), (.slice none 0 0), (.int .i64 0), (.int .u8 0), (.int .u32 0), (.bool false), (.slice none 0 0)]) (.tmp 24) (.tmp 26), none, []⟩,
          ⟨none, .store 1 (.tmp 8) (.tmp 27), none, []⟩] false)))))
  (.seq (.region [⟨some 28, .load 1 false (.tmp 8), none, []⟩,
    ⟨some 4, .mov (.tmp 28), none, []⟩,
    ⟨some 5, .mov (.const (.int .i64 0)), none, []⟩] false)
  .ret))))))
def a9 : AFunc := ⟨29, c9, [.tmp 4, .tmp 5], 0⟩

/-- blindstamp/blindstampref30.Same -/
def c10 : ACode :=
  (.seq (.region [⟨some 4, .mov (.const (.bool false)), none, []⟩] false)
  (.seq (.seq (.region [⟨some 6, .mov (.tmp 0), none, [2, 3]⟩,
    ⟨some 7, .len (.tmp 6), none, [2, 3]⟩,
    ⟨some 8, .mov (.tmp 1), none, [0, 1]⟩,
    ⟨some 9, .len (.tmp 8), none, [0, 1]⟩,
    ⟨some 10, .pur (mkO (.binOp .neq 3 (.tmp 7) (.tmp 9) 3) 4), none, []⟩] false)
  (.cond (.tmp 10)
    (.seq (.region [⟨some 4, .mov (.const (.bool false)), none, []⟩] false)
    .ret)
    .skip))
  (.seq (.seq (.region [⟨some 5, .mov (.const (.int .i64 0)), none, []⟩] false)
  (.block 0 (.loop (.seq (.seq (.region [⟨some 11, .mov (.tmp 5), none, [1, 2]⟩,
        ⟨some 12, .mov (.tmp 0), none, [0]⟩,
        ⟨some 13, .len (.tmp 12), none, [0]⟩,
        ⟨some 14, .pur (mkO (.binOp .lss 3 (.tmp 11) (.tmp 13) 3) 4), none, []⟩] false)
      (.cond (.tmp 14)
        .skip
        (.exit 0)))
      (.seq (.block 1 (.seq (.region [⟨some 17, .mov (.tmp 0), none, [1, 4, 5, 6, 7]⟩,
          ⟨some 18, .mov (.tmp 5), none, [0, 4, 5, 6, 7]⟩,
          ⟨some 19, .iad 17 (.tmp 17) (.tmp 18), none, [4, 5, 6, 7]⟩,
          ⟨some 20, .load 17 true (.tmp 19), none, [4, 5, 6, 7]⟩,
          ⟨some 21, .mov (.tmp 1), none, [0, 1, 2, 3, 5]⟩,
          ⟨some 22, .mov (.tmp 5), none, [0, 1, 2, 3, 4]⟩,
          ⟨some 23, .iad 17 (.tmp 21) (.tmp 22), none, [0, 1, 2, 3]⟩,
          ⟨some 24, .load 17 true (.tmp 23), none, [0, 1, 2, 3]⟩,
          ⟨some 25, .call (.func 26) [(.tmp 20), (.tmp 24)], none, []⟩,
          ⟨some 26, .pur (mkO (.unOp .not 4 (.tmp 25)) 4), none, []⟩] true)
        (.cond (.tmp 26)
          (.seq (.region [⟨some 4, .mov (.const (.bool false)), none, []⟩] false)
          .ret)
          .skip)))
      (.region [⟨some 15, .mov (.tmp 5), none, []⟩,
        ⟨some 16, .pur (mkO (.binOp .add 3 (.tmp 15) (.const (.int .i64 1)) 3) 3), none, []⟩,
        ⟨some 5, .mov (.tmp 16), none, []⟩] false))))))
  (.seq (.region [⟨some 4, .mov (.const (.bool true)), none, []⟩] false)
  .ret))))
def a10 : AFunc := ⟨27, c10, [.tmp 4], 2⟩

/-- blindstamp/purge.Crashes -/
def c11 : ACode :=
  (.seq (.region [⟨some 2, .mov (.const (.int .i64 0)), none, []⟩,
    ⟨some 3, .mov (.const (.int .i64 0)), none, []⟩] false)
  (.seq (.seq (.region [⟨some 7, .mov (.tmp 0), none, []⟩,
    ⟨some 8, .call (.func 13) [(.tmp 7)], none, []⟩,
    ⟨some 4, .mov (.tmp 8), none, []⟩] false)
  (.seq (.region [⟨some 9, .mov (.tmp 4), none, []⟩,
    ⟨some 10, .pur (mkO (.binOp .neq 28 (.tmp 9) (.const (.int .i64 0)) 28) 4), none, []⟩] false)
  (.cond (.tmp 10)
    (.seq (.region [⟨some 11, .mov (.tmp 4), none, [1]⟩,
      ⟨some 2, .mov (.const (.int .i64 0)), none, [0]⟩,
      ⟨some 3, .mov (.tmp 11), none, []⟩] false)
    .ret)
    .skip)))
  (.seq (.seq (.region [⟨some 12, .mov (.tmp 0), none, [2]⟩,
    ⟨some 13, .len (.tmp 12), none, [2]⟩,
    ⟨some 14, .mov (.const (.int .i64 0)), none, [0, 1]⟩] false)
  (.block 0 (.loop (.seq (.region [⟨some 15, .pur (mkO (.binOp .lss 3 (.tmp 14) (.tmp 13) 3) 0), none, []⟩] false)
      (.seq (.cond (.tmp 15)
        .skip
        (.exit 0))
      (.seq (.block 1 (.seq (.region [⟨some 16, .iad 17 (.tmp 12) (.tmp 14), none, [2]⟩,
          ⟨some 17, .load 17 true (.tmp 16), none, [2]⟩,
          ⟨some 6, .alloc 44 (.agg #[(.int .u8 0), (.int .u8 0), (.int .u32 0), (.int .u8 0), (.int .i64 0), (.int .i64 0), (.int .i64 0), (.string ⟨#[]⟩), (.int .u8 0), (.int .u32 0), (.int .u8 0), (.slice none 0 0), (.int .i64 0), (.int .u8 0), (.int .u32 0), (.bool false), (.slice none 0 0)]), none, [0, 1]⟩,
          ⟨none, .store 17 (.tmp 6) (.tmp 17), none, []⟩] false)
        (.region [⟨some 18, .mov (.tmp 2), none, [1, 2, 3]⟩,
          ⟨some 19, .fad 16 (.tmp 6), none, [0]⟩,
          ⟨some 20, .load 1 false (.tmp 19), none, [0]⟩,
          ⟨some 21, .len (.tmp 20), none, [0]⟩,
          ⟨some 22, .pur (mkO (.binOp .add 3 (.tmp 18) (.tmp 21) 3) 3), none, []⟩,
          ⟨some 2, .mov (.tmp 22), none, []⟩] false)))
      (.region [⟨some 23, .pur (mkO (.binOp .add 3 (.tmp 14) (.const (.int .i64 1)) 3) 3), none, []⟩,
        ⟨some 14, .mov (.tmp 23), none, []⟩] false)))))))
  (.seq (.region [⟨some 24, .mov (.tmp 2), none, []⟩,
    ⟨some 2, .mov (.tmp 24), none, []⟩,
    ⟨some 3, .mov (.const (.int .i64 0)), none, []⟩] false)
  .ret))))
def a11 : AFunc := ⟨25, c11, [.tmp 2, .tmp 3], 1⟩

/-- blindstamp/purge.Check -/
def c13 : ACode :=
  (.seq (.region [⟨some 2, .mov (.const (.int .i64 0)), none, []⟩] false)
  (.seq (.block 0 (.seq (.region [⟨some 4, .mov (.tmp 0), none, []⟩,
      ⟨some 5, .len (.tmp 4), none, []⟩,
      ⟨some 6, .pur (mkO (.binOp .gtr 3 (.tmp 5) (.const (.int .i64 2048)) 3) 4), none, []⟩,
      ⟨some 3, .mov (.tmp 6), none, []⟩] false)
    (.cond (.tmp 3)
      (.seq (.region [⟨some 2, .mov (.const (.int .i64 4)), none, []⟩] false)
      .ret)
      (.seq (.region [⟨some 8, .mov (.tmp 0), none, []⟩,
        ⟨some 9, .call (.func 27) [(.tmp 8), (.func 28)], none, []⟩,
        ⟨some 7, .mov (.tmp 9), none, []⟩] false)
      (.cond (.tmp 7)
        (.seq (.region [⟨some 2, .mov (.const (.int .i64 8)), none, []⟩] false)
        .ret)
        .skip)))))
  (.seq (.region [⟨some 2, .mov (.const (.int .i64 0)), none, []⟩] false)
  .ret)))
def a13 : AFunc := ⟨10, c13, [.tmp 2], 1⟩

/-- blindstamp/label.Leq -/
def c15 : ACode :=
  (.seq (.region [⟨some 2, .box 25 (.tmp 0), none, [1, 2]⟩,
    ⟨some 3, .box 25 (.tmp 1), none, [0, 2]⟩,
    ⟨some 4, .mov (.const (.bool false)), none, [0, 1]⟩] false)
  (.seq (.region [⟨some 5, .fad 0 (.tmp 2), none, [2, 3]⟩,
    ⟨some 6, .load 1 false (.tmp 5), none, [2, 3]⟩,
    ⟨some 7, .fad 0 (.tmp 3), none, [0, 1]⟩,
    ⟨some 8, .load 1 false (.tmp 7), none, [0, 1]⟩,
    ⟨some 9, .pur (mkO (.binOp .leq 5 (.tmp 6) (.tmp 8) 5) 4), none, []⟩,
    ⟨some 10, .mov (.tmp 9), none, []⟩,
    ⟨some 11, .fad 1 (.tmp 2), some (10, true), [8, 9]⟩,
    ⟨some 12, .load 1 false (.tmp 11), some (10, true), [8, 9]⟩,
    ⟨some 13, .fad 1 (.tmp 3), some (10, true), [6, 7]⟩,
    ⟨some 14, .load 1 false (.tmp 13), some (10, true), [6, 7]⟩,
    ⟨some 15, .pur (mkO (.binOp .andNot 23 (.tmp 12) (.tmp 14) 23) 23), some (10, true), []⟩,
    ⟨some 16, .pur (mkO (.binOp .eql 23 (.tmp 15) (.const (.int .u32 0)) 23) 4), some (10, true), []⟩,
    ⟨some 17, .pick (.tmp 10) (.tmp 16) (.const (.bool false)), none, []⟩,
    ⟨some 4, .mov (.tmp 17), none, []⟩] false)
  .ret))
def a15 : AFunc := ⟨18, c15, [.tmp 4], 1⟩

/-- blindstamp/blindstampref30.Twin -/
def c16 : ACode :=
  (.seq (.region [⟨some 2, .mov (.const (.slice none 0 0)), none, []⟩] false)
  (.seq (.region [⟨some 3, .mov (.const (.slice none 0 0)), none, []⟩] false)
  (.seq (.seq (.region [⟨some 4, .mov (.const (.int .i64 0)), none, []⟩] false)
  (.block 0 (.loop (.seq (.seq (.region [⟨some 6, .mov (.tmp 4), none, [1, 2]⟩,
        ⟨some 7, .mov (.tmp 0), none, [0]⟩,
        ⟨some 8, .len (.tmp 7), none, [0]⟩,
        ⟨some 9, .pur (mkO (.binOp .lss 3 (.tmp 6) (.tmp 8) 3) 4), none, []⟩] false)
      (.cond (.tmp 9)
        .skip
        (.exit 0)))
      (.seq (.block 1 (.seq (.region [⟨some 12, .mov (.tmp 0), none, [1, 4]⟩,
          ⟨some 13, .mov (.tmp 4), none, [0, 4]⟩,
          ⟨some 14, .iad 17 (.tmp 12) (.tmp 13), none, [4]⟩,
          ⟨some 15, .load 17 true (.tmp 14), none, [4]⟩,
          ⟨some 5, .alloc 44 (.agg #[(.int .u8 0), (.int .u8 0), (.int .u32 0), (.int .u8 0), (.int .i64 0), (.int .i64 0), (.int .i64 0), (.string ⟨#[]⟩), (.int .u8 0), (.int .u32 0), (.int .u8 0), (.slice none 0 0), (.int .i64 0), (.int .u8 0), (.int .u32 0), (.bool false), (.slice none 0 0)]), none, [0, 1, 2, 3]⟩,
          ⟨none, .store 17 (.tmp 5) (.tmp 15), none, []⟩] false)
        (.seq (.region [⟨some 16, .fad 11 (.tmp 5), none, []⟩,
          ⟨some 17, .load 1 false (.tmp 16), none, []⟩,
          ⟨some 18, .app 5 1 1 (.int .u8 0) (.const (.slice none 0 0)) (.tmp 17), none, []⟩,
          ⟨some 19, .fad 11 (.tmp 5), none, []⟩,
          ⟨none, .store 1 (.tmp 19) (.tmp 18), none, []⟩] false)
        (.seq (.region [⟨some 20, .fad 16 (.tmp 5), none, []⟩,
          ⟨some 21, .load 1 false (.tmp 20), none, []⟩,
          ⟨some 22, .app 3 1 8 (.int .i64 0) (.const (.slice none 0 0)) (.tmp 21), none, []⟩,
          ⟨some 23, .fad 16 (.tmp 5), none, []⟩,
          ⟨none, .store 1 (.tmp 23) (.tmp 22), none, []⟩] false)
        (.region [⟨some 24, .mov (.tmp 3), none, [1, 2]⟩,
          ⟨some 25, .load 17 true (.tmp 5), none, [0]⟩,
          ⟨some 26, .bsl 44 17 (.agg #[(.int .u8 0), (.int .u8 0), (.int .u32 0), (.int .u8 0), (.int .i64 0), (.int .i64 0), (.int .i64 0), (.string ⟨#[]⟩), (.int .u8 0), (.int .u32 0), (.int .u8 0), (.slice none 0 0), (.int .i64 0), (.int .u8 0), (.int .u32 0), (.bool false), (.slice none 0 0)]) 1 [(0, 17, (.tmp 25))], none, [0]⟩,
          ⟨some 27, .app 44 17 144 (.agg #[(.int .u8 0), (.int .u8 0), (.int .u32 0), (.int .u8 0), (.int .i64 0), (.int .i64 0), (.int .i64 0), (.string ⟨#[]⟩), (.int .u8 0), (.int .u32 0), (.int .u8 0), (.slice none 0 0), (.int .i64 0), (.int .u8 0), (.int .u32 0), (.bool false), (.slice none 0 0)]) (.tmp 24) (.tmp 26), none, []⟩,
          ⟨some 3, .mov (.tmp 27), none, []⟩] false)))))
      (.region [⟨some 10, .mov (.tmp 4), none, []⟩,
        ⟨some 11, .pur (mkO (.binOp .add 3 (.tmp 10) (.const (.int .i64 1)) 3) 3), none, []⟩,
        ⟨some 4, .mov (.tmp 11), none, []⟩] false))))))
  (.seq (.region [⟨some 28, .mov (.tmp 3), none, []⟩,
    ⟨some 2, .mov (.tmp 28), none, []⟩] false)
  .ret))))
def a16 : AFunc := ⟨29, c16, [.tmp 2], 1⟩

/-- blindstamp/blindstampref30.Purge -/
def c17 : ACode :=
  (.seq (.region [⟨some 3, .box 25 (.tmp 1), none, [1, 2]⟩,
    ⟨some 4, .mov (.const (.slice none 0 0)), none, [0]⟩,
    ⟨some 5, .mov (.const (.int .i64 0)), none, [0]⟩] false)
  (.seq (.region [⟨some 7, .mov (.tmp 0), none, []⟩,
    ⟨some 8, .call (.func 20) [(.tmp 7)], none, []⟩,
    ⟨some 6, .mov (.tmp 8), none, []⟩] false)
  (.seq (.seq (.region [⟨some 9, .mov (.tmp 6), none, []⟩,
    ⟨some 10, .pur (mkO (.binOp .neq 3 (.tmp 9) (.const (.int .i64 0)) 3) 4), none, []⟩] false)
  (.cond (.tmp 10)
    (.seq (.region [⟨some 11, .mov (.tmp 6), none, [1]⟩,
      ⟨some 4, .mov (.const (.slice none 0 0)), none, [0]⟩,
      ⟨some 5, .mov (.tmp 11), none, []⟩] false)
    .ret)
    .skip))
  (.seq (.seq (.region [⟨some 12, .load 2 true (.tmp 3), none, []⟩,
    ⟨some 13, .call (.func 30) [(.tmp 12)], none, []⟩,
    ⟨some 14, .pur (mkO (.unOp .not 4 (.tmp 13)) 4), none, []⟩] false)
  (.cond (.tmp 14)
    (.seq (.region [⟨some 4, .mov (.const (.slice none 0 0)), none, []⟩,
      ⟨some 5, .mov (.const (.int .i64 8)), none, []⟩] false)
    .ret)
    .skip))
  (.seq (.region [⟨some 15, .mov (.tmp 0), none, [1]⟩,
    ⟨some 16, .load 2 true (.tmp 3), none, [0]⟩,
    ⟨some 17, .call (.func 31) [(.tmp 15), (.tmp 16)], none, []⟩,
    ⟨some 4, .mov (.tmp 17), none, []⟩,
    ⟨some 5, .mov (.const (.int .i64 0)), none, []⟩] false)
  .ret)))))
def a17 : AFunc := ⟨18, c17, [.tmp 4, .tmp 5], 1⟩

/-- blindstamp/blindstampref30.Crashes -/
def c18 : ACode :=
  (.seq (.region [⟨some 2, .mov (.const (.int .i64 0)), none, []⟩,
    ⟨some 3, .mov (.const (.int .i64 0)), none, []⟩] false)
  (.seq (.region [⟨some 7, .mov (.tmp 0), none, []⟩,
    ⟨some 8, .call (.func 20) [(.tmp 7)], none, []⟩,
    ⟨some 4, .mov (.tmp 8), none, []⟩] false)
  (.seq (.seq (.region [⟨some 9, .mov (.tmp 4), none, []⟩,
    ⟨some 10, .pur (mkO (.binOp .neq 3 (.tmp 9) (.const (.int .i64 0)) 3) 4), none, []⟩] false)
  (.cond (.tmp 10)
    (.seq (.region [⟨some 11, .mov (.tmp 4), none, [1]⟩,
      ⟨some 2, .mov (.const (.int .i64 0)), none, [0]⟩,
      ⟨some 3, .mov (.tmp 11), none, []⟩] false)
    .ret)
    .skip))
  (.seq (.region [⟨some 5, .mov (.const (.int .i64 0)), none, []⟩] false)
  (.seq (.seq (.region [⟨some 6, .mov (.const (.int .i64 0)), none, []⟩] false)
  (.block 0 (.loop (.seq (.seq (.region [⟨some 12, .mov (.tmp 6), none, [1, 2]⟩,
        ⟨some 13, .mov (.tmp 0), none, [0]⟩,
        ⟨some 14, .len (.tmp 13), none, [0]⟩,
        ⟨some 15, .pur (mkO (.binOp .lss 3 (.tmp 12) (.tmp 14) 3) 4), none, []⟩] false)
      (.cond (.tmp 15)
        .skip
        (.exit 0)))
      (.seq (.block 1 (.region [⟨some 18, .mov (.tmp 5), none, [1, 2, 3, 4, 5, 6]⟩,
          ⟨some 19, .mov (.tmp 0), none, [0, 2]⟩,
          ⟨some 20, .mov (.tmp 6), none, [0, 1]⟩,
          ⟨some 21, .iad 17 (.tmp 19) (.tmp 20), none, [0]⟩,
          ⟨some 22, .fad 16 (.tmp 21), none, [0]⟩,
          ⟨some 23, .load 1 false (.tmp 22), none, [0]⟩,
          ⟨some 24, .len (.tmp 23), none, [0]⟩,
          ⟨some 25, .pur (mkO (.binOp .add 3 (.tmp 18) (.tmp 24) 3) 3), none, []⟩,
          ⟨some 5, .mov (.tmp 25), none, []⟩] false))
      (.region [⟨some 16, .mov (.tmp 6), none, []⟩,
        ⟨some 17, .pur (mkO (.binOp .add 3 (.tmp 16) (.const (.int .i64 1)) 3) 3), none, []⟩,
        ⟨some 6, .mov (.tmp 17), none, []⟩] false))))))
  (.seq (.region [⟨some 26, .mov (.tmp 5), none, []⟩,
    ⟨some 2, .mov (.tmp 26), none, []⟩,
    ⟨some 3, .mov (.const (.int .i64 0)), none, []⟩] false)
  .ret))))))
def a18 : AFunc := ⟨27, c18, [.tmp 2, .tmp 3], 1⟩

/-- blindstamp/purge.Twin -/
def c19 : ACode :=
  (.seq (.region [⟨some 2, .mov (.const (.slice none 0 0)), none, []⟩] false)
  (.seq (.seq (.region [⟨some 5, .mov (.tmp 0), none, [2]⟩,
    ⟨some 6, .len (.tmp 5), none, [2]⟩,
    ⟨some 7, .mov (.const (.int .i64 0)), none, [0, 1]⟩] false)
  (.block 0 (.loop (.seq (.region [⟨some 8, .pur (mkO (.binOp .lss 3 (.tmp 7) (.tmp 6) 3) 0), none, []⟩] false)
      (.seq (.cond (.tmp 8)
        .skip
        (.exit 0))
      (.seq (.block 1 (.seq (.region [⟨some 9, .iad 17 (.tmp 5) (.tmp 7), none, [2]⟩,
          ⟨some 10, .load 17 true (.tmp 9), none, [2]⟩,
          ⟨some 4, .alloc 44 (.agg #[(.int .u8 0), (.int .u8 0), (.int .u32 0), (.int .u8 0), (.int .i64 0), (.int .i64 0), (.int .i64 0), (.string ⟨#[]⟩), (.int .u8 0), (.int .u32 0), (.int .u8 0), (.slice none 0 0), (.int .i64 0), (.int .u8 0), (.int .u32 0), (.bool false), (.slice none 0 0)]), none, [0, 1]⟩,
          ⟨none, .store 17 (.tmp 4) (.tmp 10), none, []⟩] false)
        (.region [⟨some 11, .mov (.tmp 2), none, [1, 2, 3]⟩,
          ⟨some 12, .load 17 true (.tmp 4), none, [0]⟩,
          ⟨some 13, .call (.func 32) [(.tmp 12)], none, [0]⟩,
          ⟨some 14, .bsl 44 17 (.agg #[(.int .u8 0), (.int .u8 0), (.int .u32 0), (.int .u8 0), (.int .i64 0), (.int .i64 0), (.int .i64 0), (.string ⟨#[]⟩), (.int .u8 0), (.int .u32 0), (.int .u8 0), (.slice none 0 0), (.int .i64 0), (.int .u8 0), (.int .u32 0), (.bool false), (.slice none 0 0)]) 1 [(0, 17, (.tmp 13))], none, [0]⟩,
          ⟨some 15, .app 44 17 144 (.agg #[(.int .u8 0), (.int .u8 0), (.int .u32 0), (.int .u8 0), (.int .i64 0), (.int .i64 0), (.int .i64 0), (.string ⟨#[]⟩), (.int .u8 0), (.int .u32 0), (.int .u8 0), (.slice none 0 0), (.int .i64 0), (.int .u8 0), (.int .u32 0), (.bool false), (.slice none 0 0)]) (.tmp 11) (.tmp 14), none, []⟩,
          ⟨some 2, .mov (.tmp 15), none, []⟩] false)))
      (.region [⟨some 16, .pur (mkO (.binOp .add 3 (.tmp 7) (.const (.int .i64 1)) 3) 3), none, []⟩,
        ⟨some 7, .mov (.tmp 16), none, []⟩] false)))))))
  (.seq (.region [⟨some 17, .mov (.tmp 2), none, []⟩,
    ⟨some 2, .mov (.tmp 17), none, []⟩] false)
  .ret)))
def a19 : AFunc := ⟨18, c19, [.tmp 2], 0⟩

/-- blindstamp/blindstampref30.Check -/
def c20 : ACode :=
  (.seq (.region [⟨some 2, .mov (.const (.int .i64 0)), none, []⟩] false)
  (.seq (.seq (.region [⟨some 4, .mov (.tmp 0), none, []⟩,
    ⟨some 5, .len (.tmp 4), none, []⟩,
    ⟨some 6, .pur (mkO (.binOp .gtr 3 (.tmp 5) (.const (.int .i64 2048)) 3) 4), none, []⟩] false)
  (.cond (.tmp 6)
    (.seq (.region [⟨some 2, .mov (.const (.int .i64 4)), none, []⟩] false)
    .ret)
    .skip))
  (.seq (.seq (.region [⟨some 3, .mov (.const (.int .i64 0)), none, []⟩] false)
  (.block 0 (.loop (.seq (.seq (.region [⟨some 7, .mov (.tmp 3), none, [1, 2]⟩,
        ⟨some 8, .mov (.tmp 0), none, [0]⟩,
        ⟨some 9, .len (.tmp 8), none, [0]⟩,
        ⟨some 10, .pur (mkO (.binOp .lss 3 (.tmp 7) (.tmp 9) 3) 4), none, []⟩] false)
      (.cond (.tmp 10)
        .skip
        (.exit 0)))
      (.seq (.block 1 (.seq (.region [⟨some 13, .mov (.tmp 0), none, [1]⟩,
          ⟨some 14, .mov (.tmp 3), none, [0]⟩,
          ⟨some 15, .iad 17 (.tmp 13) (.tmp 14), none, []⟩,
          ⟨some 16, .load 17 true (.tmp 15), none, []⟩,
          ⟨some 17, .call (.func 33) [(.tmp 16)], none, []⟩,
          ⟨some 18, .pur (mkO (.unOp .not 4 (.tmp 17)) 4), none, []⟩] false)
        (.cond (.tmp 18)
          (.seq (.region [⟨some 2, .mov (.const (.int .i64 8)), none, []⟩] false)
          .ret)
          .skip)))
      (.region [⟨some 11, .mov (.tmp 3), none, []⟩,
        ⟨some 12, .pur (mkO (.binOp .add 3 (.tmp 11) (.const (.int .i64 1)) 3) 3), none, []⟩,
        ⟨some 3, .mov (.tmp 12), none, []⟩] false))))))
  (.seq (.region [⟨some 2, .mov (.const (.int .i64 0)), none, []⟩] false)
  .ret))))
def a20 : AFunc := ⟨19, c20, [.tmp 2], 1⟩

/-- blindstamp/purge.Same -/
def c21 : ACode :=
  (.seq (.region [⟨some 4, .mov (.const (.bool false)), none, []⟩] false)
  (.seq (.region [⟨some 5, .mov (.tmp 0), none, [1]⟩,
    ⟨some 6, .mov (.tmp 1), none, [0]⟩,
    ⟨some 7, .call (.func 34) [(.tmp 5), (.tmp 6), (.func 35)], none, []⟩,
    ⟨some 4, .mov (.tmp 7), none, []⟩] false)
  .ret))
def a21 : AFunc := ⟨8, c21, [.tmp 4], 1⟩

/-- blindstamp/blindstamplaw30.spoil -/
def c22 : ACode :=
  (.seq (.region [⟨some 2, .mov (.const (.int .i64 0)), none, []⟩] false)
  (.block 0 (.loop (.seq (.seq (.region [⟨some 5, .mov (.tmp 2), none, [1, 2]⟩,
        ⟨some 6, .mov (.tmp 0), none, [0]⟩,
        ⟨some 7, .len (.tmp 6), none, [0]⟩,
        ⟨some 8, .pur (mkO (.binOp .lss 3 (.tmp 5) (.tmp 7) 3) 4), none, []⟩] false)
      (.cond (.tmp 8)
        .skip
        (.exit 0)))
      (.seq (.block 1 (.seq (.seq (.region [⟨some 3, .mov (.const (.int .i64 0)), none, []⟩] false)
        (.block 2 (.loop (.seq (.seq (.region [⟨some 11, .mov (.tmp 3), none, [1, 2, 3, 4, 5, 6]⟩,
              ⟨some 12, .mov (.tmp 0), none, [0, 2]⟩,
              ⟨some 13, .mov (.tmp 2), none, [0, 1]⟩,
              ⟨some 14, .iad 17 (.tmp 12) (.tmp 13), none, [0]⟩,
              ⟨some 15, .fad 16 (.tmp 14), none, [0]⟩,
              ⟨some 16, .load 1 false (.tmp 15), none, [0]⟩,
              ⟨some 17, .len (.tmp 16), none, [0]⟩,
              ⟨some 18, .pur (mkO (.binOp .lss 3 (.tmp 11) (.tmp 17) 3) 4), none, []⟩] false)
            (.cond (.tmp 18)
              .skip
              (.exit 2)))
            (.seq (.block 3 (.region [⟨some 21, .mov (.tmp 0), none, [1, 5]⟩,
                ⟨some 22, .mov (.tmp 2), none, [0, 5]⟩,
                ⟨some 23, .iad 17 (.tmp 21) (.tmp 22), none, [5]⟩,
                ⟨some 24, .fad 16 (.tmp 23), none, [5]⟩,
                ⟨some 25, .load 1 false (.tmp 24), none, [5]⟩,
                ⟨some 26, .mov (.tmp 3), none, [0, 1, 2, 3, 4]⟩,
                ⟨some 27, .iad 1 (.tmp 25) (.tmp 26), none, []⟩,
                ⟨none, .store 1 (.tmp 27) (.const (.int .i64 (-7))), none, []⟩] false))
            (.region [⟨some 19, .mov (.tmp 3), none, []⟩,
              ⟨some 20, .pur (mkO (.binOp .add 3 (.tmp 19) (.const (.int .i64 1)) 3) 3), none, []⟩,
              ⟨some 3, .mov (.tmp 20), none, []⟩] false))))))
        (.seq (.region [⟨some 4, .mov (.const (.int .i64 0)), none, []⟩] false)
        (.block 4 (.loop (.seq (.seq (.region [⟨some 28, .mov (.tmp 4), none, [1, 2, 3, 4, 5, 6]⟩,
              ⟨some 29, .mov (.tmp 0), none, [0, 2]⟩,
              ⟨some 30, .mov (.tmp 2), none, [0, 1]⟩,
              ⟨some 31, .iad 17 (.tmp 29) (.tmp 30), none, [0]⟩,
              ⟨some 32, .fad 11 (.tmp 31), none, [0]⟩,
              ⟨some 33, .load 1 false (.tmp 32), none, [0]⟩,
              ⟨some 34, .len (.tmp 33), none, [0]⟩,
              ⟨some 35, .pur (mkO (.binOp .lss 3 (.tmp 28) (.tmp 34) 3) 4), none, []⟩] false)
            (.cond (.tmp 35)
              .skip
              (.exit 4)))
            (.seq (.block 5 (.region [⟨some 38, .mov (.tmp 0), none, [1, 5, 6, 7, 8, 9, 10, 11, 12, 13, 14]⟩,
                ⟨some 39, .mov (.tmp 2), none, [0, 5, 6, 7, 8, 9, 10, 11, 12, 13, 14]⟩,
                ⟨some 40, .iad 17 (.tmp 38) (.tmp 39), none, [5, 6, 7, 8, 9, 10, 11, 12, 13, 14]⟩,
                ⟨some 41, .fad 11 (.tmp 40), none, [5, 6, 7, 8, 9, 10, 11, 12, 13, 14]⟩,
                ⟨some 42, .load 1 false (.tmp 41), none, [5, 6, 7, 8, 9, 10, 11, 12, 13, 14]⟩,
                ⟨some 43, .mov (.tmp 4), none, [0, 1, 2, 3, 4, 6, 7, 8, 9, 10, 11, 12, 13, 14]⟩,
                ⟨some 44, .mov (.tmp 0), none, [0, 1, 2, 3, 4, 5, 7, 11]⟩,
                ⟨some 45, .mov (.tmp 2), none, [0, 1, 2, 3, 4, 5, 6, 11]⟩,
                ⟨some 46, .iad 17 (.tmp 44) (.tmp 45), none, [0, 1, 2, 3, 4, 5, 11]⟩,
                ⟨some 47, .fad 11 (.tmp 46), none, [0, 1, 2, 3, 4, 5, 11]⟩,
                ⟨some 48, .load 1 false (.tmp 47), none, [0, 1, 2, 3, 4, 5, 11]⟩,
                ⟨some 49, .mov (.tmp 4), none, [0, 1, 2, 3, 4, 5, 6, 7, 8, 9, 10]⟩,
                ⟨some 50, .iad 1 (.tmp 48) (.tmp 49), none, [0, 1, 2, 3, 4, 5]⟩,
                ⟨some 51, .load 1 false (.tmp 50), none, [0, 1, 2, 3, 4, 5]⟩,
                ⟨some 52, .pur (mkO (.binOp .add 5 (.tmp 51) (.const (.int .u8 1)) 5) 5), none, [0, 1, 2, 3, 4, 5]⟩,
                ⟨some 53, .iad 1 (.tmp 42) (.tmp 43), none, []⟩,
                ⟨none, .store 1 (.tmp 53) (.tmp 52), none, []⟩] true))
            (.region [⟨some 36, .mov (.tmp 4), none, []⟩,
              ⟨some 37, .pur (mkO (.binOp .add 3 (.tmp 36) (.const (.int .i64 1)) 3) 3), none, []⟩,
              ⟨some 4, .mov (.tmp 37), none, []⟩] false))))))))
      (.region [⟨some 9, .mov (.tmp 2), none, []⟩,
        ⟨some 10, .pur (mkO (.binOp .add 3 (.tmp 9) (.const (.int .i64 1)) 3) 3), none, []⟩,
        ⟨some 2, .mov (.tmp 10), none, []⟩] false))))))
def a22 : AFunc := ⟨54, c22, [], 0⟩

/-- blindstamp/label.Check -/
def c24 : ACode :=
  (.seq (.region [⟨some 1, .box 25 (.tmp 0), none, [1]⟩,
    ⟨some 2, .mov (.const (.int .i64 0)), none, [0]⟩] false)
  (.seq (.seq (.region [⟨some 3, .fad 0 (.tmp 1), none, []⟩,
    ⟨some 4, .load 1 false (.tmp 3), none, []⟩,
    ⟨some 5, .pur (mkO (.binOp .gtr 5 (.tmp 4) (.const (.int .u8 15)) 5) 4), none, []⟩] false)
  (.cond (.tmp 5)
    (.seq (.region [⟨some 2, .mov (.const (.int .i64 8)), none, []⟩] false)
    .ret)
    .skip))
  (.seq (.region [⟨some 2, .mov (.const (.int .i64 0)), none, []⟩] false)
  .ret)))
def a24 : AFunc := ⟨6, c24, [.tmp 2], 1⟩

/-- blindstamp/purge.left -/
def c25 : ACode :=
  (.seq (.region [⟨some 2, .box 22 (.tmp 0), none, [1, 2]⟩,
    ⟨some 3, .box 25 (.tmp 1), none, [0, 2]⟩,
    ⟨some 4, .mov (.const .nilFunc), none, [0, 1]⟩] false)
  (.seq (.region [⟨some 5, .mkfn 38 [] [(.tmp 2), (.tmp 3)], none, []⟩,
    ⟨some 4, .mov (.tmp 5), none, []⟩] false)
  .ret))
def a25 : AFunc := ⟨6, c25, [.tmp 4], 0⟩

/-- blindstamp/blindstampref30.one -/
def c26 : ACode :=
  (.seq (.region [⟨some 2, .box 44 (.tmp 0), none, [1, 2]⟩,
    ⟨some 3, .box 44 (.tmp 1), none, [0, 2]⟩,
    ⟨some 4, .mov (.const (.bool false)), none, [0, 1]⟩] false)
  (.seq (.seq (.region [⟨some 5, .fad 0 (.tmp 2), none, [2, 3]⟩,
    ⟨some 6, .load 1 false (.tmp 5), none, [2, 3]⟩,
    ⟨some 7, .fad 0 (.tmp 3), none, [0, 1]⟩,
    ⟨some 8, .load 1 false (.tmp 7), none, [0, 1]⟩,
    ⟨some 9, .pur (mkO (.binOp .neq 5 (.tmp 6) (.tmp 8) 5) 4), none, []⟩,
    ⟨some 10, .mov (.tmp 9), none, []⟩,
    ⟨some 11, .fad 1 (.tmp 2), some (10, false), [8, 9]⟩,
    ⟨some 12, .load 3 true (.tmp 11), some (10, false), [8, 9]⟩,
    ⟨some 13, .fad 1 (.tmp 3), some (10, false), [6, 7]⟩,
    ⟨some 14, .load 3 true (.tmp 13), some (10, false), [6, 7]⟩,
    ⟨some 15, .pur (mkO (.binOp .neq 36 (.tmp 12) (.tmp 14) 36) 4), some (10, false), []⟩,
    ⟨some 16, .pick (.tmp 10) (.const (.bool true)) (.tmp 15), none, []⟩,
    ⟨some 17, .mov (.tmp 16), none, []⟩,
    ⟨some 18, .fad 4 (.tmp 2), some (17, false), [15, 16]⟩,
    ⟨some 19, .load 1 false (.tmp 18), some (17, false), [15, 16]⟩,
    ⟨some 20, .fad 4 (.tmp 3), some (17, false), [13, 14]⟩,
    ⟨some 21, .load 1 false (.tmp 20), some (17, false), [13, 14]⟩,
    ⟨some 22, .pur (mkO (.binOp .neq 3 (.tmp 19) (.tmp 21) 3) 4), some (17, false), []⟩,
    ⟨some 23, .pick (.tmp 17) (.const (.bool true)) (.tmp 22), none, []⟩,
    ⟨some 24, .mov (.tmp 23), none, []⟩,
    ⟨some 25, .fad 5 (.tmp 2), some (24, false), [22, 23]⟩,
    ⟨some 26, .load 1 false (.tmp 25), some (24, false), [22, 23]⟩,
    ⟨some 27, .fad 5 (.tmp 3), some (24, false), [20, 21]⟩,
    ⟨some 28, .load 1 false (.tmp 27), some (24, false), [20, 21]⟩,
    ⟨some 29, .pur (mkO (.binOp .neq 3 (.tmp 26) (.tmp 28) 3) 4), some (24, false), []⟩,
    ⟨some 30, .pick (.tmp 24) (.const (.bool true)) (.tmp 29), none, []⟩,
    ⟨some 31, .mov (.tmp 30), none, []⟩,
    ⟨some 32, .fad 6 (.tmp 2), some (31, false), [29, 30]⟩,
    ⟨some 33, .load 1 false (.tmp 32), some (31, false), [29, 30]⟩,
    ⟨some 34, .fad 6 (.tmp 3), some (31, false), [27, 28]⟩,
    ⟨some 35, .load 1 false (.tmp 34), some (31, false), [27, 28]⟩,
    ⟨some 36, .pur (mkO (.binOp .neq 3 (.tmp 33) (.tmp 35) 3) 4), some (31, false), []⟩,
    ⟨some 37, .pick (.tmp 31) (.const (.bool true)) (.tmp 36), none, []⟩,
    ⟨some 38, .mov (.tmp 37), none, []⟩,
    ⟨some 39, .fad 7 (.tmp 2), some (38, false), [36, 37]⟩,
    ⟨some 40, .load 1 false (.tmp 39), some (38, false), [36, 37]⟩,
    ⟨some 41, .fad 7 (.tmp 3), some (38, false), [34, 35]⟩,
    ⟨some 42, .load 1 false (.tmp 41), some (38, false), [34, 35]⟩,
    ⟨some 43, .pur (mkO (.binOp .neq 9 (.tmp 40) (.tmp 42) 9) 4), some (38, false), []⟩,
    ⟨some 44, .pick (.tmp 38) (.const (.bool true)) (.tmp 43), none, []⟩,
    ⟨some 45, .mov (.tmp 44), none, []⟩,
    ⟨some 46, .fad 8 (.tmp 2), some (45, false), [43, 44]⟩,
    ⟨some 47, .load 2 true (.tmp 46), some (45, false), [43, 44]⟩,
    ⟨some 48, .fad 8 (.tmp 3), some (45, false), [41, 42]⟩,
    ⟨some 49, .load 2 true (.tmp 48), some (45, false), [41, 42]⟩,
    ⟨some 50, .pur (mkO (.binOp .neq 25 (.tmp 47) (.tmp 49) 25) 4), some (45, false), []⟩,
    ⟨some 51, .pick (.tmp 45) (.const (.bool true)) (.tmp 50), none, []⟩] false)
  (.cond (.tmp 51)
    (.seq (.region [⟨some 4, .mov (.const (.bool false)), none, []⟩] false)
    .ret)
    .skip))
  (.seq (.region [⟨some 52, .fad 10 (.tmp 2), none, [2, 3]⟩,
    ⟨some 53, .load 1 false (.tmp 52), none, [2, 3]⟩,
    ⟨some 54, .fad 10 (.tmp 3), none, [0, 1]⟩,
    ⟨some 55, .load 1 false (.tmp 54), none, [0, 1]⟩,
    ⟨some 56, .pur (mkO (.binOp .eql 5 (.tmp 53) (.tmp 55) 5) 4), none, []⟩,
    ⟨some 57, .mov (.tmp 56), none, []⟩,
    ⟨some 58, .fad 11 (.tmp 2), some (57, true), [9, 10, 11]⟩,
    ⟨some 59, .load 1 false (.tmp 58), some (57, true), [9, 10, 11]⟩,
    ⟨some 60, .b2s (.tmp 59), some (57, true), [9, 10, 11]⟩,
    ⟨some 61, .fad 11 (.tmp 3), some (57, true), [6, 7, 8]⟩,
    ⟨some 62, .load 1 false (.tmp 61), some (57, true), [6, 7, 8]⟩,
    ⟨some 63, .b2s (.tmp 62), some (57, true), [6, 7, 8]⟩,
    ⟨some 64, .pur (mkO (.binOp .eql 9 (.tmp 60) (.tmp 63) 9) 4), some (57, true), []⟩,
    ⟨some 65, .pick (.tmp 57) (.tmp 64) (.const (.bool false)), none, []⟩,
    ⟨some 66, .mov (.tmp 65), none, []⟩,
    ⟨some 67, .fad 12 (.tmp 2), some (66, true), [17, 18]⟩,
    ⟨some 68, .load 4 true (.tmp 67), some (66, true), [17, 18]⟩,
    ⟨some 69, .fad 12 (.tmp 3), some (66, true), [15, 16]⟩,
    ⟨some 70, .load 4 true (.tmp 69), some (66, true), [15, 16]⟩,
    ⟨some 71, .pur (mkO (.binOp .eql 41 (.tmp 68) (.tmp 70) 41) 4), some (66, true), []⟩,
    ⟨some 72, .pick (.tmp 66) (.tmp 71) (.const (.bool false)), none, []⟩,
    ⟨some 73, .mov (.tmp 72), none, []⟩,
    ⟨some 74, .fad 16 (.tmp 2), some (73, true), [24, 25]⟩,
    ⟨some 75, .load 1 false (.tmp 74), some (73, true), [24, 25]⟩,
    ⟨some 76, .fad 16 (.tmp 3), some (73, true), [22, 23]⟩,
    ⟨some 77, .load 1 false (.tmp 76), some (73, true), [22, 23]⟩,
    ⟨some 78, .call (.func 40) [(.tmp 75), (.tmp 77)], some (73, true), []⟩,
    ⟨some 79, .pick (.tmp 73) (.tmp 78) (.const (.bool false)), none, []⟩,
    ⟨some 4, .mov (.tmp 79), none, []⟩] false)
  .ret)))
def a26 : AFunc := ⟨80, c26, [.tmp 4], 1⟩

/-- slices.ContainsFunc[[]blindstamp/api.Event,blindstamp/api.Event] -/
def c27 : ACode :=
  (.seq (.region [⟨some 4, .mov (.const (.bool false)), none, []⟩] false)
  (.seq (.region [⟨some 5, .mov (.tmp 0), none, [1]⟩,
    ⟨some 6, .mov (.tmp 1), none, [0]⟩,
    ⟨some 7, .call (.func 41) [(.tmp 5), (.tmp 6)], none, []⟩,
    ⟨some 8, .pur (mkO (.binOp .geq 3 (.tmp 7) (.const (.int .i64 0)) 3) 4), none, []⟩,
    ⟨some 4, .mov (.tmp 8), none, []⟩] false)
  .ret))
def a27 : AFunc := ⟨9, c27, [.tmp 4], 1⟩

/-- blindstamp/purge.Check$1 -/
def c28 : ACode :=
  (.seq (.region [⟨some 1, .box 44 (.tmp 0), none, [1]⟩,
    ⟨some 2, .mov (.const (.bool false)), none, [0]⟩] false)
  (.seq (.region [⟨some 3, .load 17 true (.tmp 1), none, []⟩,
    ⟨some 4, .call (.func 29) [(.tmp 3)], none, []⟩,
    ⟨some 5, .pur (mkO (.unOp .not 4 (.tmp 4)) 4), none, []⟩,
    ⟨some 2, .mov (.tmp 5), none, []⟩] false)
  .ret))
def a28 : AFunc := ⟨6, c28, [.tmp 2], 1⟩

/-- blindstamp/purge.may -/
def c29 : ACode :=
  (.seq (.region [⟨some 1, .box 44 (.tmp 0), none, [1]⟩,
    ⟨some 2, .mov (.const (.bool false)), none, [0]⟩] false)
  (.seq (.region [⟨some 5, .fad 1 (.tmp 1), none, [2]⟩,
    ⟨some 6, .load 3 true (.tmp 5), none, [2]⟩,
    ⟨some 7, .build (.agg #[(.int .u8 0), (.int .u32 0), (.int .u8 0)]) [], none, [0, 1]⟩,
    ⟨some 8, .pur (mkO (.binOp .eql 36 (.tmp 6) (.tmp 7) 36) 4), none, []⟩,
    ⟨some 9, .mov (.tmp 8), none, []⟩,
    ⟨some 10, .load 17 true (.tmp 1), some (9, false), []⟩,
    ⟨some 11, .call (.func 39) [(.tmp 10)], some (9, false), []⟩,
    ⟨some 12, .mov (.tmp 11), some (9, false), []⟩,
    ⟨some 13, .fad 1 (.tmp 1), some (12, true), []⟩,
    ⟨some 14, .load 3 true (.tmp 13), some (12, true), []⟩,
    ⟨some 15, .call (.func 42) [(.tmp 14)], some (12, true), []⟩,
    ⟨some 16, .pur (mkO (.binOp .eql 28 (.tmp 15) (.const (.int .i64 0)) 28) 4), some (12, true), []⟩,
    ⟨some 17, .pick (.tmp 12) (.tmp 16) (.const (.bool false)), some (9, false), []⟩,
    ⟨some 18, .pick (.tmp 9) (.const (.bool true)) (.tmp 17), none, []⟩,
    ⟨some 3, .mov (.tmp 18), none, []⟩] false)
  (.seq (.region [⟨some 4, .mov (.func 43), none, []⟩] false)
  (.seq (.region [⟨some 19, .fad 0 (.tmp 1), none, []⟩,
    ⟨some 20, .load 1 false (.tmp 19), none, []⟩,
    ⟨some 21, .pur (mkO (.binOp .geq 5 (.tmp 20) (.const (.int .u8 1)) 5) 4), none, []⟩,
    ⟨some 22, .mov (.tmp 21), none, []⟩,
    ⟨some 23, .fad 0 (.tmp 1), some (22, true), []⟩,
    ⟨some 24, .load 1 false (.tmp 23), some (22, true), []⟩,
    ⟨some 25, .pur (mkO (.binOp .leq 5 (.tmp 24) (.const (.int .u8 20)) 5) 4), some (22, true), []⟩,
    ⟨some 26, .pick (.tmp 22) (.tmp 25) (.const (.bool false)), none, []⟩,
    ⟨some 27, .mov (.tmp 26), none, []⟩,
    ⟨some 28, .mov (.tmp 3), some (27, true), []⟩,
    ⟨some 29, .pick (.tmp 27) (.tmp 28) (.const (.bool false)), none, []⟩,
    ⟨some 30, .mov (.tmp 29), none, []⟩,
    ⟨some 31, .fad 7 (.tmp 1), some (30, true), []⟩,
    ⟨some 32, .load 1 false (.tmp 31), some (30, true), []⟩,
    ⟨some 33, .pur (mkO (.call ⟨.builtin .len, #[(.tmp 32)], #[9]⟩) 3), some (30, true), []⟩,
    ⟨some 34, .pur (mkO (.binOp .leq 3 (.tmp 33) (.const (.int .i64 400)) 3) 4), some (30, true), []⟩,
    ⟨some 35, .pick (.tmp 30) (.tmp 34) (.const (.bool false)), none, []⟩,
    ⟨some 36, .mov (.tmp 35), none, []⟩,
    ⟨some 37, .fad 11 (.tmp 1), some (36, true), []⟩,
    ⟨some 38, .load 1 false (.tmp 37), some (36, true), []⟩,
    ⟨some 39, .len (.tmp 38), some (36, true), []⟩,
    ⟨some 40, .pur (mkO (.binOp .leq 3 (.tmp 39) (.const (.int .i64 1100)) 3) 4), some (36, true), []⟩,
    ⟨some 41, .pick (.tmp 36) (.tmp 40) (.const (.bool false)), none, []⟩,
    ⟨some 42, .mov (.tmp 41), none, []⟩,
    ⟨some 43, .fad 16 (.tmp 1), some (42, true), []⟩,
    ⟨some 44, .load 1 false (.tmp 43), some (42, true), []⟩,
    ⟨some 45, .len (.tmp 44), some (42, true), []⟩,
    ⟨some 46, .pur (mkO (.binOp .leq 3 (.tmp 45) (.const (.int .i64 3)) 3) 4), some (42, true), []⟩,
    ⟨some 47, .pick (.tmp 42) (.tmp 46) (.const (.bool false)), none, []⟩,
    ⟨some 48, .mov (.tmp 47), none, []⟩,
    ⟨some 49, .fad 16 (.tmp 1), some (48, true), [32]⟩,
    ⟨some 50, .load 1 false (.tmp 49), some (48, true), [32]⟩,
    ⟨some 51, .mov (.tmp 4), some (48, true), [30, 31]⟩,
    ⟨some 52, .call (.func 44) [(.tmp 50), (.tmp 51)], some (48, true), []⟩,
    ⟨some 53, .pur (mkO (.unOp .not 4 (.tmp 52)) 4), some (48, true), []⟩,
    ⟨some 54, .pick (.tmp 48) (.tmp 53) (.const (.bool false)), none, []⟩,
    ⟨some 2, .mov (.tmp 54), none, []⟩] false)
  .ret))))
def a29 : AFunc := ⟨55, c29, [.tmp 2], 1⟩

/-- blindstamp/blindstampref01.May -/
def c30 : ACode :=
  (.seq (.region [⟨some 1, .box 25 (.tmp 0), none, [1]⟩,
    ⟨some 2, .mov (.const (.bool false)), none, [0]⟩] false)
  (.seq (.region [⟨some 3, .fad 0 (.tmp 1), none, []⟩,
    ⟨some 4, .load 1 false (.tmp 3), none, []⟩,
    ⟨some 5, .pur (mkO (.binOp .leq 5 (.tmp 4) (.const (.int .u8 15)) 5) 4), none, []⟩,
    ⟨some 2, .mov (.tmp 5), none, []⟩] false)
  .ret))
def a30 : AFunc := ⟨6, c30, [.tmp 2], 1⟩

/-- blindstamp/blindstampref30.Left -/
def c31 : ACode :=
  (.seq (.region [⟨some 3, .box 25 (.tmp 1), none, [1]⟩,
    ⟨some 4, .mov (.const (.slice none 0 0)), none, [0]⟩] false)
  (.seq (.region [⟨some 5, .mov (.const (.slice none 0 0)), none, []⟩] false)
  (.seq (.seq (.region [⟨some 6, .mov (.const (.int .i64 0)), none, []⟩] false)
  (.block 0 (.loop (.seq (.seq (.region [⟨some 7, .mov (.tmp 6), none, [1, 2]⟩,
        ⟨some 8, .mov (.tmp 0), none, [0]⟩,
        ⟨some 9, .len (.tmp 8), none, [0]⟩,
        ⟨some 10, .pur (mkO (.binOp .lss 3 (.tmp 7) (.tmp 9) 3) 4), none, []⟩] false)
      (.cond (.tmp 10)
        .skip
        (.exit 0)))
      (.seq (.block 1 (.seq (.region [⟨some 13, .mov (.tmp 0), none, [1]⟩,
          ⟨some 14, .mov (.tmp 6), none, [0]⟩,
          ⟨some 15, .iad 17 (.tmp 13) (.tmp 14), none, []⟩,
          ⟨some 16, .load 17 true (.tmp 15), none, []⟩,
          ⟨some 17, .call (.func 45) [(.tmp 16)], none, []⟩,
          ⟨some 18, .pur (mkO (.unOp .not 4 (.tmp 17)) 4), none, []⟩,
          ⟨some 19, .mov (.tmp 18), none, []⟩,
          ⟨some 20, .mov (.tmp 0), some (19, false), [8, 13]⟩,
          ⟨some 21, .mov (.tmp 6), some (19, false), [7, 13]⟩,
          ⟨some 22, .iad 17 (.tmp 20) (.tmp 21), some (19, false), [13]⟩,
          ⟨some 23, .fad 1 (.tmp 22), some (19, false), [13]⟩,
          ⟨some 24, .fad 0 (.tmp 23), some (19, false), [13]⟩,
          ⟨some 25, .load 2 true (.tmp 24), some (19, false), [13]⟩,
          ⟨some 26, .load 2 true (.tmp 3), some (19, false), [7, 8, 9, 10, 11, 12]⟩,
          ⟨some 27, .call (.func 46) [(.tmp 25), (.tmp 26)], some (19, false), []⟩,
          ⟨some 28, .pick (.tmp 19) (.const (.bool true)) (.tmp 27), none, []⟩] true)
        (.cond (.tmp 28)
          (.region [⟨some 29, .mov (.tmp 5), none, [1, 2, 3, 4, 5]⟩,
            ⟨some 30, .mov (.tmp 0), none, [0, 2]⟩,
            ⟨some 31, .mov (.tmp 6), none, [0, 1]⟩,
            ⟨some 32, .iad 17 (.tmp 30) (.tmp 31), none, [0]⟩,
            ⟨some 33, .load 17 true (.tmp 32), none, [0]⟩,
            ⟨some 34, .bsl 44 17 (.agg #[(.int .u8 0), (.int .u8 0), (.int .u32 0), (.int .u8 0), (.int .i64 0), (.int .i64 0), (.int .i64 0), (.string ⟨#[]⟩), (.int .u8 0), (.int .u32 0), (.int .u8 0), (.slice none 0 0), (.int .i64 0), (.int .u8 0), (.int .u32 0), (.bool false), (.slice none 0 0)]) 1 [(0, 17, (.tmp 33))], none, [0]⟩,
            ⟨some 35, .app 44 17 144 (.agg #[(.int .u8 0), (.int .u8 0), (.int .u32 0), (.int .u8 0), (.int .i64 0), (.int .i64 0), (.int .i64 0), (.string ⟨#[]⟩), (.int .u8 0), (.int .u32 0), (.int .u8 0), (.slice none 0 0), (.int .i64 0), (.int .u8 0), (.int .u32 0), (.bool false), (.slice none 0 0)]) (.tmp 29) (.tmp 34), none, []⟩,
            ⟨some 5, .mov (.tmp 35), none, []⟩] false)
          (.seq (.region [⟨some 36, .mov (.tmp 0), none, [1]⟩,
            ⟨some 37, .mov (.tmp 6), none, [0]⟩,
            ⟨some 38, .iad 17 (.tmp 36) (.tmp 37), none, []⟩,
            ⟨some 39, .fad 16 (.tmp 38), none, []⟩,
            ⟨some 40, .load 1 false (.tmp 39), none, []⟩,
            ⟨some 41, .len (.tmp 40), none, []⟩,
            ⟨some 42, .pur (mkO (.binOp .gtr 3 (.tmp 41) (.const (.int .i64 0)) 3) 4), none, []⟩] false)
          (.cond (.tmp 42)
            (.region [⟨some 43, .mov (.tmp 5), none, [1, 2, 3, 4, 5, 6, 7]⟩,
              ⟨some 44, .mov (.tmp 0), none, [0, 2]⟩,
              ⟨some 45, .mov (.tmp 6), none, [0, 1]⟩,
              ⟨some 46, .iad 17 (.tmp 44) (.tmp 45), none, [0]⟩,
              ⟨some 47, .fad 16 (.tmp 46), none, [0]⟩,
              ⟨some 48, .load 1 false (.tmp 47), none, [0]⟩,
              ⟨some 49, .build (.agg #[(.int .u8 0), (.int .u8 0), (.int .u32 0), (.int .u8 0), (.int .i64 0), (.int .i64 0), (.int .i64 0), (.string ⟨#[]⟩), (.int .u8 0), (.int .u32 0), (.int .u8 0), (.slice none 0 0), (.int .i64 0), (.int .u8 0), (.int .u32 0), (.bool false), (.slice none 0 0)]) [(0, 1, (.const (.int .u8 20))), (16, 1, (.tmp 48))], none, [0]⟩,
              ⟨some 50, .bsl 44 17 (.agg #[(.int .u8 0), (.int .u8 0), (.int .u32 0), (.int .u8 0), (.int .i64 0), (.int .i64 0), (.int .i64 0), (.string ⟨#[]⟩), (.int .u8 0), (.int .u32 0), (.int .u8 0), (.slice none 0 0), (.int .i64 0), (.int .u8 0), (.int .u32 0), (.bool false), (.slice none 0 0)]) 1 [(0, 17, (.tmp 49))], none, [0]⟩,
              ⟨some 51, .app 44 17 144 (.agg #[(.int .u8 0), (.int .u8 0), (.int .u32 0), (.int .u8 0), (.int .i64 0), (.int .i64 0), (.int .i64 0), (.string ⟨#[]⟩), (.int .u8 0), (.int .u32 0), (.int .u8 0), (.slice none 0 0), (.int .i64 0), (.int .u8 0), (.int .u32 0), (.bool false), (.slice none 0 0)]) (.tmp 43) (.tmp 50), none, []⟩,
              ⟨some 5, .mov (.tmp 51), none, []⟩] false)
            .skip)))))
      (.region [⟨some 11, .mov (.tmp 6), none, []⟩,
        ⟨some 12, .pur (mkO (.binOp .add 3 (.tmp 11) (.const (.int .i64 1)) 3) 3), none, []⟩,
        ⟨some 6, .mov (.tmp 12), none, []⟩] false))))))
  (.seq (.region [⟨some 52, .mov (.tmp 5), none, []⟩,
    ⟨some 53, .call (.func 16) [(.tmp 52)], none, []⟩,
    ⟨some 4, .mov (.tmp 53), none, []⟩] false)
  .ret))))
def a31 : AFunc := ⟨54, c31, [.tmp 4], 1⟩

/-- blindstamp/purge.twin -/
def c32 : ACode :=
  (.seq (.region [⟨some 1, .box 44 (.tmp 0), none, [1]⟩,
    ⟨some 2, .alloc 44 (.agg #[(.int .u8 0), (.int .u8 0), (.int .u32 0), (.int .u8 0), (.int .i64 0), (.int .i64 0), (.int .i64 0), (.string ⟨#[]⟩), (.int .u8 0), (.int .u32 0), (.int .u8 0), (.slice none 0 0), (.int .i64 0), (.int .u8 0), (.int .u32 0), (.bool false), (.slice none 0 0)]), none, [0]⟩] false)
  (.seq (.region [⟨some 3, .fad 11 (.tmp 1), none, [3, 4]⟩,
    ⟨some 4, .load 1 false (.tmp 3), none, [3, 4]⟩,
    ⟨some 5, .call (.func 47) [(.tmp 4)], none, [3, 4]⟩,
    ⟨some 6, .fad 16 (.tmp 1), none, [0, 1, 2]⟩,
    ⟨some 7, .load 1 false (.tmp 6), none, [0, 1, 2]⟩,
    ⟨some 8, .call (.func 48) [(.tmp 7)], none, [6]⟩,
    ⟨some 9, .fad 11 (.tmp 1), none, [5]⟩,
    ⟨none, .store 1 (.tmp 9) (.tmp 5), none, []⟩,
    ⟨some 10, .fad 16 (.tmp 1), none, []⟩,
    ⟨none, .store 1 (.tmp 10) (.tmp 8), none, []⟩] true)
  (.seq (.region [⟨some 11, .load 17 true (.tmp 1), none, []⟩,
    ⟨none, .store 17 (.tmp 2) (.tmp 11), none, []⟩] false)
  .ret)))
def a32 : AFunc := ⟨12, c32, [.cell 2 17 true], 0⟩

/-- blindstamp/blindstampref30.MayOne -/
def c33 : ACode :=
  (.seq (.region [⟨some 1, .box 44 (.tmp 0), none, [1]⟩,
    ⟨some 2, .mov (.const (.bool false)), none, [0]⟩] false)
  (.seq (.seq (.region [⟨some 4, .fad 0 (.tmp 1), none, []⟩,
    ⟨some 5, .load 1 false (.tmp 4), none, []⟩,
    ⟨some 6, .pur (mkO (.binOp .lss 5 (.tmp 5) (.const (.int .u8 1)) 5) 4), none, []⟩,
    ⟨some 7, .mov (.tmp 6), none, []⟩,
    ⟨some 8, .fad 0 (.tmp 1), some (7, false), []⟩,
    ⟨some 9, .load 1 false (.tmp 8), some (7, false), []⟩,
    ⟨some 10, .pur (mkO (.binOp .gtr 5 (.tmp 9) (.const (.int .u8 20)) 5) 4), some (7, false), []⟩,
    ⟨some 11, .pick (.tmp 7) (.const (.bool true)) (.tmp 10), none, []⟩,
    ⟨some 12, .mov (.tmp 11), none, []⟩,
    ⟨some 13, .fad 7 (.tmp 1), some (12, false), []⟩,
    ⟨some 14, .load 1 false (.tmp 13), some (12, false), []⟩,
    ⟨some 15, .pur (mkO (.call ⟨.builtin .len, #[(.tmp 14)], #[9]⟩) 3), some (12, false), []⟩,
    ⟨some 16, .pur (mkO (.binOp .gtr 3 (.tmp 15) (.const (.int .i64 400)) 3) 4), some (12, false), []⟩,
    ⟨some 17, .pick (.tmp 12) (.const (.bool true)) (.tmp 16), none, []⟩,
    ⟨some 18, .mov (.tmp 17), none, []⟩,
    ⟨some 19, .fad 11 (.tmp 1), some (18, false), []⟩,
    ⟨some 20, .load 1 false (.tmp 19), some (18, false), []⟩,
    ⟨some 21, .len (.tmp 20), some (18, false), []⟩,
    ⟨some 22, .pur (mkO (.binOp .gtr 3 (.tmp 21) (.const (.int .i64 1100)) 3) 4), some (18, false), []⟩,
    ⟨some 23, .pick (.tmp 18) (.const (.bool true)) (.tmp 22), none, []⟩,
    ⟨some 24, .mov (.tmp 23), none, []⟩,
    ⟨some 25, .fad 16 (.tmp 1), some (24, false), []⟩,
    ⟨some 26, .load 1 false (.tmp 25), some (24, false), []⟩,
    ⟨some 27, .len (.tmp 26), some (24, false), []⟩,
    ⟨some 28, .pur (mkO (.binOp .gtr 3 (.tmp 27) (.const (.int .i64 3)) 3) 4), some (24, false), []⟩,
    ⟨some 29, .pick (.tmp 24) (.const (.bool true)) (.tmp 28), none, []⟩] false)
  (.cond (.tmp 29)
    (.seq (.region [⟨some 2, .mov (.const (.bool false)), none, []⟩] false)
    .ret)
    .skip))
  (.seq (.seq (.region [⟨some 3, .mov (.const (.int .i64 0)), none, []⟩] false)
  (.block 0 (.loop (.seq (.seq (.region [⟨some 30, .mov (.tmp 3), none, [1, 2, 3]⟩,
        ⟨some 31, .fad 16 (.tmp 1), none, [0]⟩,
        ⟨some 32, .load 1 false (.tmp 31), none, [0]⟩,
        ⟨some 33, .len (.tmp 32), none, [0]⟩,
        ⟨some 34, .pur (mkO (.binOp .lss 3 (.tmp 30) (.tmp 33) 3) 4), none, []⟩] false)
      (.cond (.tmp 34)
        .skip
        (.exit 0)))
      (.seq (.block 1 (.seq (.region [⟨some 37, .fad 16 (.tmp 1), none, [2]⟩,
          ⟨some 38, .load 1 false (.tmp 37), none, [2]⟩,
          ⟨some 39, .mov (.tmp 3), none, [0, 1]⟩,
          ⟨some 40, .iad 1 (.tmp 38) (.tmp 39), none, []⟩,
          ⟨some 41, .load 1 false (.tmp 40), none, []⟩,
          ⟨some 42, .pur (mkO (.binOp .lss 3 (.tmp 41) (.const (.int .i64 0)) 3) 4), none, []⟩,
          ⟨some 43, .mov (.tmp 42), none, []⟩,
          ⟨some 44, .fad 16 (.tmp 1), some (43, false), [9]⟩,
          ⟨some 45, .load 1 false (.tmp 44), some (43, false), [9]⟩,
          ⟨some 46, .mov (.tmp 3), some (43, false), [7, 8]⟩,
          ⟨some 47, .iad 1 (.tmp 45) (.tmp 46), some (43, false), []⟩,
          ⟨some 48, .load 1 false (.tmp 47), some (43, false), []⟩,
          ⟨some 49, .pur (mkO (.binOp .geq 3 (.tmp 48) (.const (.int .i64 16777216)) 3) 4), some (43, false), []⟩,
          ⟨some 50, .pick (.tmp 43) (.const (.bool true)) (.tmp 49), none, []⟩] false)
        (.cond (.tmp 50)
          (.seq (.region [⟨some 2, .mov (.const (.bool false)), none, []⟩] false)
          .ret)
          .skip)))
      (.region [⟨some 35, .mov (.tmp 3), none, []⟩,
        ⟨some 36, .pur (mkO (.binOp .add 3 (.tmp 35) (.const (.int .i64 1)) 3) 3), none, []⟩,
        ⟨some 3, .mov (.tmp 36), none, []⟩] false))))))
  (.seq (.seq (.region [⟨some 51, .load 17 true (.tmp 1), none, []⟩,
    ⟨some 52, .call (.func 45) [(.tmp 51)], none, []⟩] false)
  (.cond (.tmp 52)
    (.seq (.region [⟨some 53, .fad 1 (.tmp 1), none, []⟩,
      ⟨some 54, .load 3 true (.tmp 53), none, []⟩,
      ⟨some 55, .call (.func 49) [(.tmp 54)], none, []⟩,
      ⟨some 2, .mov (.tmp 55), none, []⟩] false)
    .ret)
    .skip))
  (.seq (.region [⟨some 56, .fad 1 (.tmp 1), none, [2]⟩,
    ⟨some 57, .load 3 true (.tmp 56), none, [2]⟩,
    ⟨some 58, .build (.agg #[(.int .u8 0), (.int .u32 0), (.int .u8 0)]) [], none, [0, 1]⟩,
    ⟨some 59, .pur (mkO (.binOp .eql 36 (.tmp 57) (.tmp 58) 36) 4), none, []⟩,
    ⟨some 2, .mov (.tmp 59), none, []⟩] false)
  .ret)))))
def a33 : AFunc := ⟨60, c33, [.tmp 2], 1⟩

/-- slices.EqualFunc[[]blindstamp/api.Event,[]blindstamp/api.Event,blindstamp/api.Event,blindstamp/api.Event] -/
def c34 : ACode :=
  (.seq (.region [⟨some 6, .mov (.const (.bool false)), none, []⟩] false)
  (.seq (.seq (.region [⟨some 10, .mov (.tmp 0), none, [2, 3]⟩,
    ⟨some 11, .len (.tmp 10), none, [2, 3]⟩,
    ⟨some 12, .mov (.tmp 1), none, [0, 1]⟩,
    ⟨some 13, .len (.tmp 12), none, [0, 1]⟩,
    ⟨some 14, .pur (mkO (.binOp .neq 3 (.tmp 11) (.tmp 13) 3) 4), none, []⟩] false)
  (.cond (.tmp 14)
    (.seq (.region [⟨some 6, .mov (.const (.bool false)), none, []⟩] false)
    .ret)
    .skip))
  (.seq (.seq (.region [⟨some 15, .mov (.tmp 0), none, [2]⟩,
    ⟨some 16, .len (.tmp 15), none, [2]⟩,
    ⟨some 17, .mov (.const (.int .i64 0)), none, [0, 1]⟩] false)
  (.block 0 (.loop (.seq (.region [⟨some 18, .pur (mkO (.binOp .lss 3 (.tmp 17) (.tmp 16) 3) 0), none, []⟩] false)
      (.seq (.cond (.tmp 18)
        .skip
        (.exit 0))
      (.seq (.block 1 (.seq (.region [⟨some 19, .mov (.tmp 17), none, [1, 2, 3]⟩,
          ⟨some 20, .iad 17 (.tmp 15) (.tmp 17), none, [0, 3]⟩,
          ⟨some 21, .load 17 true (.tmp 20), none, [0, 3]⟩,
          ⟨some 8, .alloc 44 (.agg #[(.int .u8 0), (.int .u8 0), (.int .u32 0), (.int .u8 0), (.int .i64 0), (.int .i64 0), (.int .i64 0), (.string ⟨#[]⟩), (.int .u8 0), (.int .u32 0), (.int .u8 0), (.slice none 0 0), (.int .i64 0), (.int .u8 0), (.int .u32 0), (.bool false), (.slice none 0 0)]), none, [0, 1, 2]⟩,
          ⟨some 7, .mov (.tmp 19), none, []⟩,
          ⟨none, .store 17 (.tmp 8) (.tmp 21), none, []⟩] false)
        (.seq (.region [⟨some 22, .mov (.tmp 1), none, [1, 4]⟩,
          ⟨some 23, .mov (.tmp 7), none, [0, 4]⟩,
          ⟨some 24, .iad 17 (.tmp 22) (.tmp 23), none, [4]⟩,
          ⟨some 25, .load 17 true (.tmp 24), none, [4]⟩,
          ⟨some 9, .alloc 44 (.agg #[(.int .u8 0), (.int .u8 0), (.int .u32 0), (.int .u8 0), (.int .i64 0), (.int .i64 0), (.int .i64 0), (.string ⟨#[]⟩), (.int .u8 0), (.int .u32 0), (.int .u8 0), (.slice none 0 0), (.int .i64 0), (.int .u8 0), (.int .u32 0), (.bool false), (.slice none 0 0)]), none, [0, 1, 2, 3]⟩,
          ⟨none, .store 17 (.tmp 9) (.tmp 25), none, []⟩] false)
        (.seq (.region [⟨some 26, .mov (.tmp 2), none, [1, 2]⟩,
          ⟨some 27, .load 17 true (.tmp 8), none, [0, 2]⟩,
          ⟨some 28, .load 17 true (.tmp 9), none, [0, 1]⟩,
          ⟨some 29, .call (.tmp 26) [(.tmp 27), (.tmp 28)], none, []⟩,
          ⟨some 30, .pur (mkO (.unOp .not 4 (.tmp 29)) 4), none, []⟩] false)
        (.cond (.tmp 30)
          (.seq (.region [⟨some 6, .mov (.const (.bool false)), none, []⟩] false)
          .ret)
          .skip)))))
      (.region [⟨some 31, .pur (mkO (.binOp .add 3 (.tmp 17) (.const (.int .i64 1)) 3) 3), none, []⟩,
        ⟨some 17, .mov (.tmp 31), none, []⟩] false)))))))
  (.seq (.region [⟨some 6, .mov (.const (.bool true)), none, []⟩] false)
  .ret))))
def a34 : AFunc := ⟨32, c34, [.tmp 6], 1⟩

/-- blindstamp/purge.Same$1 -/
def c35 : ACode :=
  (.seq (.region [⟨some 2, .box 44 (.tmp 0), none, [1, 2]⟩,
    ⟨some 3, .box 44 (.tmp 1), none, [0, 2]⟩,
    ⟨some 4, .mov (.const (.bool false)), none, [0, 1]⟩] false)
  (.seq (.region [⟨some 7, .fad 11 (.tmp 2), none, [2, 3]⟩,
    ⟨some 8, .load 1 false (.tmp 7), none, [2, 3]⟩,
    ⟨some 9, .fad 11 (.tmp 3), none, [0, 1]⟩,
    ⟨some 10, .load 1 false (.tmp 9), none, [0, 1]⟩,
    ⟨some 11, .call (.func 36) [(.tmp 8), (.tmp 10)], none, []⟩,
    ⟨some 12, .mov (.tmp 11), none, []⟩,
    ⟨some 13, .fad 16 (.tmp 2), some (12, true), [8, 9]⟩,
    ⟨some 14, .load 1 false (.tmp 13), some (12, true), [8, 9]⟩,
    ⟨some 15, .fad 16 (.tmp 3), some (12, true), [6, 7]⟩,
    ⟨some 16, .load 1 false (.tmp 15), some (12, true), [6, 7]⟩,
    ⟨some 17, .call (.func 37) [(.tmp 14), (.tmp 16)], some (12, true), []⟩,
    ⟨some 18, .pick (.tmp 12) (.tmp 17) (.const (.bool false)), none, []⟩,
    ⟨some 5, .mov (.tmp 18), none, []⟩] false)
  (.seq (.region [⟨some 19, .fad 0 (.tmp 2), none, [2, 3]⟩,
    ⟨some 20, .load 1 false (.tmp 19), none, [2, 3]⟩,
    ⟨some 21, .fad 0 (.tmp 3), none, [0, 1]⟩,
    ⟨some 22, .load 1 false (.tmp 21), none, [0, 1]⟩,
    ⟨some 23, .pur (mkO (.binOp .eql 5 (.tmp 20) (.tmp 22) 5) 4), none, []⟩,
    ⟨some 24, .mov (.tmp 23), none, []⟩,
    ⟨some 25, .fad 1 (.tmp 2), some (24, true), [8, 9]⟩,
    ⟨some 26, .load 3 true (.tmp 25), some (24, true), [8, 9]⟩,
    ⟨some 27, .fad 1 (.tmp 3), some (24, true), [6, 7]⟩,
    ⟨some 28, .load 3 true (.tmp 27), some (24, true), [6, 7]⟩,
    ⟨some 29, .pur (mkO (.binOp .eql 36 (.tmp 26) (.tmp 28) 36) 4), some (24, true), []⟩,
    ⟨some 30, .pick (.tmp 24) (.tmp 29) (.const (.bool false)), none, []⟩,
    ⟨some 31, .mov (.tmp 30), none, []⟩,
    ⟨some 32, .fad 4 (.tmp 2), some (31, true), [15, 16]⟩,
    ⟨some 33, .load 1 false (.tmp 32), some (31, true), [15, 16]⟩,
    ⟨some 34, .fad 4 (.tmp 3), some (31, true), [13, 14]⟩,
    ⟨some 35, .load 1 false (.tmp 34), some (31, true), [13, 14]⟩,
    ⟨some 36, .pur (mkO (.binOp .eql 3 (.tmp 33) (.tmp 35) 3) 4), some (31, true), []⟩,
    ⟨some 37, .pick (.tmp 31) (.tmp 36) (.const (.bool false)), none, []⟩,
    ⟨some 38, .mov (.tmp 37), none, []⟩,
    ⟨some 39, .fad 5 (.tmp 2), some (38, true), [22, 23]⟩,
    ⟨some 40, .load 1 false (.tmp 39), some (38, true), [22, 23]⟩,
    ⟨some 41, .fad 5 (.tmp 3), some (38, true), [20, 21]⟩,
    ⟨some 42, .load 1 false (.tmp 41), some (38, true), [20, 21]⟩,
    ⟨some 43, .pur (mkO (.binOp .eql 3 (.tmp 40) (.tmp 42) 3) 4), some (38, true), []⟩,
    ⟨some 44, .pick (.tmp 38) (.tmp 43) (.const (.bool false)), none, []⟩,
    ⟨some 45, .mov (.tmp 44), none, []⟩,
    ⟨some 46, .fad 6 (.tmp 2), some (45, true), [29, 30]⟩,
    ⟨some 47, .load 1 false (.tmp 46), some (45, true), [29, 30]⟩,
    ⟨some 48, .fad 6 (.tmp 3), some (45, true), [27, 28]⟩,
    ⟨some 49, .load 1 false (.tmp 48), some (45, true), [27, 28]⟩,
    ⟨some 50, .pur (mkO (.binOp .eql 3 (.tmp 47) (.tmp 49) 3) 4), some (45, true), []⟩,
    ⟨some 51, .pick (.tmp 45) (.tmp 50) (.const (.bool false)), none, []⟩,
    ⟨some 6, .mov (.tmp 51), none, []⟩] false)
  (.seq (.region [⟨some 52, .mov (.tmp 5), none, []⟩,
    ⟨some 53, .mov (.tmp 52), none, []⟩,
    ⟨some 54, .mov (.tmp 6), some (53, true), []⟩,
    ⟨some 55, .pick (.tmp 53) (.tmp 54) (.const (.bool false)), none, []⟩,
    ⟨some 56, .mov (.tmp 55), none, []⟩,
    ⟨some 57, .fad 7 (.tmp 2), some (56, true), [7, 8]⟩,
    ⟨some 58, .load 1 false (.tmp 57), some (56, true), [7, 8]⟩,
    ⟨some 59, .fad 7 (.tmp 3), some (56, true), [5, 6]⟩,
    ⟨some 60, .load 1 false (.tmp 59), some (56, true), [5, 6]⟩,
    ⟨some 61, .pur (mkO (.binOp .eql 9 (.tmp 58) (.tmp 60) 9) 4), some (56, true), []⟩,
    ⟨some 62, .pick (.tmp 56) (.tmp 61) (.const (.bool false)), none, []⟩,
    ⟨some 63, .mov (.tmp 62), none, []⟩,
    ⟨some 64, .fad 8 (.tmp 2), some (63, true), [14, 15]⟩,
    ⟨some 65, .load 2 true (.tmp 64), some (63, true), [14, 15]⟩,
    ⟨some 66, .fad 8 (.tmp 3), some (63, true), [12, 13]⟩,
    ⟨some 67, .load 2 true (.tmp 66), some (63, true), [12, 13]⟩,
    ⟨some 68, .pur (mkO (.binOp .eql 25 (.tmp 65) (.tmp 67) 25) 4), some (63, true), []⟩,
    ⟨some 69, .pick (.tmp 63) (.tmp 68) (.const (.bool false)), none, []⟩,
    ⟨some 70, .mov (.tmp 69), none, []⟩,
    ⟨some 71, .fad 10 (.tmp 2), some (70, true), [21, 22]⟩,
    ⟨some 72, .load 1 false (.tmp 71), some (70, true), [21, 22]⟩,
    ⟨some 73, .fad 10 (.tmp 3), some (70, true), [19, 20]⟩,
    ⟨some 74, .load 1 false (.tmp 73), some (70, true), [19, 20]⟩,
    ⟨some 75, .pur (mkO (.binOp .eql 5 (.tmp 72) (.tmp 74) 5) 4), some (70, true), []⟩,
    ⟨some 76, .pick (.tmp 70) (.tmp 75) (.const (.bool false)), none, []⟩,
    ⟨some 77, .mov (.tmp 76), none, []⟩,
    ⟨some 78, .fad 12 (.tmp 2), some (77, true), [28, 29]⟩,
    ⟨some 79, .load 4 true (.tmp 78), some (77, true), [28, 29]⟩,
    ⟨some 80, .fad 12 (.tmp 3), some (77, true), [26, 27]⟩,
    ⟨some 81, .load 4 true (.tmp 80), some (77, true), [26, 27]⟩,
    ⟨some 82, .pur (mkO (.binOp .eql 41 (.tmp 79) (.tmp 81) 41) 4), some (77, true), []⟩,
    ⟨some 83, .pick (.tmp 77) (.tmp 82) (.const (.bool false)), none, []⟩,
    ⟨some 4, .mov (.tmp 83), none, []⟩] false)
  .ret))))
def a35 : AFunc := ⟨84, c35, [.tmp 4], 1⟩

/-- bytes.Equal -/
def c36 : ACode :=
  (.seq (.region [⟨some 4, .mov (.const (.bool false)), none, []⟩] false)
  (.seq (.region [⟨some 5, .mov (.tmp 0), none, [2, 3]⟩,
    ⟨some 6, .b2s (.tmp 5), none, [2, 3]⟩,
    ⟨some 7, .mov (.tmp 1), none, [0, 1]⟩,
    ⟨some 8, .b2s (.tmp 7), none, [0, 1]⟩,
    ⟨some 9, .pur (mkO (.binOp .eql 9 (.tmp 6) (.tmp 8) 9) 4), none, []⟩,
    ⟨some 4, .mov (.tmp 9), none, []⟩] false)
  .ret))
def a36 : AFunc := ⟨10, c36, [.tmp 4], 1⟩

/-- slices.Equal[[]int,int] -/
def c37 : ACode :=
  (.seq (.region [⟨some 4, .mov (.const (.bool false)), none, []⟩] false)
  (.seq (.seq (.region [⟨some 6, .mov (.tmp 0), none, [2, 3]⟩,
    ⟨some 7, .len (.tmp 6), none, [2, 3]⟩,
    ⟨some 8, .mov (.tmp 1), none, [0, 1]⟩,
    ⟨some 9, .len (.tmp 8), none, [0, 1]⟩,
    ⟨some 10, .pur (mkO (.binOp .neq 3 (.tmp 7) (.tmp 9) 3) 4), none, []⟩] false)
  (.cond (.tmp 10)
    (.seq (.region [⟨some 4, .mov (.const (.bool false)), none, []⟩] false)
    .ret)
    .skip))
  (.seq (.seq (.region [⟨some 11, .mov (.tmp 0), none, [2]⟩,
    ⟨some 12, .len (.tmp 11), none, [2]⟩,
    ⟨some 13, .mov (.const (.int .i64 0)), none, [0, 1]⟩] false)
  (.block 0 (.loop (.seq (.region [⟨some 14, .pur (mkO (.binOp .lss 3 (.tmp 13) (.tmp 12) 3) 0), none, []⟩] false)
      (.seq (.cond (.tmp 14)
        .skip
        (.exit 0))
      (.seq (.block 1 (.seq (.region [⟨some 15, .mov (.tmp 13), none, []⟩,
          ⟨some 5, .mov (.tmp 15), none, []⟩] false)
        (.seq (.region [⟨some 16, .mov (.tmp 0), none, [1, 4, 5, 6, 7]⟩,
          ⟨some 17, .mov (.tmp 5), none, [0, 4, 5, 6, 7]⟩,
          ⟨some 18, .iad 1 (.tmp 16) (.tmp 17), none, [4, 5, 6, 7]⟩,
          ⟨some 19, .load 1 false (.tmp 18), none, [4, 5, 6, 7]⟩,
          ⟨some 20, .mov (.tmp 1), none, [0, 1, 2, 3, 5]⟩,
          ⟨some 21, .mov (.tmp 5), none, [0, 1, 2, 3, 4]⟩,
          ⟨some 22, .iad 1 (.tmp 20) (.tmp 21), none, [0, 1, 2, 3]⟩,
          ⟨some 23, .load 1 false (.tmp 22), none, [0, 1, 2, 3]⟩,
          ⟨some 24, .pur (mkO (.binOp .neq 3 (.tmp 19) (.tmp 23) 3) 4), none, []⟩] true)
        (.cond (.tmp 24)
          (.seq (.region [⟨some 4, .mov (.const (.bool false)), none, []⟩] false)
          .ret)
          .skip))))
      (.region [⟨some 25, .pur (mkO (.binOp .add 3 (.tmp 13) (.const (.int .i64 1)) 3) 3), none, []⟩,
        ⟨some 13, .mov (.tmp 25), none, []⟩] false)))))))
  (.seq (.region [⟨some 4, .mov (.const (.bool true)), none, []⟩] false)
  .ret))))
def a37 : AFunc := ⟨26, c37, [.tmp 4], 1⟩

/-- blindstamp/purge.left$1 -/
def c38 : ACode :=
  (.seq (.region [⟨some 6, .load 1 false (.tmp 1), none, [2]⟩,
    ⟨some 7, .len (.tmp 6), none, [2]⟩,
    ⟨some 8, .mov (.const (.int .i64 0)), none, [0, 1]⟩] false)
  (.block 0 (.loop (.seq (.region [⟨some 9, .pur (mkO (.binOp .lss 3 (.tmp 8) (.tmp 7) 3) 0), none, []⟩] false)
      (.seq (.cond (.tmp 9)
        .skip
        (.exit 0))
      (.seq (.block 1 (.seq (.region [⟨some 10, .iad 17 (.tmp 6) (.tmp 8), none, [2]⟩,
          ⟨some 11, .load 17 true (.tmp 10), none, [2]⟩,
          ⟨some 5, .alloc 44 (.agg #[(.int .u8 0), (.int .u8 0), (.int .u32 0), (.int .u8 0), (.int .i64 0), (.int .i64 0), (.int .i64 0), (.string ⟨#[]⟩), (.int .u8 0), (.int .u32 0), (.int .u8 0), (.slice none 0 0), (.int .i64 0), (.int .u8 0), (.int .u32 0), (.bool false), (.slice none 0 0)]), none, [0, 1]⟩,
          ⟨none, .store 17 (.tmp 5) (.tmp 11), none, []⟩] false)
        (.seq (.seq (.region [⟨some 12, .load 17 true (.tmp 5), none, []⟩,
          ⟨some 13, .call (.func 39) [(.tmp 12)], none, []⟩,
          ⟨some 14, .mov (.tmp 13), none, []⟩,
          ⟨some 15, .fad 1 (.tmp 5), some (14, true), [6]⟩,
          ⟨some 16, .fad 0 (.tmp 15), some (14, true), [6]⟩,
          ⟨some 17, .load 2 true (.tmp 16), some (14, true), [6]⟩,
          ⟨some 18, .load 2 true (.tmp 2), some (14, true), [3, 4, 5]⟩,
          ⟨some 19, .call (.func 15) [(.tmp 17), (.tmp 18)], some (14, true), []⟩,
          ⟨some 20, .pur (mkO (.unOp .not 4 (.tmp 19)) 4), some (14, true), []⟩,
          ⟨some 21, .pick (.tmp 14) (.tmp 20) (.const (.bool false)), none, []⟩] false)
        (.cond (.tmp 21)
          (.seq (.seq (.region [⟨some 22, .fad 16 (.tmp 5), none, []⟩,
            ⟨some 23, .load 1 false (.tmp 22), none, []⟩,
            ⟨some 24, .len (.tmp 23), none, []⟩,
            ⟨some 25, .pur (mkO (.binOp .eql 3 (.tmp 24) (.const (.int .i64 0)) 3) 4), none, []⟩] false)
          (.cond (.tmp 25)
            (.exit 1)
            .skip))
          (.region [⟨some 26, .fad 16 (.tmp 5), none, []⟩,
            ⟨some 27, .load 1 false (.tmp 26), none, []⟩,
            ⟨some 28, .build (.agg #[(.int .u8 0), (.int .u8 0), (.int .u32 0), (.int .u8 0), (.int .i64 0), (.int .i64 0), (.int .i64 0), (.string ⟨#[]⟩), (.int .u8 0), (.int .u32 0), (.int .u8 0), (.slice none 0 0), (.int .i64 0), (.int .u8 0), (.int .u32 0), (.bool false), (.slice none 0 0)]) [(0, 1, (.const (.int .u8 20))), (16, 1, (.tmp 27))], none, []⟩,
            ⟨none, .store 17 (.tmp 5) (.tmp 28), none, []⟩] false))
          .skip))
        (.seq (.region [⟨some 29, .mov (.tmp 0), none, [1, 2]⟩,
          ⟨some 30, .load 17 true (.tmp 5), none, [0]⟩,
          ⟨some 31, .call (.func 32) [(.tmp 30)], none, [0]⟩,
          ⟨some 32, .call (.tmp 29) [(.tmp 31)], none, []⟩,
          ⟨some 33, .pur (mkO (.unOp .not 4 (.tmp 32)) 4), none, []⟩] false)
        (.cond (.tmp 33)
          .ret
          .skip)))))
      (.region [⟨some 34, .pur (mkO (.binOp .add 3 (.tmp 8) (.const (.int .i64 1)) 3) 3), none, []⟩,
        ⟨some 8, .mov (.tmp 34), none, []⟩] false)))))))
def a38 : AFunc := ⟨35, c38, [], 0⟩

/-- blindstamp/purge.handles -/
def c39 : ACode := .skip
def a39 : AFunc := ⟨0, .ext extHandles, [], 3⟩

/-- blindstamp/blindstampref30.sameNumbers -/
def c40 : ACode :=
  (.seq (.region [⟨some 4, .mov (.const (.bool false)), none, []⟩] false)
  (.seq (.seq (.region [⟨some 6, .mov (.tmp 0), none, [2, 3]⟩,
    ⟨some 7, .len (.tmp 6), none, [2, 3]⟩,
    ⟨some 8, .mov (.tmp 1), none, [0, 1]⟩,
    ⟨some 9, .len (.tmp 8), none, [0, 1]⟩,
    ⟨some 10, .pur (mkO (.binOp .neq 3 (.tmp 7) (.tmp 9) 3) 4), none, []⟩] false)
  (.cond (.tmp 10)
    (.seq (.region [⟨some 4, .mov (.const (.bool false)), none, []⟩] false)
    .ret)
    .skip))
  (.seq (.seq (.region [⟨some 5, .mov (.const (.int .i64 0)), none, []⟩] false)
  (.block 0 (.loop (.seq (.seq (.region [⟨some 11, .mov (.tmp 5), none, [1, 2]⟩,
        ⟨some 12, .mov (.tmp 0), none, [0]⟩,
        ⟨some 13, .len (.tmp 12), none, [0]⟩,
        ⟨some 14, .pur (mkO (.binOp .lss 3 (.tmp 11) (.tmp 13) 3) 4), none, []⟩] false)
      (.cond (.tmp 14)
        .skip
        (.exit 0)))
      (.seq (.block 1 (.seq (.region [⟨some 17, .mov (.tmp 0), none, [1, 4, 5, 6, 7]⟩,
          ⟨some 18, .mov (.tmp 5), none, [0, 4, 5, 6, 7]⟩,
          ⟨some 19, .iad 1 (.tmp 17) (.tmp 18), none, [4, 5, 6, 7]⟩,
          ⟨some 20, .load 1 false (.tmp 19), none, [4, 5, 6, 7]⟩,
          ⟨some 21, .mov (.tmp 1), none, [0, 1, 2, 3, 5]⟩,
          ⟨some 22, .mov (.tmp 5), none, [0, 1, 2, 3, 4]⟩,
          ⟨some 23, .iad 1 (.tmp 21) (.tmp 22), none, [0, 1, 2, 3]⟩,
          ⟨some 24, .load 1 false (.tmp 23), none, [0, 1, 2, 3]⟩,
          ⟨some 25, .pur (mkO (.binOp .neq 3 (.tmp 20) (.tmp 24) 3) 4), none, []⟩] true)
        (.cond (.tmp 25)
          (.seq (.region [⟨some 4, .mov (.const (.bool false)), none, []⟩] false)
          .ret)
          .skip)))
      (.region [⟨some 15, .mov (.tmp 5), none, []⟩,
        ⟨some 16, .pur (mkO (.binOp .add 3 (.tmp 15) (.const (.int .i64 1)) 3) 3), none, []⟩,
        ⟨some 5, .mov (.tmp 16), none, []⟩] false))))))
  (.seq (.region [⟨some 4, .mov (.const (.bool true)), none, []⟩] false)
  .ret))))
def a40 : AFunc := ⟨26, c40, [.tmp 4], 1⟩

/-- slices.IndexFunc[[]blindstamp/api.Event,blindstamp/api.Event] -/
def c41 : ACode :=
  (.seq (.region [⟨some 4, .mov (.const (.int .i64 0)), none, []⟩] false)
  (.seq (.seq (.region [⟨some 6, .mov (.tmp 0), none, [2]⟩,
    ⟨some 7, .len (.tmp 6), none, [2]⟩,
    ⟨some 8, .mov (.const (.int .i64 0)), none, [0, 1]⟩] false)
  (.block 0 (.loop (.seq (.region [⟨some 9, .pur (mkO (.binOp .lss 3 (.tmp 8) (.tmp 7) 3) 0), none, []⟩] false)
      (.seq (.cond (.tmp 9)
        .skip
        (.exit 0))
      (.seq (.block 1 (.seq (.region [⟨some 10, .mov (.tmp 8), none, []⟩,
          ⟨some 5, .mov (.tmp 10), none, []⟩] false)
        (.seq (.region [⟨some 11, .mov (.tmp 1), none, [1, 2, 3, 4]⟩,
          ⟨some 12, .mov (.tmp 0), none, [0, 2]⟩,
          ⟨some 13, .mov (.tmp 5), none, [0, 1]⟩,
          ⟨some 14, .iad 17 (.tmp 12) (.tmp 13), none, [0]⟩,
          ⟨some 15, .load 17 true (.tmp 14), none, [0]⟩,
          ⟨some 16, .call (.tmp 11) [(.tmp 15)], none, []⟩] false)
        (.cond (.tmp 16)
          (.seq (.region [⟨some 17, .mov (.tmp 5), none, []⟩,
            ⟨some 4, .mov (.tmp 17), none, []⟩] false)
          .ret)
          .skip))))
      (.region [⟨some 18, .pur (mkO (.binOp .add 3 (.tmp 8) (.const (.int .i64 1)) 3) 3), none, []⟩,
        ⟨some 8, .mov (.tmp 18), none, []⟩] false)))))))
  (.seq (.region [⟨some 4, .mov (.const (.int .i64 (-1))), none, []⟩] false)
  .ret)))
def a41 : AFunc := ⟨19, c41, [.tmp 4], 1⟩

/-- blindstamp/ids.CheckHandle -/
def c42 : ACode :=
  (.seq (.region [⟨some 1, .box 36 (.tmp 0), none, [1]⟩,
    ⟨some 2, .mov (.const (.int .i64 0)), none, [0]⟩] false)
  (.seq (.region [⟨some 3, .fad 0 (.tmp 1), none, []⟩,
    ⟨some 4, .load 2 true (.tmp 3), none, []⟩,
    ⟨some 5, .call (.func 24) [(.tmp 4)], none, []⟩,
    ⟨some 6, .pur (mkO (.binOp .eql 28 (.tmp 5) (.const (.int .i64 0)) 28) 4), none, []⟩,
    ⟨some 7, .mov (.tmp 6), none, []⟩,
    ⟨some 8, .fad 2 (.tmp 1), some (7, true), []⟩,
    ⟨some 9, .load 1 false (.tmp 8), some (7, true), []⟩,
    ⟨some 10, .pur (mkO (.binOp .lss 5 (.tmp 9) (.const (.int .u8 8)) 5) 4), some (7, true), []⟩,
    ⟨some 11, .pick (.tmp 7) (.tmp 10) (.const (.bool false)), none, []⟩,
    ⟨some 12, .call (.func 50) [(.tmp 11)], none, []⟩,
    ⟨some 2, .mov (.tmp 12), none, []⟩] false)
  .ret))
def a42 : AFunc := ⟨13, c42, [.tmp 2], 1⟩

/-- blindstamp/purge.may$1 -/
def c43 : ACode :=
  (.seq (.region [⟨some 2, .mov (.const (.bool false)), none, []⟩] false)
  (.seq (.region [⟨some 3, .mov (.tmp 0), none, []⟩,
    ⟨some 4, .pur (mkO (.binOp .lss 3 (.tmp 3) (.const (.int .i64 0)) 3) 4), none, []⟩,
    ⟨some 5, .mov (.tmp 4), none, []⟩,
    ⟨some 6, .mov (.tmp 0), some (5, false), []⟩,
    ⟨some 7, .pur (mkO (.binOp .geq 3 (.tmp 6) (.const (.int .i64 16777216)) 3) 4), some (5, false), []⟩,
    ⟨some 8, .pick (.tmp 5) (.const (.bool true)) (.tmp 7), none, []⟩,
    ⟨some 2, .mov (.tmp 8), none, []⟩] false)
  .ret))
def a43 : AFunc := ⟨9, c43, [.tmp 2], 1⟩

/-- slices.ContainsFunc[[]int,int] -/
def c44 : ACode :=
  (.seq (.region [⟨some 4, .mov (.const (.bool false)), none, []⟩] false)
  (.seq (.region [⟨some 5, .mov (.tmp 0), none, [1]⟩,
    ⟨some 6, .mov (.tmp 1), none, [0]⟩,
    ⟨some 7, .call (.func 51) [(.tmp 5), (.tmp 6)], none, []⟩,
    ⟨some 8, .pur (mkO (.binOp .geq 3 (.tmp 7) (.const (.int .i64 0)) 3) 4), none, []⟩,
    ⟨some 4, .mov (.tmp 8), none, []⟩] false)
  .ret))
def a44 : AFunc := ⟨9, c44, [.tmp 4], 1⟩

/-- blindstamp/blindstampref30.Its -/
def c45 : ACode :=
  (.seq (.region [⟨some 1, .box 44 (.tmp 0), none, [1]⟩,
    ⟨some 2, .mov (.const (.bool false)), none, [0]⟩] false)
  (.seq (.region [⟨some 3, .fad 0 (.tmp 1), none, []⟩,
    ⟨some 4, .load 1 false (.tmp 3), none, []⟩,
    ⟨some 5, .pur (mkO (.binOp .geq 5 (.tmp 4) (.const (.int .u8 1)) 5) 4), none, []⟩,
    ⟨some 6, .mov (.tmp 5), none, []⟩,
    ⟨some 7, .fad 0 (.tmp 1), some (6, true), []⟩,
    ⟨some 8, .load 1 false (.tmp 7), some (6, true), []⟩,
    ⟨some 9, .pur (mkO (.binOp .leq 5 (.tmp 8) (.const (.int .u8 16)) 5) 4), some (6, true), []⟩,
    ⟨some 10, .pick (.tmp 6) (.tmp 9) (.const (.bool false)), none, []⟩,
    ⟨some 2, .mov (.tmp 10), none, []⟩] false)
  .ret))
def a45 : AFunc := ⟨11, c45, [.tmp 2], 1⟩

/-- blindstamp/blindstampref01.Leq -/
def c46 : ACode :=
  (.seq (.region [⟨some 2, .box 25 (.tmp 0), none, [1, 2]⟩,
    ⟨some 3, .box 25 (.tmp 1), none, [0, 2]⟩,
    ⟨some 4, .mov (.const (.bool false)), none, [0, 1]⟩] false)
  (.seq (.seq (.region [⟨some 5, .mov (.const (.int .i64 0)), none, []⟩] false)
  (.block 0 (.loop (.seq (.seq (.region [⟨some 6, .mov (.tmp 5), none, []⟩,
        ⟨some 7, .pur (mkO (.binOp .lss 3 (.tmp 6) (.const (.int .i64 32)) 3) 4), none, []⟩] false)
      (.cond (.tmp 7)
        .skip
        (.exit 0)))
      (.seq (.block 1 (.seq (.region [⟨some 10, .load 2 true (.tmp 2), none, [1]⟩,
          ⟨some 11, .mov (.tmp 5), none, [0]⟩,
          ⟨some 12, .call (.func 52) [(.tmp 10), (.tmp 11)], none, []⟩,
          ⟨some 13, .mov (.tmp 12), none, []⟩,
          ⟨some 14, .load 2 true (.tmp 3), some (13, true), [5]⟩,
          ⟨some 15, .mov (.tmp 5), some (13, true), [4]⟩,
          ⟨some 16, .call (.func 52) [(.tmp 14), (.tmp 15)], some (13, true), []⟩,
          ⟨some 17, .pur (mkO (.unOp .not 4 (.tmp 16)) 4), some (13, true), []⟩,
          ⟨some 18, .pick (.tmp 13) (.tmp 17) (.const (.bool false)), none, []⟩] false)
        (.cond (.tmp 18)
          (.seq (.region [⟨some 4, .mov (.const (.bool false)), none, []⟩] false)
          .ret)
          .skip)))
      (.region [⟨some 8, .mov (.tmp 5), none, []⟩,
        ⟨some 9, .pur (mkO (.binOp .add 3 (.tmp 8) (.const (.int .i64 1)) 3) 3), none, []⟩,
        ⟨some 5, .mov (.tmp 9), none, []⟩] false))))))
  (.seq (.region [⟨some 19, .fad 0 (.tmp 2), none, [2, 3]⟩,
    ⟨some 20, .load 1 false (.tmp 19), none, [2, 3]⟩,
    ⟨some 21, .fad 0 (.tmp 3), none, [0, 1]⟩,
    ⟨some 22, .load 1 false (.tmp 21), none, [0, 1]⟩,
    ⟨some 23, .pur (mkO (.binOp .leq 5 (.tmp 20) (.tmp 22) 5) 4), none, []⟩,
    ⟨some 4, .mov (.tmp 23), none, []⟩] false)
  .ret)))
def a46 : AFunc := ⟨24, c46, [.tmp 4], 1⟩

/-- bytes.Clone -/
def c47 : ACode :=
  (.seq (.region [⟨some 2, .mov (.const (.slice none 0 0)), none, []⟩] false)
  (.seq (.seq (.region [⟨some 3, .mov (.tmp 0), none, []⟩,
    ⟨some 4, .eqnil false 1 (.tmp 3) (mkO (.binOp .eql 37 (.tmp 3) (.const (.slice none 0 0)) 37) 4), none, []⟩] false)
  (.cond (.tmp 4)
    (.seq (.region [⟨some 2, .mov (.const (.slice none 0 0)), none, []⟩] false)
    .ret)
    .skip))
  (.seq (.region [⟨some 5, .bsl 5 1 (.int .u8 0) 0 [], none, [1]⟩,
    ⟨some 6, .mov (.tmp 0), none, [0]⟩,
    ⟨some 7, .app 5 1 1 (.int .u8 0) (.tmp 5) (.tmp 6), none, []⟩,
    ⟨some 2, .mov (.tmp 7), none, []⟩] false)
  .ret)))
def a47 : AFunc := ⟨8, c47, [.tmp 2], 0⟩

/-- slices.Clone[[]int,int] -/
def c48 : ACode :=
  (.seq (.region [⟨some 2, .mov (.const (.slice none 0 0)), none, []⟩] false)
  (.seq (.seq (.region [⟨some 3, .mov (.tmp 0), none, []⟩,
    ⟨some 4, .eqnil false 1 (.tmp 3) (mkO (.binOp .eql 42 (.tmp 3) (.const (.slice none 0 0)) 42) 4), none, []⟩] false)
  (.cond (.tmp 4)
    (.seq (.region [⟨some 2, .mov (.const (.slice none 0 0)), none, []⟩] false)
    .ret)
    .skip))
  (.seq (.region [⟨some 5, .bsl 3 1 (.int .i64 0) 0 [], none, [1]⟩,
    ⟨some 6, .mov (.tmp 0), none, [0]⟩,
    ⟨some 7, .app 3 1 8 (.int .i64 0) (.tmp 5) (.tmp 6), none, []⟩,
    ⟨some 2, .mov (.tmp 7), none, []⟩] false)
  .ret)))
def a48 : AFunc := ⟨8, c48, [.tmp 2], 0⟩

/-- blindstamp/blindstampref05.MayHandle -/
def c49 : ACode :=
  (.seq (.region [⟨some 1, .box 36 (.tmp 0), none, [1]⟩,
    ⟨some 2, .mov (.const (.bool false)), none, [0]⟩] false)
  (.seq (.region [⟨some 3, .fad 0 (.tmp 1), none, []⟩,
    ⟨some 4, .load 2 true (.tmp 3), none, []⟩,
    ⟨some 5, .call (.func 30) [(.tmp 4)], none, []⟩,
    ⟨some 6, .mov (.tmp 5), none, []⟩,
    ⟨some 7, .fad 2 (.tmp 1), some (6, true), []⟩,
    ⟨some 8, .load 1 false (.tmp 7), some (6, true), []⟩,
    ⟨some 9, .pur (mkO (.binOp .lss 5 (.tmp 8) (.const (.int .u8 8)) 5) 4), some (6, true), []⟩,
    ⟨some 10, .pick (.tmp 6) (.tmp 9) (.const (.bool false)), none, []⟩,
    ⟨some 2, .mov (.tmp 10), none, []⟩] false)
  .ret))
def a49 : AFunc := ⟨11, c49, [.tmp 2], 1⟩

/-- blindstamp/ids.right -/
def c50 : ACode :=
  (.seq (.region [⟨some 2, .mov (.const (.int .i64 0)), none, []⟩] false)
  (.seq (.seq (.region [⟨some 3, .mov (.tmp 0), none, []⟩] false)
  (.cond (.tmp 3)
    (.seq (.region [⟨some 2, .mov (.const (.int .i64 0)), none, []⟩] false)
    .ret)
    .skip))
  (.seq (.region [⟨some 2, .mov (.const (.int .i64 8)), none, []⟩] false)
  .ret)))
def a50 : AFunc := ⟨4, c50, [.tmp 2], 1⟩

/-- slices.IndexFunc[[]int,int] -/
def c51 : ACode :=
  (.seq (.region [⟨some 4, .mov (.const (.int .i64 0)), none, []⟩] false)
  (.seq (.seq (.region [⟨some 6, .mov (.tmp 0), none, [2]⟩,
    ⟨some 7, .len (.tmp 6), none, [2]⟩,
    ⟨some 8, .mov (.const (.int .i64 0)), none, [0, 1]⟩] false)
  (.block 0 (.loop (.seq (.region [⟨some 9, .pur (mkO (.binOp .lss 3 (.tmp 8) (.tmp 7) 3) 0), none, []⟩] false)
      (.seq (.cond (.tmp 9)
        .skip
        (.exit 0))
      (.seq (.block 1 (.seq (.region [⟨some 10, .mov (.tmp 8), none, []⟩,
          ⟨some 5, .mov (.tmp 10), none, []⟩] false)
        (.seq (.region [⟨some 11, .mov (.tmp 1), none, [1, 2, 3, 4]⟩,
          ⟨some 12, .mov (.tmp 0), none, [0, 2]⟩,
          ⟨some 13, .mov (.tmp 5), none, [0, 1]⟩,
          ⟨some 14, .iad 1 (.tmp 12) (.tmp 13), none, [0]⟩,
          ⟨some 15, .load 1 false (.tmp 14), none, [0]⟩,
          ⟨some 16, .call (.tmp 11) [(.tmp 15)], none, []⟩] false)
        (.cond (.tmp 16)
          (.seq (.region [⟨some 17, .mov (.tmp 5), none, []⟩,
            ⟨some 4, .mov (.tmp 17), none, []⟩] false)
          .ret)
          .skip))))
      (.region [⟨some 18, .pur (mkO (.binOp .add 3 (.tmp 8) (.const (.int .i64 1)) 3) 3), none, []⟩,
        ⟨some 8, .mov (.tmp 18), none, []⟩] false)))))))
  (.seq (.region [⟨some 4, .mov (.const (.int .i64 (-1))), none, []⟩] false)
  .ret)))
def a51 : AFunc := ⟨19, c51, [.tmp 4], 1⟩

/-- blindstamp/blindstampref01.has -/
def c52 : ACode :=
  (.seq (.region [⟨some 2, .box 25 (.tmp 0), none, [1]⟩,
    ⟨some 4, .mov (.const (.bool false)), none, [0]⟩] false)
  (.seq (.region [⟨some 5, .fad 1 (.tmp 2), none, [2, 3]⟩,
    ⟨some 6, .load 1 false (.tmp 5), none, [2, 3]⟩,
    ⟨some 7, .mov (.tmp 1), none, [0, 1]⟩,
    ⟨some 8, .pur (mkO (.convert 3 83 (.tmp 7)) 83), none, [0, 1]⟩,
    ⟨some 9, .pur (mkO (.binOp .shr 23 (.tmp 6) (.tmp 8) 83) 23), none, []⟩,
    ⟨some 10, .pur (mkO (.binOp .rem 23 (.tmp 9) (.const (.int .u32 2)) 23) 23), none, []⟩,
    ⟨some 11, .pur (mkO (.binOp .eql 23 (.tmp 10) (.const (.int .u32 1)) 23) 4), none, []⟩,
    ⟨some 4, .mov (.tmp 11), none, []⟩] false)
  .ret))
def a52 : AFunc := ⟨12, c52, [.tmp 4], 1⟩

def tbl : List (Option AFunc) := [none, none, none, none, none, none, some a6, none, some a8, some a9, some a10, some a11, none, some a13, none, some a15, some a16, some a17, some a18, some a19, some a20, some a21, some a22, none, some a24, some a25, some a26, some a27, some a28, some a29, some a30, some a31, some a32, some a33, some a34, some a35, some a36, some a37, some a38, some a39, some a40, some a41, some a42, some a43, some a44, some a45, some a46, some a47, some a48, some a49, some a50, some a51, some a52, none, none, none, none, none, none, none, none, none, none, none, none, none, none, none, none, none, none, none, none, none]
theorem tf6 : fsT tbl 6 = some a6 := rfl
theorem tf8 : fsT tbl 8 = some a8 := rfl
theorem tf9 : fsT tbl 9 = some a9 := rfl
theorem tf10 : fsT tbl 10 = some a10 := rfl
theorem tf11 : fsT tbl 11 = some a11 := rfl
theorem tf13 : fsT tbl 13 = some a13 := rfl
theorem tf15 : fsT tbl 15 = some a15 := rfl
theorem tf16 : fsT tbl 16 = some a16 := rfl
theorem tf17 : fsT tbl 17 = some a17 := rfl
theorem tf18 : fsT tbl 18 = some a18 := rfl
theorem tf19 : fsT tbl 19 = some a19 := rfl
theorem tf20 : fsT tbl 20 = some a20 := rfl
theorem tf21 : fsT tbl 21 = some a21 := rfl
theorem tf22 : fsT tbl 22 = some a22 := rfl
theorem tf24 : fsT tbl 24 = some a24 := rfl
theorem tf25 : fsT tbl 25 = some a25 := rfl
theorem tf26 : fsT tbl 26 = some a26 := rfl
theorem tf27 : fsT tbl 27 = some a27 := rfl
theorem tf28 : fsT tbl 28 = some a28 := rfl
theorem tf29 : fsT tbl 29 = some a29 := rfl
theorem tf30 : fsT tbl 30 = some a30 := rfl
theorem tf31 : fsT tbl 31 = some a31 := rfl
theorem tf32 : fsT tbl 32 = some a32 := rfl
theorem tf33 : fsT tbl 33 = some a33 := rfl
theorem tf34 : fsT tbl 34 = some a34 := rfl
theorem tf35 : fsT tbl 35 = some a35 := rfl
theorem tf36 : fsT tbl 36 = some a36 := rfl
theorem tf37 : fsT tbl 37 = some a37 := rfl
theorem tf38 : fsT tbl 38 = some a38 := rfl
theorem tf39 : fsT tbl 39 = some a39 := rfl
theorem tf40 : fsT tbl 40 = some a40 := rfl
theorem tf41 : fsT tbl 41 = some a41 := rfl
theorem tf42 : fsT tbl 42 = some a42 := rfl
theorem tf43 : fsT tbl 43 = some a43 := rfl
theorem tf44 : fsT tbl 44 = some a44 := rfl
theorem tf45 : fsT tbl 45 = some a45 := rfl
theorem tf46 : fsT tbl 46 = some a46 := rfl
theorem tf47 : fsT tbl 47 = some a47 := rfl
theorem tf48 : fsT tbl 48 = some a48 := rfl
theorem tf49 : fsT tbl 49 = some a49 := rfl
theorem tf50 : fsT tbl 50 = some a50 := rfl
theorem tf51 : fsT tbl 51 = some a51 := rfl
theorem tf52 : fsT tbl 52 = some a52 := rfl
end Go.Proofs.YtjbninmklbkklaaDoor
