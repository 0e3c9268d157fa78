/-
  The program's functions, as the executor has them: the table.
-/
import Derived.Test.YtbemomagabjbnaaRows
import Derived.Test.YtbemomagabjbnaaEd
set_option linter.unusedSimpArgs false
set_option linter.unusedVariables false
set_option maxRecDepth 100000
namespace Go.Proofs.Ytbemomagabjbnaa
open Go Go.Ax
/-- gosem.cut.init -/
def c2 : ACode :=
  (.region [⟨some 0, .bad "op", none, []⟩] false)
def a2 : AFunc := ⟨1, c2, [], 1⟩

/-- blindstamp/blindstamplaw25.LinkRenews -/
def c3 : ACode :=
  (.seq (.region [⟨some 3, .box 24 (.tmp 0), none, [1]⟩,
    ⟨some 6, .mov (.const (.bool false)), none, [0]⟩] false)
  (.seq (.region [⟨some 11, .call (.func 8) [], none, []⟩,
    ⟨some 7, .mov (.tmp 11), none, []⟩] false)
  (.seq (.seq (.region [⟨some 12, .load 6 true (.tmp 3), none, []⟩,
    ⟨some 13, .call (.func 9) [(.tmp 12)], none, []⟩,
    ⟨some 14, .mov (.tmp 13), none, []⟩,
    ⟨some 15, .mov (.tmp 2), some (14, false), []⟩,
    ⟨some 16, .len (.tmp 15), some (14, false), []⟩,
    ⟨some 17, .pur (mkO (.binOp .gtr 3 (.tmp 16) (.const (.int .i64 20)) 3) 4), some (14, false), []⟩,
    ⟨some 18, .pick (.tmp 14) (.const (.bool true)) (.tmp 17), none, []⟩,
    ⟨some 19, .mov (.tmp 18), none, []⟩,
    ⟨some 20, .mov (.tmp 7), some (19, false), []⟩,
    ⟨some 21, .pur (mkO (.unOp .not 4 (.tmp 20)) 4), some (19, false), []⟩,
    ⟨some 22, .pick (.tmp 19) (.const (.bool true)) (.tmp 21), none, []⟩] false)
  (.cond (.tmp 22)
    (.seq (.region [⟨some 23, .mov (.tmp 7), none, []⟩,
      ⟨some 6, .mov (.tmp 23), none, []⟩] false)
    .ret)
    .skip))
  (.seq (.region [⟨some 25, .load 6 true (.tmp 3), none, [1, 2, 7]⟩,
    ⟨some 26, .mov (.tmp 1), none, [0, 2, 7]⟩,
    ⟨some 27, .mov (.tmp 2), none, [0, 1, 7]⟩,
    ⟨some 28, .call (.func 10) [(.tmp 25), (.tmp 26), (.tmp 27)], none, [7]⟩,
    ⟨some 24, .mov (.tmp 28), none, [7]⟩,
    ⟨some 29, .ext (.tmp 24) 0, none, [6, 7]⟩,
    ⟨some 30, .ext (.tmp 24) 1, none, [5, 7, 8]⟩,
    ⟨some 8, .alloc 24 (.agg #[(.int .i64 0), (.int .i64 0), (.slice none 0 0), (.int .i64 0), (.int .i64 0), (.bool false)]), none, [0, 1, 2, 3, 4, 5, 6]⟩,
    ⟨none, .store 6 (.tmp 8) (.tmp 29), none, [6]⟩,
    ⟨some 9, .mov (.tmp 30), none, []⟩] false)
  (.seq (.seq (.region [⟨some 31, .mov (.tmp 9), none, []⟩,
    ⟨some 32, .pur (mkO (.binOp .neq 28 (.tmp 31) (.const (.int .i64 0)) 28) 4), none, []⟩] false)
  (.cond (.tmp 32)
    (.seq (.region [⟨some 33, .mov (.tmp 7), none, []⟩,
      ⟨some 34, .mov (.tmp 33), none, []⟩,
      ⟨some 35, .fad 2 (.tmp 8), some (34, true), []⟩,
      ⟨some 36, .load 1 false (.tmp 35), some (34, true), []⟩,
      ⟨some 37, .len (.tmp 36), some (34, true), []⟩,
      ⟨some 38, .pur (mkO (.binOp .eql 3 (.tmp 37) (.const (.int .i64 0)) 3) 4), some (34, true), []⟩,
      ⟨some 39, .pick (.tmp 34) (.tmp 38) (.const (.bool false)), none, []⟩,
      ⟨some 6, .mov (.tmp 39), none, []⟩] false)
    .ret)
    .skip))
  (.seq (.seq (.region [⟨some 40, .fad 3 (.tmp 8), none, []⟩,
    ⟨some 41, .load 1 false (.tmp 40), none, []⟩,
    ⟨some 42, .pur (mkO (.binOp .neq 3 (.tmp 41) (.const (.int .i64 1)) 3) 4), none, []⟩,
    ⟨some 43, .mov (.tmp 42), none, []⟩,
    ⟨some 44, .fad 0 (.tmp 8), some (43, false), [6]⟩,
    ⟨some 45, .load 1 false (.tmp 44), some (43, false), [6]⟩,
    ⟨some 46, .mov (.tmp 1), some (43, false), [4, 5]⟩,
    ⟨some 47, .pur (mkO (.binOp .neq 3 (.tmp 45) (.tmp 46) 3) 4), some (43, false), []⟩,
    ⟨some 48, .pick (.tmp 43) (.const (.bool true)) (.tmp 47), none, []⟩,
    ⟨some 49, .mov (.tmp 48), none, []⟩,
    ⟨some 50, .fad 2 (.tmp 8), some (49, false), [13, 14, 15, 16, 17, 18]⟩,
    ⟨some 51, .load 1 false (.tmp 50), some (49, false), [13, 14, 15, 16, 17, 18]⟩,
    ⟨some 52, .len (.tmp 51), some (49, false), [13, 14, 15, 16, 17, 18]⟩,
    ⟨some 53, .mov (.tmp 2), some (49, false), [10, 11, 12, 15, 16, 17]⟩,
    ⟨some 54, .len (.tmp 53), some (49, false), [10, 11, 12, 15, 16, 17]⟩,
    ⟨some 55, .fad 2 (.tmp 3), some (49, false), [10, 11, 12, 13, 14]⟩,
    ⟨some 56, .load 1 false (.tmp 55), some (49, false), [10, 11, 12, 13, 14]⟩,
    ⟨some 57, .len (.tmp 56), some (49, false), [10, 11, 12, 13, 14]⟩,
    ⟨some 58, .pur (mkO (.binOp .add 3 (.tmp 54) (.tmp 57) 3) 3), some (49, false), [10, 11, 12]⟩,
    ⟨some 59, .pur (mkO (.binOp .neq 3 (.tmp 52) (.tmp 58) 3) 4), some (49, false), []⟩,
    ⟨some 60, .pick (.tmp 49) (.const (.bool true)) (.tmp 59), none, []⟩,
    ⟨some 61, .mov (.tmp 60), none, []⟩,
    ⟨some 62, .fad 1 (.tmp 8), some (61, false), [24, 25, 26, 27]⟩,
    ⟨some 63, .load 1 false (.tmp 62), some (61, false), [24, 25, 26, 27]⟩,
    ⟨some 64, .fad 2 (.tmp 8), some (61, false), [22, 23]⟩,
    ⟨some 65, .load 1 false (.tmp 64), some (61, false), [22, 23]⟩,
    ⟨some 66, .len (.tmp 65), some (61, false), [22, 23]⟩,
    ⟨some 67, .pur (mkO (.binOp .add 3 (.tmp 66) (.const (.int .i64 1)) 3) 3), some (61, false), [22, 23]⟩,
    ⟨some 68, .pur (mkO (.binOp .neq 3 (.tmp 63) (.tmp 67) 3) 4), some (61, false), []⟩,
    ⟨some 69, .pick (.tmp 61) (.const (.bool true)) (.tmp 68), none, []⟩,
    ⟨some 70, .mov (.tmp 69), none, []⟩,
    ⟨some 71, .load 6 true (.tmp 8), some (70, false), []⟩,
    ⟨some 72, .call (.func 11) [(.tmp 71)], some (70, false), []⟩,
    ⟨some 73, .pur (mkO (.binOp .neq 28 (.tmp 72) (.const (.int .i64 0)) 28) 4), some (70, false), []⟩,
    ⟨some 74, .pick (.tmp 70) (.const (.bool true)) (.tmp 73), none, []⟩] false)
  (.cond (.tmp 74)
    (.seq (.region [⟨some 6, .mov (.const (.bool false)), none, []⟩] false)
    .ret)
    .skip))
  (.seq (.seq (.region [⟨some 10, .mov (.const (.int .i64 0)), none, []⟩] false)
  (.block 0 (.loop (.seq (.seq (.region [⟨some 75, .mov (.tmp 10), none, [1, 2, 3]⟩,
        ⟨some 76, .fad 2 (.tmp 8), none, [0]⟩,
        ⟨some 77, .load 1 false (.tmp 76), none, [0]⟩,
        ⟨some 78, .len (.tmp 77), none, [0]⟩,
        ⟨some 79, .pur (mkO (.binOp .lss 3 (.tmp 75) (.tmp 78) 3) 4), none, []⟩] false)
      (.cond (.tmp 79)
        .skip
        (.exit 0)))
      (.seq (.block 1 (.seq (.region [⟨some 82, .fad 2 (.tmp 8), none, [2, 6, 7]⟩,
          ⟨some 83, .load 1 false (.tmp 82), none, [2, 6, 7]⟩,
          ⟨some 84, .mov (.tmp 10), none, [0, 1, 6, 7]⟩,
          ⟨some 85, .iad 2 (.tmp 83) (.tmp 84), none, [6, 7]⟩,
          ⟨some 86, .fad 0 (.tmp 85), none, [6, 7]⟩,
          ⟨some 87, .load 1 false (.tmp 86), none, [6, 7]⟩,
          ⟨some 88, .mov (.tmp 10), none, [0, 1, 2, 3, 4, 5]⟩,
          ⟨some 89, .pur (mkO (.binOp .add 3 (.tmp 88) (.const (.int .i64 1)) 3) 3), none, [0, 1, 2, 3, 4, 5]⟩,
          ⟨some 90, .pur (mkO (.binOp .neq 3 (.tmp 87) (.tmp 89) 3) 4), none, []⟩,
          ⟨some 91, .mov (.tmp 90), none, []⟩,
          ⟨some 92, .mov (.tmp 10), some (91, false), [11, 12]⟩,
          ⟨some 93, .mov (.tmp 2), some (91, false), [10]⟩,
          ⟨some 94, .len (.tmp 93), some (91, false), [10]⟩,
          ⟨some 95, .pur (mkO (.binOp .lss 3 (.tmp 92) (.tmp 94) 3) 4), some (91, false), []⟩,
          ⟨some 96, .mov (.tmp 95), some (91, false), []⟩,
          ⟨some 97, .fad 2 (.tmp 8), some (96, true), [17, 22, 23, 24, 25, 26]⟩,
          ⟨some 98, .load 1 false (.tmp 97), some (96, true), [17, 22, 23, 24, 25, 26]⟩,
          ⟨some 99, .mov (.tmp 10), some (96, true), [15, 16, 22, 23, 24, 25, 26]⟩,
          ⟨some 100, .iad 2 (.tmp 98) (.tmp 99), some (96, true), [22, 23, 24, 25, 26]⟩,
          ⟨some 101, .fad 1 (.tmp 100), some (96, true), [22, 23, 24, 25, 26]⟩,
          ⟨some 102, .load 1 false (.tmp 101), some (96, true), [22, 23, 24, 25, 26]⟩,
          ⟨some 103, .b2s (.tmp 102), some (96, true), [22, 23, 24, 25, 26]⟩,
          ⟨some 104, .mov (.tmp 2), some (96, true), [15, 16, 17, 18, 19, 20, 21, 23]⟩,
          ⟨some 105, .mov (.tmp 10), some (96, true), [15, 16, 17, 18, 19, 20, 21, 22]⟩,
          ⟨some 106, .iad 1 (.tmp 104) (.tmp 105), some (96, true), [15, 16, 17, 18, 19, 20, 21]⟩,
          ⟨some 107, .load 1 false (.tmp 106), some (96, true), [15, 16, 17, 18, 19, 20, 21]⟩,
          ⟨some 108, .b2s (.tmp 107), some (96, true), [15, 16, 17, 18, 19, 20, 21]⟩,
          ⟨some 109, .pur (mkO (.binOp .neq 9 (.tmp 103) (.tmp 108) 9) 4), some (96, true), []⟩,
          ⟨some 110, .pick (.tmp 96) (.tmp 109) (.const (.bool false)), some (91, false), []⟩,
          ⟨some 111, .pick (.tmp 91) (.const (.bool true)) (.tmp 110), none, []⟩,
          ⟨some 112, .mov (.tmp 111), none, []⟩,
          ⟨some 113, .mov (.tmp 10), some (112, false), [32, 33]⟩,
          ⟨some 114, .mov (.tmp 2), some (112, false), [31]⟩,
          ⟨some 115, .len (.tmp 114), some (112, false), [31]⟩,
          ⟨some 116, .pur (mkO (.binOp .geq 3 (.tmp 113) (.tmp 115) 3) 4), some (112, false), []⟩,
          ⟨some 117, .mov (.tmp 116), some (112, false), []⟩,
          ⟨some 118, .fad 2 (.tmp 8), some (117, true), [38, 43, 44, 45, 46, 47, 48, 49, 50, 51, 52]⟩,
          ⟨some 119, .load 1 false (.tmp 118), some (117, true), [38, 43, 44, 45, 46, 47, 48, 49, 50, 51, 52]⟩,
          ⟨some 120, .mov (.tmp 10), some (117, true), [36, 37, 43, 44, 45, 46, 47, 48, 49, 50, 51, 52]⟩,
          ⟨some 121, .iad 2 (.tmp 119) (.tmp 120), some (117, true), [43, 44, 45, 46, 47, 48, 49, 50, 51, 52]⟩,
          ⟨some 122, .fad 1 (.tmp 121), some (117, true), [43, 44, 45, 46, 47, 48, 49, 50, 51, 52]⟩,
          ⟨some 123, .load 1 false (.tmp 122), some (117, true), [43, 44, 45, 46, 47, 48, 49, 50, 51, 52]⟩,
          ⟨some 124, .b2s (.tmp 123), some (117, true), [43, 44, 45, 46, 47, 48, 49, 50, 51, 52]⟩,
          ⟨some 125, .fad 2 (.tmp 3), some (117, true), [36, 37, 38, 39, 40, 41, 42, 45, 46, 47, 48]⟩,
          ⟨some 126, .load 1 false (.tmp 125), some (117, true), [36, 37, 38, 39, 40, 41, 42, 45, 46, 47, 48]⟩,
          ⟨some 127, .mov (.tmp 10), some (117, true), [36, 37, 38, 39, 40, 41, 42, 43, 44, 46, 47]⟩,
          ⟨some 128, .mov (.tmp 2), some (117, true), [36, 37, 38, 39, 40, 41, 42, 43, 44, 45]⟩,
          ⟨some 129, .len (.tmp 128), some (117, true), [36, 37, 38, 39, 40, 41, 42, 43, 44, 45]⟩,
          ⟨some 130, .pur (mkO (.binOp .sub 3 (.tmp 127) (.tmp 129) 3) 3), some (117, true), [36, 37, 38, 39, 40, 41, 42, 43, 44]⟩,
          ⟨some 131, .iad 2 (.tmp 126) (.tmp 130), some (117, true), [36, 37, 38, 39, 40, 41, 42]⟩,
          ⟨some 132, .fad 1 (.tmp 131), some (117, true), [36, 37, 38, 39, 40, 41, 42]⟩,
          ⟨some 133, .load 1 false (.tmp 132), some (117, true), [36, 37, 38, 39, 40, 41, 42]⟩,
          ⟨some 134, .b2s (.tmp 133), some (117, true), [36, 37, 38, 39, 40, 41, 42]⟩,
          ⟨some 135, .pur (mkO (.binOp .neq 9 (.tmp 124) (.tmp 134) 9) 4), some (117, true), []⟩,
          ⟨some 136, .pick (.tmp 117) (.tmp 135) (.const (.bool false)), some (112, false), []⟩,
          ⟨some 137, .pick (.tmp 112) (.const (.bool true)) (.tmp 136), none, []⟩] true)
        (.cond (.tmp 137)
          (.seq (.region [⟨some 6, .mov (.const (.bool false)), none, []⟩] false)
          .ret)
          .skip)))
      (.region [⟨some 80, .mov (.tmp 10), none, []⟩,
        ⟨some 81, .pur (mkO (.binOp .add 3 (.tmp 80) (.const (.int .i64 1)) 3) 3), none, []⟩,
        ⟨some 10, .mov (.tmp 81), none, []⟩] false))))))
  (.seq (.region [⟨some 138, .mov (.tmp 7), none, []⟩,
    ⟨some 6, .mov (.tmp 138), none, []⟩] false)
  .ret))))))))
def a3 : AFunc := ⟨139, c3, [.tmp 6], 1⟩

/-- blindstamp/blindstamplaw25.LinkOnce -/
def c4 : ACode :=
  (.seq (.region [⟨some 4, .mov (.const (.bool false)), none, []⟩] false)
  (.seq (.region [⟨some 10, .call (.func 8) [], none, []⟩,
    ⟨some 5, .mov (.tmp 10), none, []⟩] false)
  (.seq (.seq (.region [⟨some 11, .mov (.tmp 1), none, []⟩,
    ⟨some 12, .len (.tmp 11), none, []⟩,
    ⟨some 13, .pur (mkO (.binOp .gtr 3 (.tmp 12) (.const (.int .i64 60)) 3) 4), none, []⟩,
    ⟨some 14, .mov (.tmp 13), none, []⟩,
    ⟨some 15, .mov (.tmp 0), some (14, false), []⟩,
    ⟨some 16, .pur (mkO (.binOp .lss 3 (.tmp 15) (.const (.int .i64 0)) 3) 4), some (14, false), []⟩,
    ⟨some 17, .pick (.tmp 14) (.const (.bool true)) (.tmp 16), none, []⟩,
    ⟨some 18, .mov (.tmp 17), none, []⟩,
    ⟨some 19, .mov (.tmp 0), some (18, false), []⟩,
    ⟨some 20, .pur (mkO (.binOp .geq 3 (.tmp 19) (.const (.int .i64 2147483648)) 3) 4), some (18, false), []⟩,
    ⟨some 21, .pick (.tmp 18) (.const (.bool true)) (.tmp 20), none, []⟩,
    ⟨some 22, .mov (.tmp 21), none, []⟩,
    ⟨some 23, .mov (.tmp 5), some (22, false), []⟩,
    ⟨some 24, .pur (mkO (.unOp .not 4 (.tmp 23)) 4), some (22, false), []⟩,
    ⟨some 25, .pick (.tmp 22) (.const (.bool true)) (.tmp 24), none, []⟩] false)
  (.cond (.tmp 25)
    (.seq (.region [⟨some 26, .mov (.tmp 5), none, []⟩,
      ⟨some 4, .mov (.tmp 26), none, []⟩] false)
    .ret)
    .skip))
  (.seq (.region [⟨some 27, .mov (.tmp 0), none, [2]⟩,
    ⟨some 28, .call (.func 12) [(.tmp 27)], none, [2]⟩,
    ⟨some 6, .alloc 39 (.agg #[(.int .i64 0), (.int .i64 0), (.slice none 0 0), (.int .i64 0), (.int .i64 0), (.bool false), (.int .i64 0), (.int .i64 0), (.slice none 0 0), (.int .i64 0), (.int .i64 0), (.bool false), (.slice none 0 0), (.slice none 0 0), (.slice none 0 0), (.slice none 0 0), (.bool false)]), none, [0, 1]⟩,
    ⟨none, .store 17 (.tmp 6) (.tmp 28), none, []⟩] false)
  (.seq (.seq (.region [⟨some 7, .mov (.const (.int .i64 0)), none, []⟩] false)
  (.block 0 (.loop (.seq (.seq (.region [⟨some 29, .mov (.tmp 7), none, [1, 2]⟩,
        ⟨some 30, .mov (.tmp 1), none, [0]⟩,
        ⟨some 31, .len (.tmp 30), none, [0]⟩,
        ⟨some 32, .pur (mkO (.binOp .lss 3 (.tmp 29) (.tmp 31) 3) 4), none, []⟩,
        ⟨some 33, .mov (.tmp 32), none, []⟩,
        ⟨some 34, .fad 16 (.tmp 6), some (33, true), []⟩,
        ⟨some 35, .load 1 false (.tmp 34), some (33, true), []⟩,
        ⟨some 36, .pick (.tmp 33) (.tmp 35) (.const (.bool false)), none, []⟩] false)
      (.cond (.tmp 36)
        .skip
        (.exit 0)))
      (.seq (.block 1 (.seq (.region [⟨some 39, .load 17 true (.tmp 6), none, [1, 2, 3, 4]⟩,
          ⟨some 40, .mov (.tmp 1), none, [0, 2]⟩,
          ⟨some 41, .mov (.tmp 7), none, [0, 1]⟩,
          ⟨some 42, .iad 2 (.tmp 40) (.tmp 41), none, [0]⟩,
          ⟨some 43, .load 2 true (.tmp 42), none, [0]⟩,
          ⟨some 44, .call (.func 13) [(.tmp 39), (.tmp 43)], none, []⟩,
          ⟨none, .store 17 (.tmp 6) (.tmp 44), none, []⟩] true)
        (.seq (.region [⟨some 45, .fad 15 (.tmp 6), none, []⟩,
          ⟨some 46, .load 1 false (.tmp 45), none, []⟩,
          ⟨some 47, .len (.tmp 46), none, []⟩,
          ⟨some 8, .mov (.tmp 47), none, []⟩] false)
        (.seq (.region [⟨some 48, .mov (.tmp 8), none, [1, 2, 3]⟩,
          ⟨some 49, .fad 14 (.tmp 6), none, [0]⟩,
          ⟨some 50, .load 1 false (.tmp 49), none, [0]⟩,
          ⟨some 51, .len (.tmp 50), none, [0]⟩,
          ⟨some 52, .pur (mkO (.binOp .gtr 3 (.tmp 48) (.tmp 51) 3) 4), none, []⟩,
          ⟨some 53, .mov (.tmp 52), none, []⟩,
          ⟨some 54, .fad 15 (.tmp 6), some (53, false), [9, 10, 11, 12, 13]⟩,
          ⟨some 55, .load 1 false (.tmp 54), some (53, false), [9, 10, 11, 12, 13]⟩,
          ⟨some 56, .b2s (.tmp 55), some (53, false), [9, 10, 11, 12, 13]⟩,
          ⟨some 57, .fad 14 (.tmp 6), some (53, false), [6, 7, 8, 11]⟩,
          ⟨some 58, .load 1 false (.tmp 57), some (53, false), [6, 7, 8, 11]⟩,
          ⟨some 59, .mov (.tmp 8), some (53, false), [6, 7, 8, 9, 10]⟩,
          ⟨some 60, .slc 1 (.tmp 58) none (some (.tmp 59)) none, some (53, false), [6, 7, 8]⟩,
          ⟨some 61, .b2s (.tmp 60), some (53, false), [6, 7, 8]⟩,
          ⟨some 62, .pur (mkO (.binOp .neq 9 (.tmp 56) (.tmp 61) 9) 4), some (53, false), []⟩,
          ⟨some 63, .pick (.tmp 53) (.const (.bool true)) (.tmp 62), none, []⟩,
          ⟨some 64, .mov (.tmp 63), none, []⟩,
          ⟨some 65, .fad 14 (.tmp 6), some (64, false), [20, 21, 22, 23, 25]⟩,
          ⟨some 66, .load 1 false (.tmp 65), some (64, false), [20, 21, 22, 23, 25]⟩,
          ⟨some 67, .len (.tmp 66), some (64, false), [20, 21, 22, 23, 25]⟩,
          ⟨some 68, .fad 0 (.tmp 6), some (64, false), [17, 18, 19, 25]⟩,
          ⟨some 69, .fad 2 (.tmp 68), some (64, false), [17, 18, 19, 25]⟩,
          ⟨some 70, .load 1 false (.tmp 69), some (64, false), [17, 18, 19, 25]⟩,
          ⟨some 71, .len (.tmp 70), some (64, false), [17, 18, 19, 25]⟩,
          ⟨some 72, .pur (mkO (.binOp .sub 3 (.tmp 67) (.tmp 71) 3) 3), some (64, false), [25]⟩,
          ⟨some 73, .mov (.tmp 8), some (64, false), [17, 18, 19, 20, 21, 22, 23, 24]⟩,
          ⟨some 74, .pur (mkO (.binOp .gtr 3 (.tmp 72) (.tmp 73) 3) 4), some (64, false), []⟩,
          ⟨some 75, .pick (.tmp 64) (.const (.bool true)) (.tmp 74), none, []⟩,
          ⟨some 76, .mov (.tmp 75), none, []⟩,
          ⟨some 77, .fad 0 (.tmp 6), some (76, false), []⟩,
          ⟨some 78, .load 6 true (.tmp 77), some (76, false), []⟩,
          ⟨some 79, .call (.func 11) [(.tmp 78)], some (76, false), []⟩,
          ⟨some 80, .pur (mkO (.binOp .neq 28 (.tmp 79) (.const (.int .i64 0)) 28) 4), some (76, false), []⟩,
          ⟨some 81, .pick (.tmp 76) (.const (.bool true)) (.tmp 80), none, []⟩,
          ⟨some 82, .mov (.tmp 81), none, []⟩,
          ⟨some 83, .fad 6 (.tmp 6), some (82, false), []⟩,
          ⟨some 84, .load 6 true (.tmp 83), some (82, false), []⟩,
          ⟨some 85, .call (.func 11) [(.tmp 84)], some (82, false), []⟩,
          ⟨some 86, .pur (mkO (.binOp .neq 28 (.tmp 85) (.const (.int .i64 0)) 28) 4), some (82, false), []⟩,
          ⟨some 87, .pick (.tmp 82) (.const (.bool true)) (.tmp 86), none, []⟩] true)
        (.cond (.tmp 87)
          (.seq (.region [⟨some 4, .mov (.const (.bool false)), none, []⟩] false)
          .ret)
          .skip)))))
      (.region [⟨some 37, .mov (.tmp 7), none, []⟩,
        ⟨some 38, .pur (mkO (.binOp .add 3 (.tmp 37) (.const (.int .i64 1)) 3) 3), none, []⟩,
        ⟨some 7, .mov (.tmp 38), none, []⟩] false))))))
  (.seq (.seq (.region [⟨some 9, .mov (.const (.int .i64 0)), none, []⟩] false)
  (.block 2 (.loop (.seq (.seq (.region [⟨some 88, .mov (.tmp 9), none, [1, 2, 3]⟩,
        ⟨some 89, .fad 14 (.tmp 6), none, [0]⟩,
        ⟨some 90, .load 1 false (.tmp 89), none, [0]⟩,
        ⟨some 91, .len (.tmp 90), none, [0]⟩,
        ⟨some 92, .pur (mkO (.binOp .leq 3 (.tmp 88) (.tmp 91) 3) 4), none, []⟩,
        ⟨some 93, .mov (.tmp 92), none, []⟩,
        ⟨some 94, .fad 16 (.tmp 6), some (93, true), []⟩,
        ⟨some 95, .load 1 false (.tmp 94), some (93, true), []⟩,
        ⟨some 96, .pick (.tmp 93) (.tmp 95) (.const (.bool false)), none, []⟩] false)
      (.cond (.tmp 96)
        .skip
        (.exit 2)))
      (.seq (.block 3 (.region [⟨some 99, .load 17 true (.tmp 6), none, []⟩,
          ⟨some 100, .call (.func 14) [(.tmp 99)], none, []⟩,
          ⟨none, .store 17 (.tmp 6) (.tmp 100), none, []⟩] false))
      (.region [⟨some 97, .mov (.tmp 9), none, []⟩,
        ⟨some 98, .pur (mkO (.binOp .add 3 (.tmp 97) (.const (.int .i64 1)) 3) 3), none, []⟩,
        ⟨some 9, .mov (.tmp 98), none, []⟩] false))))))
  (.seq (.region [⟨some 101, .mov (.tmp 5), none, []⟩,
    ⟨some 102, .mov (.tmp 101), none, []⟩,
    ⟨some 103, .fad 16 (.tmp 6), some (102, true), []⟩,
    ⟨some 104, .load 1 false (.tmp 103), some (102, true), []⟩,
    ⟨some 105, .pick (.tmp 102) (.tmp 104) (.const (.bool false)), none, []⟩,
    ⟨some 106, .mov (.tmp 105), none, []⟩,
    ⟨some 107, .fad 15 (.tmp 6), some (106, true), [9, 10, 11]⟩,
    ⟨some 108, .load 1 false (.tmp 107), some (106, true), [9, 10, 11]⟩,
    ⟨some 109, .b2s (.tmp 108), some (106, true), [9, 10, 11]⟩,
    ⟨some 110, .fad 14 (.tmp 6), some (106, true), [6, 7, 8]⟩,
    ⟨some 111, .load 1 false (.tmp 110), some (106, true), [6, 7, 8]⟩,
    ⟨some 112, .b2s (.tmp 111), some (106, true), [6, 7, 8]⟩,
    ⟨some 113, .pur (mkO (.binOp .eql 9 (.tmp 109) (.tmp 112) 9) 4), some (106, true), []⟩,
    ⟨some 114, .pick (.tmp 106) (.tmp 113) (.const (.bool false)), none, []⟩,
    ⟨some 115, .mov (.tmp 114), none, []⟩,
    ⟨some 116, .fad 0 (.tmp 6), some (115, true), []⟩,
    ⟨some 117, .fad 2 (.tmp 116), some (115, true), []⟩,
    ⟨some 118, .load 1 false (.tmp 117), some (115, true), []⟩,
    ⟨some 119, .len (.tmp 118), some (115, true), []⟩,
    ⟨some 120, .pur (mkO (.binOp .eql 3 (.tmp 119) (.const (.int .i64 0)) 3) 4), some (115, true), []⟩,
    ⟨some 121, .pick (.tmp 115) (.tmp 120) (.const (.bool false)), none, []⟩,
    ⟨some 4, .mov (.tmp 121), none, []⟩] false)
  .ret)))))))
def a4 : AFunc := ⟨122, c4, [.tmp 4], 1⟩

/-- blindstamp/blindstamplaw25.LinkWraps -/
def c5 : ACode :=
  (.seq (.region [⟨some 2, .box 47 (.tmp 0), none, [1]⟩,
    ⟨some 4, .mov (.const (.bool false)), none, [0]⟩] false)
  (.seq (.seq (.region [⟨some 14, .fad 3 (.tmp 2), none, []⟩,
    ⟨some 15, .load 1 false (.tmp 14), none, []⟩,
    ⟨some 16, .len (.tmp 15), none, []⟩,
    ⟨some 17, .pur (mkO (.binOp .gtr 3 (.tmp 16) (.const (.int .i64 2000)) 3) 4), none, []⟩,
    ⟨some 18, .mov (.tmp 17), none, []⟩,
    ⟨some 19, .mov (.tmp 1), some (18, false), []⟩,
    ⟨some 20, .len (.tmp 19), some (18, false), []⟩,
    ⟨some 21, .pur (mkO (.binOp .gtr 3 (.tmp 20) (.const (.int .i64 2000)) 3) 4), some (18, false), []⟩,
    ⟨some 22, .pick (.tmp 18) (.const (.bool true)) (.tmp 21), none, []⟩] false)
  (.cond (.tmp 22)
    (.seq (.region [⟨some 4, .mov (.const (.bool true)), none, []⟩] false)
    .ret)
    .skip))
  (.seq (.region [⟨some 23, .mov (.tmp 1), none, []⟩,
    ⟨some 24, .app 5 1 1 (.int .u8 0) (.const (.slice none 0 0)) (.tmp 23), none, []⟩,
    ⟨some 5, .mov (.tmp 24), none, []⟩] false)
  (.seq (.region [⟨some 26, .load 4 true (.tmp 2), none, []⟩,
    ⟨some 27, .call (.func 15) [(.tmp 26)], none, []⟩,
    ⟨some 25, .mov (.tmp 27), none, []⟩,
    ⟨some 28, .ext (.tmp 25) 0, none, [4]⟩,
    ⟨some 29, .ext (.tmp 25) 1, none, [3, 5]⟩,
    ⟨some 6, .mov (.tmp 28), none, [4]⟩,
    ⟨some 7, .mov (.tmp 29), none, []⟩] false)
  (.seq (.region [⟨some 31, .load 4 true (.tmp 2), none, []⟩,
    ⟨some 32, .call (.func 16) [(.tmp 31)], none, []⟩,
    ⟨some 30, .mov (.tmp 32), none, []⟩,
    ⟨some 33, .ext (.tmp 30) 0, none, [4]⟩,
    ⟨some 34, .ext (.tmp 30) 1, none, [3, 5]⟩,
    ⟨some 8, .mov (.tmp 33), none, [4]⟩,
    ⟨some 9, .mov (.tmp 34), none, []⟩] false)
  (.seq (.region [⟨some 36, .mov (.tmp 5), none, [5]⟩,
    ⟨some 37, .call (.func 17) [(.tmp 36)], none, [5]⟩,
    ⟨some 35, .mov (.tmp 37), none, [5]⟩,
    ⟨some 38, .ext (.tmp 35) 0, none, [4, 5]⟩,
    ⟨some 39, .ext (.tmp 35) 1, none, [3, 5, 6]⟩,
    ⟨some 10, .alloc 47 (.agg #[(.int .i64 0), (.int .i64 0), (.int .i64 0), (.slice none 0 0)]), none, [0, 1, 2, 3, 4]⟩,
    ⟨none, .store 4 (.tmp 10) (.tmp 38), none, [4]⟩,
    ⟨some 11, .mov (.tmp 39), none, []⟩] false)
  (.seq (.region [⟨some 41, .mov (.tmp 1), none, [5]⟩,
    ⟨some 42, .call (.func 18) [(.tmp 41)], none, [5]⟩,
    ⟨some 40, .mov (.tmp 42), none, [5]⟩,
    ⟨some 43, .ext (.tmp 40) 0, none, [4, 5]⟩,
    ⟨some 44, .ext (.tmp 40) 1, none, [3, 5, 6]⟩,
    ⟨some 12, .alloc 47 (.agg #[(.int .i64 0), (.int .i64 0), (.int .i64 0), (.slice none 0 0)]), none, [0, 1, 2, 3, 4]⟩,
    ⟨none, .store 4 (.tmp 12) (.tmp 43), none, [4]⟩,
    ⟨some 13, .mov (.tmp 44), none, []⟩] false)
  (.seq (.region [⟨some 45, .mov (.tmp 6), none, [2, 3]⟩,
    ⟨some 46, .b2s (.tmp 45), none, [2, 3]⟩,
    ⟨some 47, .mov (.tmp 8), none, [0, 1]⟩,
    ⟨some 48, .b2s (.tmp 47), none, [0, 1]⟩,
    ⟨some 49, .pur (mkO (.binOp .eql 9 (.tmp 46) (.tmp 48) 9) 4), none, []⟩,
    ⟨some 50, .mov (.tmp 49), none, []⟩,
    ⟨some 51, .mov (.tmp 7), some (50, true), [7]⟩,
    ⟨some 52, .mov (.tmp 9), some (50, true), [6]⟩,
    ⟨some 53, .pur (mkO (.binOp .eql 3 (.tmp 51) (.tmp 52) 3) 4), some (50, true), []⟩,
    ⟨some 54, .pick (.tmp 50) (.tmp 53) (.const (.bool false)), none, []⟩,
    ⟨some 55, .mov (.tmp 54), none, []⟩,
    ⟨some 56, .load 4 true (.tmp 10), some (55, true), [13, 14]⟩,
    ⟨some 57, .bsl 47 4 (.agg #[(.int .i64 0), (.int .i64 0), (.int .i64 0), (.slice none 0 0)]) 1 [(0, 4, (.tmp 56))], some (55, true), [13, 14]⟩,
    ⟨some 58, .load 4 true (.tmp 12), some (55, true), [11, 12]⟩,
    ⟨some 59, .bsl 47 4 (.agg #[(.int .i64 0), (.int .i64 0), (.int .i64 0), (.slice none 0 0)]) 1 [(0, 4, (.tmp 58))], some (55, true), [11, 12]⟩,
    ⟨some 60, .call (.func 19) [(.tmp 57), (.tmp 59)], some (55, true), []⟩,
    ⟨some 61, .pick (.tmp 55) (.tmp 60) (.const (.bool false)), none, []⟩,
    ⟨some 62, .mov (.tmp 61), none, []⟩,
    ⟨some 63, .mov (.tmp 11), some (62, true), [19]⟩,
    ⟨some 64, .mov (.tmp 13), some (62, true), [18]⟩,
    ⟨some 65, .pur (mkO (.binOp .eql 3 (.tmp 63) (.tmp 64) 3) 4), some (62, true), []⟩,
    ⟨some 66, .pick (.tmp 62) (.tmp 65) (.const (.bool false)), none, []⟩,
    ⟨some 67, .mov (.tmp 66), none, []⟩,
    ⟨some 68, .load 4 true (.tmp 2), some (67, true), [25]⟩,
    ⟨some 69, .call (.func 20) [(.tmp 68)], some (67, true), [25]⟩,
    ⟨some 70, .load 4 true (.tmp 2), some (67, true), [23, 24]⟩,
    ⟨some 71, .call (.func 21) [(.tmp 70)], some (67, true), []⟩,
    ⟨some 72, .pur (mkO (.binOp .eql 3 (.tmp 69) (.tmp 71) 3) 4), some (67, true), []⟩,
    ⟨some 73, .pick (.tmp 67) (.tmp 72) (.const (.bool false)), none, []⟩,
    ⟨some 74, .mov (.tmp 73), none, []⟩,
    ⟨some 75, .mov (.tmp 5), some (74, true), [32, 33]⟩,
    ⟨some 76, .b2s (.tmp 75), some (74, true), [32, 33]⟩,
    ⟨some 77, .mov (.tmp 1), some (74, true), [30, 31]⟩,
    ⟨some 78, .b2s (.tmp 77), some (74, true), [30, 31]⟩,
    ⟨some 79, .pur (mkO (.binOp .eql 9 (.tmp 76) (.tmp 78) 9) 4), some (74, true), []⟩,
    ⟨some 80, .pick (.tmp 74) (.tmp 79) (.const (.bool false)), none, []⟩,
    ⟨some 4, .mov (.tmp 80), none, []⟩] true)
  .ret))))))))
def a5 : AFunc := ⟨81, c5, [.tmp 4], 1⟩

/-- blindstamp/blindstamplaw25.LinkFrames -/
def c6 : ACode :=
  (.seq (.region [⟨some 3, .box 47 (.tmp 0), none, [1]⟩,
    ⟨some 6, .mov (.const (.bool false)), none, [0]⟩] false)
  (.seq (.region [⟨some 19, .call (.func 8) [], none, []⟩,
    ⟨some 7, .mov (.tmp 19), none, []⟩] false)
  (.seq (.seq (.region [⟨some 20, .fad 3 (.tmp 3), none, []⟩,
    ⟨some 21, .load 1 false (.tmp 20), none, []⟩,
    ⟨some 22, .len (.tmp 21), none, []⟩,
    ⟨some 23, .pur (mkO (.binOp .gtr 3 (.tmp 22) (.const (.int .i64 2000)) 3) 4), none, []⟩,
    ⟨some 24, .mov (.tmp 23), none, []⟩,
    ⟨some 25, .mov (.tmp 1), some (24, false), [7, 8, 9]⟩,
    ⟨some 26, .len (.tmp 25), some (24, false), [7, 8, 9]⟩,
    ⟨some 27, .fad 3 (.tmp 3), some (24, false), [5, 6]⟩,
    ⟨some 28, .load 1 false (.tmp 27), some (24, false), [5, 6]⟩,
    ⟨some 29, .len (.tmp 28), some (24, false), [5, 6]⟩,
    ⟨some 30, .pur (mkO (.binOp .lss 3 (.tmp 26) (.tmp 29) 3) 4), some (24, false), []⟩,
    ⟨some 31, .pick (.tmp 24) (.const (.bool true)) (.tmp 30), none, []⟩,
    ⟨some 32, .mov (.tmp 31), none, []⟩,
    ⟨some 33, .mov (.tmp 2), some (32, false), []⟩,
    ⟨some 34, .len (.tmp 33), some (32, false), []⟩,
    ⟨some 35, .pur (mkO (.binOp .gtr 3 (.tmp 34) (.const (.int .i64 2000)) 3) 4), some (32, false), []⟩,
    ⟨some 36, .pick (.tmp 32) (.const (.bool true)) (.tmp 35), none, []⟩,
    ⟨some 37, .mov (.tmp 36), none, []⟩,
    ⟨some 38, .mov (.tmp 7), some (37, false), []⟩,
    ⟨some 39, .pur (mkO (.unOp .not 4 (.tmp 38)) 4), some (37, false), []⟩,
    ⟨some 40, .pick (.tmp 37) (.const (.bool true)) (.tmp 39), none, []⟩] false)
  (.cond (.tmp 40)
    (.seq (.region [⟨some 41, .mov (.tmp 7), none, []⟩,
      ⟨some 6, .mov (.tmp 41), none, []⟩] false)
    .ret)
    .skip))
  (.seq (.region [⟨some 43, .load 4 true (.tmp 3), none, []⟩,
    ⟨some 44, .call (.func 15) [(.tmp 43)], none, []⟩,
    ⟨some 42, .mov (.tmp 44), none, []⟩,
    ⟨some 45, .ext (.tmp 42) 0, none, [4]⟩,
    ⟨some 46, .ext (.tmp 42) 1, none, [3, 5]⟩,
    ⟨some 8, .mov (.tmp 45), none, [4]⟩,
    ⟨some 9, .mov (.tmp 46), none, []⟩] false)
  (.seq (.seq (.region [⟨some 47, .mov (.tmp 9), none, []⟩,
    ⟨some 48, .pur (mkO (.binOp .eql 28 (.tmp 47) (.const (.int .i64 0)) 28) 4), none, []⟩] false)
  (.cond (.tmp 48)
    (.seq (.region [⟨some 50, .mov (.tmp 8), none, [5]⟩,
      ⟨some 51, .call (.func 17) [(.tmp 50)], none, [5]⟩,
      ⟨some 49, .mov (.tmp 51), none, [5]⟩,
      ⟨some 52, .ext (.tmp 49) 0, none, [4, 5]⟩,
      ⟨some 53, .ext (.tmp 49) 1, none, [3, 5, 6]⟩,
      ⟨some 10, .alloc 47 (.agg #[(.int .i64 0), (.int .i64 0), (.int .i64 0), (.slice none 0 0)]), none, [0, 1, 2, 3, 4]⟩,
      ⟨none, .store 4 (.tmp 10) (.tmp 52), none, [4]⟩,
      ⟨some 11, .mov (.tmp 53), none, []⟩] false)
    (.seq (.region [⟨some 54, .load 4 true (.tmp 3), none, [1]⟩,
      ⟨some 12, .alloc 47 (.agg #[(.int .i64 0), (.int .i64 0), (.int .i64 0), (.slice none 0 0)]), none, [0]⟩,
      ⟨none, .store 4 (.tmp 12) (.tmp 54), none, []⟩] false)
    (.seq (.region [⟨some 55, .mov (.tmp 1), none, [1, 2, 3]⟩,
      ⟨some 56, .fad 3 (.tmp 3), none, [0]⟩,
      ⟨some 57, .load 1 false (.tmp 56), none, [0]⟩,
      ⟨some 58, .len (.tmp 57), none, [0]⟩,
      ⟨some 59, .slc 1 (.tmp 55) none (some (.tmp 58)) none, none, []⟩,
      ⟨some 60, .fad 3 (.tmp 12), none, []⟩,
      ⟨none, .store 1 (.tmp 60) (.tmp 59), none, []⟩] false)
    (.seq (.region [⟨some 62, .load 4 true (.tmp 12), none, []⟩,
      ⟨some 63, .call (.func 15) [(.tmp 62)], none, []⟩,
      ⟨some 61, .mov (.tmp 63), none, []⟩,
      ⟨some 64, .ext (.tmp 61) 0, none, [4]⟩,
      ⟨some 65, .ext (.tmp 61) 1, none, [3, 5]⟩,
      ⟨some 13, .mov (.tmp 64), none, [4]⟩,
      ⟨some 14, .mov (.tmp 65), none, []⟩] false)
    (.seq (.region [⟨some 66, .mov (.tmp 11), none, []⟩,
      ⟨some 67, .pur (mkO (.binOp .neq 28 (.tmp 66) (.const (.int .i64 0)) 28) 4), none, []⟩,
      ⟨some 68, .mov (.tmp 67), none, []⟩,
      ⟨some 69, .load 4 true (.tmp 10), some (68, false), [5, 6]⟩,
      ⟨some 70, .bsl 47 4 (.agg #[(.int .i64 0), (.int .i64 0), (.int .i64 0), (.slice none 0 0)]) 1 [(0, 4, (.tmp 69))], some (68, false), [5, 6]⟩,
      ⟨some 71, .load 4 true (.tmp 3), some (68, false), [3, 4]⟩,
      ⟨some 72, .bsl 47 4 (.agg #[(.int .i64 0), (.int .i64 0), (.int .i64 0), (.slice none 0 0)]) 1 [(0, 4, (.tmp 71))], some (68, false), [3, 4]⟩,
      ⟨some 73, .call (.func 19) [(.tmp 70), (.tmp 72)], some (68, false), []⟩,
      ⟨some 74, .pur (mkO (.unOp .not 4 (.tmp 73)) 4), some (68, false), []⟩,
      ⟨some 75, .pick (.tmp 68) (.const (.bool true)) (.tmp 74), none, []⟩,
      ⟨some 76, .mov (.tmp 75), none, []⟩,
      ⟨some 77, .mov (.tmp 14), some (76, false), []⟩,
      ⟨some 78, .pur (mkO (.binOp .neq 28 (.tmp 77) (.const (.int .i64 0)) 28) 4), some (76, false), []⟩,
      ⟨some 79, .pick (.tmp 76) (.const (.bool true)) (.tmp 78), none, []⟩,
      ⟨some 80, .mov (.tmp 79), none, []⟩,
      ⟨some 81, .mov (.tmp 8), some (80, false), [17, 18]⟩,
      ⟨some 82, .len (.tmp 81), some (80, false), [17, 18]⟩,
      ⟨some 83, .mov (.tmp 13), some (80, false), [15, 16]⟩,
      ⟨some 84, .len (.tmp 83), some (80, false), [15, 16]⟩,
      ⟨some 85, .pur (mkO (.binOp .neq 3 (.tmp 82) (.tmp 84) 3) 4), some (80, false), []⟩,
      ⟨some 86, .pick (.tmp 80) (.const (.bool true)) (.tmp 85), none, []⟩] false)
    (.cond (.tmp 86)
      (.seq (.region [⟨some 6, .mov (.const (.bool false)), none, []⟩] false)
      .ret)
      .skip))))))
    .skip))
  (.seq (.region [⟨some 88, .mov (.tmp 2), none, [5]⟩,
    ⟨some 89, .call (.func 17) [(.tmp 88)], none, [5]⟩,
    ⟨some 87, .mov (.tmp 89), none, [5]⟩,
    ⟨some 90, .ext (.tmp 87) 0, none, [4, 5]⟩,
    ⟨some 91, .ext (.tmp 87) 1, none, [3, 5, 6]⟩,
    ⟨some 15, .alloc 47 (.agg #[(.int .i64 0), (.int .i64 0), (.int .i64 0), (.slice none 0 0)]), none, [0, 1, 2, 3, 4]⟩,
    ⟨none, .store 4 (.tmp 15) (.tmp 90), none, [4]⟩,
    ⟨some 16, .mov (.tmp 91), none, []⟩] false)
  (.seq (.seq (.region [⟨some 92, .mov (.tmp 16), none, []⟩,
    ⟨some 93, .pur (mkO (.binOp .neq 28 (.tmp 92) (.const (.int .i64 0)) 28) 4), none, []⟩] false)
  (.cond (.tmp 93)
    (.seq (.region [⟨some 94, .mov (.tmp 7), none, []⟩,
      ⟨some 95, .mov (.tmp 94), none, []⟩,
      ⟨some 96, .fad 1 (.tmp 15), some (95, true), []⟩,
      ⟨some 97, .load 1 false (.tmp 96), some (95, true), []⟩,
      ⟨some 98, .pur (mkO (.binOp .eql 3 (.tmp 97) (.const (.int .i64 0)) 3) 4), some (95, true), []⟩,
      ⟨some 99, .pick (.tmp 95) (.tmp 98) (.const (.bool false)), none, []⟩,
      ⟨some 100, .mov (.tmp 99), none, []⟩,
      ⟨some 101, .fad 3 (.tmp 15), some (100, true), []⟩,
      ⟨some 102, .load 1 false (.tmp 101), some (100, true), []⟩,
      ⟨some 103, .len (.tmp 102), some (100, true), []⟩,
      ⟨some 104, .pur (mkO (.binOp .eql 3 (.tmp 103) (.const (.int .i64 0)) 3) 4), some (100, true), []⟩,
      ⟨some 105, .pick (.tmp 100) (.tmp 104) (.const (.bool false)), none, []⟩,
      ⟨some 6, .mov (.tmp 105), none, []⟩] false)
    .ret)
    .skip))
  (.seq (.region [⟨some 107, .load 4 true (.tmp 15), none, []⟩,
    ⟨some 108, .call (.func 15) [(.tmp 107)], none, []⟩,
    ⟨some 106, .mov (.tmp 108), none, []⟩,
    ⟨some 109, .ext (.tmp 106) 0, none, [4]⟩,
    ⟨some 110, .ext (.tmp 106) 1, none, [3, 5]⟩,
    ⟨some 17, .mov (.tmp 109), none, [4]⟩,
    ⟨some 18, .mov (.tmp 110), none, []⟩] false)
  (.seq (.region [⟨some 111, .mov (.tmp 7), none, []⟩,
    ⟨some 112, .mov (.tmp 111), none, []⟩,
    ⟨some 113, .mov (.tmp 18), some (112, true), []⟩,
    ⟨some 114, .pur (mkO (.binOp .eql 28 (.tmp 113) (.const (.int .i64 0)) 28) 4), some (112, true), []⟩,
    ⟨some 115, .pick (.tmp 112) (.tmp 114) (.const (.bool false)), none, []⟩,
    ⟨some 116, .mov (.tmp 115), none, []⟩,
    ⟨some 117, .mov (.tmp 17), some (116, true), [8, 9]⟩,
    ⟨some 118, .b2s (.tmp 117), some (116, true), [8, 9]⟩,
    ⟨some 119, .mov (.tmp 2), some (116, true), [6, 7]⟩,
    ⟨some 120, .b2s (.tmp 119), some (116, true), [6, 7]⟩,
    ⟨some 121, .pur (mkO (.binOp .eql 9 (.tmp 118) (.tmp 120) 9) 4), some (116, true), []⟩,
    ⟨some 122, .pick (.tmp 116) (.tmp 121) (.const (.bool false)), none, []⟩,
    ⟨some 6, .mov (.tmp 122), none, []⟩] false)
  .ret)))))))))
def a6 : AFunc := ⟨123, c6, [.tmp 6], 1⟩

/-- blindstamp/blindstamplaw25.LinkNames -/
def c7 : ACode :=
  (.seq (.region [⟨some 0, .mov (.const (.bool false)), none, []⟩] false)
  (.seq (.seq (.region [⟨some 32, .call (.func 8) [], none, []⟩,
    ⟨some 33, .pur (mkO (.unOp .not 4 (.tmp 32)) 4), none, []⟩] false)
  (.cond (.tmp 33)
    (.seq (.region [⟨some 0, .mov (.const (.bool false)), none, []⟩] false)
    .ret)
    .skip))
  (.seq (.region [⟨some 35, .call (.func 22) [(.const (.int .i64 1))], none, [4]⟩,
    ⟨some 34, .mov (.tmp 35), none, [4]⟩,
    ⟨some 36, .ext (.tmp 34) 0, none, [3, 4]⟩,
    ⟨some 37, .ext (.tmp 34) 1, none, [2, 4, 5]⟩,
    ⟨some 1, .alloc 24 (.agg #[(.int .i64 0), (.int .i64 0), (.slice none 0 0), (.int .i64 0), (.int .i64 0), (.bool false)]), none, [0, 1, 2, 3]⟩,
    ⟨none, .store 6 (.tmp 1) (.tmp 36), none, [3]⟩,
    ⟨some 2, .mov (.tmp 37), none, []⟩] false)
  (.seq (.region [⟨some 39, .load 6 true (.tmp 1), none, [1, 2]⟩,
    ⟨some 40, .bsl 5 1 (.int .u8 0) 1 [(0, 1, (.const (.int .u8 97)))], none, [0]⟩,
    ⟨some 41, .mrk (.tmp 40), none, [0]⟩,
    ⟨some 42, .call (.func 23) [(.tmp 39), (.tmp 41)], none, []⟩,
    ⟨some 38, .mov (.tmp 42), none, []⟩,
    ⟨some 43, .ext (.tmp 38) 0, none, [6]⟩,
    ⟨some 44, .ext (.tmp 38) 1, none, [5, 7]⟩,
    ⟨none, .store 6 (.tmp 1) (.tmp 43), none, [6]⟩] false)
  (.seq (.region [⟨some 46, .load 6 true (.tmp 1), none, [1, 2]⟩,
    ⟨some 47, .bsl 5 1 (.int .u8 0) 1 [(0, 1, (.const (.int .u8 98)))], none, [0]⟩,
    ⟨some 48, .mrk (.tmp 47), none, [0]⟩,
    ⟨some 49, .call (.func 23) [(.tmp 46), (.tmp 48)], none, []⟩,
    ⟨some 45, .mov (.tmp 49), none, []⟩,
    ⟨some 50, .ext (.tmp 45) 0, none, [6]⟩,
    ⟨some 51, .ext (.tmp 45) 1, none, [5, 7]⟩,
    ⟨none, .store 6 (.tmp 1) (.tmp 50), none, [6]⟩] false)
  (.seq (.region [⟨some 53, .load 6 true (.tmp 1), none, []⟩,
    ⟨some 54, .call (.func 24) [(.tmp 53)], none, []⟩,
    ⟨some 52, .mov (.tmp 54), none, []⟩,
    ⟨some 55, .ext (.tmp 52) 0, none, [4, 5]⟩,
    ⟨some 56, .ext (.tmp 52) 1, none, [3, 5, 6]⟩,
    ⟨some 57, .ext (.tmp 52) 2, none, [3, 4, 6, 7]⟩,
    ⟨none, .store 6 (.tmp 1) (.tmp 55), none, [4, 5]⟩,
    ⟨some 3, .mov (.tmp 56), none, [5]⟩,
    ⟨some 4, .mov (.tmp 57), none, []⟩] false)
  (.seq (.region [⟨some 59, .call (.func 22) [(.const (.int .i64 1))], none, [4]⟩,
    ⟨some 58, .mov (.tmp 59), none, [4]⟩,
    ⟨some 60, .ext (.tmp 58) 0, none, [3, 4]⟩,
    ⟨some 61, .ext (.tmp 58) 1, none, [2, 4, 5]⟩,
    ⟨some 5, .alloc 24 (.agg #[(.int .i64 0), (.int .i64 0), (.slice none 0 0), (.int .i64 0), (.int .i64 0), (.bool false)]), none, [0, 1, 2, 3]⟩,
    ⟨none, .store 6 (.tmp 5) (.tmp 60), none, [3]⟩,
    ⟨some 6, .mov (.tmp 61), none, []⟩] false)
  (.seq (.region [⟨some 63, .load 6 true (.tmp 5), none, [1, 2, 3]⟩,
    ⟨some 64, .mov (.tmp 3), none, [0]⟩,
    ⟨some 65, .iad 4 (.tmp 64) (.const (.int .i64 1)), none, [0]⟩,
    ⟨some 66, .load 4 true (.tmp 65), none, [0]⟩,
    ⟨some 67, .call (.func 25) [(.tmp 63), (.tmp 66)], none, []⟩,
    ⟨some 62, .mov (.tmp 67), none, []⟩,
    ⟨some 68, .ext (.tmp 62) 0, none, [7, 8, 9]⟩,
    ⟨some 69, .ext (.tmp 62) 1, none, [6, 8, 9, 10]⟩,
    ⟨some 70, .ext (.tmp 62) 2, none, [6, 7, 9, 10, 11]⟩,
    ⟨some 71, .ext (.tmp 62) 3, none, [6, 7, 8, 10, 11, 12]⟩,
    ⟨none, .store 6 (.tmp 5) (.tmp 68), none, [7, 8, 9]⟩,
    ⟨some 7, .mov (.tmp 69), none, [8, 9]⟩,
    ⟨some 8, .mov (.tmp 70), none, [9]⟩,
    ⟨some 9, .mov (.tmp 71), none, []⟩] true)
  (.seq (.region [⟨some 72, .fad 5 (.tmp 5), none, []⟩,
    ⟨some 73, .load 1 false (.tmp 72), none, []⟩,
    ⟨some 10, .mov (.tmp 73), none, []⟩] false)
  (.seq (.region [⟨some 75, .load 6 true (.tmp 5), none, [1, 2, 3]⟩,
    ⟨some 76, .mov (.tmp 3), none, [0]⟩,
    ⟨some 77, .iad 4 (.tmp 76) (.const (.int .i64 0)), none, [0]⟩,
    ⟨some 78, .load 4 true (.tmp 77), none, [0]⟩,
    ⟨some 79, .call (.func 25) [(.tmp 75), (.tmp 78)], none, []⟩,
    ⟨some 74, .mov (.tmp 79), none, []⟩,
    ⟨some 80, .ext (.tmp 74) 0, none, [7, 8, 9]⟩,
    ⟨some 81, .ext (.tmp 74) 1, none, [6, 8, 9, 10]⟩,
    ⟨some 82, .ext (.tmp 74) 2, none, [6, 7, 9, 10, 11]⟩,
    ⟨some 83, .ext (.tmp 74) 3, none, [6, 7, 8, 10, 11, 12]⟩,
    ⟨none, .store 6 (.tmp 5) (.tmp 80), none, [7, 8, 9]⟩,
    ⟨some 11, .mov (.tmp 81), none, [8, 9]⟩,
    ⟨some 12, .mov (.tmp 82), none, [9]⟩,
    ⟨some 13, .mov (.tmp 83), none, []⟩] true)
  (.seq (.region [⟨some 85, .load 6 true (.tmp 5), none, [6]⟩,
    ⟨some 86, .call (.func 24) [(.tmp 85)], none, [6]⟩,
    ⟨some 84, .mov (.tmp 86), none, [6]⟩,
    ⟨some 87, .ext (.tmp 84) 0, none, [4, 5, 6]⟩,
    ⟨some 88, .ext (.tmp 84) 1, none, [3, 5, 6, 7]⟩,
    ⟨some 89, .ext (.tmp 84) 2, none, [3, 4, 6, 7, 8]⟩,
    ⟨some 14, .alloc 24 (.agg #[(.int .i64 0), (.int .i64 0), (.slice none 0 0), (.int .i64 0), (.int .i64 0), (.bool false)]), none, [0, 1, 2, 3, 4, 5]⟩,
    ⟨none, .store 6 (.tmp 14) (.tmp 87), none, [4, 5]⟩,
    ⟨some 15, .mov (.tmp 88), none, [5]⟩,
    ⟨some 16, .mov (.tmp 89), none, []⟩] false)
  (.seq (.seq (.region [⟨some 90, .mov (.tmp 15), none, []⟩,
    ⟨some 91, .len (.tmp 90), none, []⟩,
    ⟨some 92, .pur (mkO (.binOp .neq 3 (.tmp 91) (.const (.int .i64 1)) 3) 4), none, []⟩] false)
  (.cond (.tmp 92)
    (.seq (.region [⟨some 0, .mov (.const (.bool false)), none, []⟩] false)
    .ret)
    .skip))
  (.seq (.region [⟨some 94, .load 6 true (.tmp 1), none, [1, 2, 3, 10]⟩,
    ⟨some 95, .mov (.tmp 15), none, [0, 10]⟩,
    ⟨some 96, .iad 4 (.tmp 95) (.const (.int .i64 0)), none, [0, 10]⟩,
    ⟨some 97, .load 4 true (.tmp 96), none, [0, 10]⟩,
    ⟨some 98, .call (.func 25) [(.tmp 94), (.tmp 97)], none, [10]⟩,
    ⟨some 93, .mov (.tmp 98), none, [10]⟩,
    ⟨some 99, .ext (.tmp 93) 0, none, [7, 8, 9, 10]⟩,
    ⟨some 100, .ext (.tmp 93) 1, none, [6, 8, 9, 10, 11]⟩,
    ⟨some 101, .ext (.tmp 93) 2, none, [6, 7, 9, 10, 11, 12]⟩,
    ⟨some 102, .ext (.tmp 93) 3, none, [6, 7, 8, 10, 11, 12, 13]⟩,
    ⟨some 17, .alloc 24 (.agg #[(.int .i64 0), (.int .i64 0), (.slice none 0 0), (.int .i64 0), (.int .i64 0), (.bool false)]), none, [0, 1, 2, 3, 4, 5, 6, 7, 8, 9]⟩,
    ⟨none, .store 6 (.tmp 17) (.tmp 99), none, [7, 8, 9]⟩,
    ⟨some 18, .mov (.tmp 100), none, [8, 9]⟩,
    ⟨some 19, .mov (.tmp 101), none, [9]⟩,
    ⟨some 20, .mov (.tmp 102), none, []⟩] true)
  (.seq (.region [⟨some 104, .load 6 true (.tmp 5), none, [1, 8]⟩,
    ⟨some 105, .build (.agg #[(.int .i64 0), (.int .i64 0), (.int .i64 0), (.slice none 0 0)]) [(0, 1, (.const (.int .i64 2))), (1, 1, (.const (.int .i64 2)))], none, [0, 8]⟩,
    ⟨some 106, .call (.func 25) [(.tmp 104), (.tmp 105)], none, [8]⟩,
    ⟨some 103, .mov (.tmp 106), none, [8]⟩,
    ⟨some 107, .ext (.tmp 103) 0, none, [5, 6, 7, 8]⟩,
    ⟨some 108, .ext (.tmp 103) 1, none, [4, 6, 7, 8, 9]⟩,
    ⟨some 109, .ext (.tmp 103) 2, none, [4, 5, 7, 8, 9, 10]⟩,
    ⟨some 110, .ext (.tmp 103) 3, none, [4, 5, 6, 8, 9, 10, 11]⟩,
    ⟨some 21, .alloc 24 (.agg #[(.int .i64 0), (.int .i64 0), (.slice none 0 0), (.int .i64 0), (.int .i64 0), (.bool false)]), none, [0, 1, 2, 3, 4, 5, 6, 7]⟩,
    ⟨none, .store 6 (.tmp 21) (.tmp 107), none, [5, 6, 7]⟩,
    ⟨some 22, .mov (.tmp 108), none, [6, 7]⟩,
    ⟨some 23, .mov (.tmp 109), none, [7]⟩,
    ⟨some 24, .mov (.tmp 110), none, []⟩] false)
  (.seq (.region [⟨some 112, .call (.func 22) [(.const (.int .i64 (-1)))], none, [4]⟩,
    ⟨some 111, .mov (.tmp 112), none, [4]⟩,
    ⟨some 113, .ext (.tmp 111) 0, none, [3, 4]⟩,
    ⟨some 114, .ext (.tmp 111) 1, none, [2, 4, 5]⟩,
    ⟨some 25, .alloc 24 (.agg #[(.int .i64 0), (.int .i64 0), (.slice none 0 0), (.int .i64 0), (.int .i64 0), (.bool false)]), none, [0, 1, 2, 3]⟩,
    ⟨none, .store 6 (.tmp 25) (.tmp 113), none, [3]⟩,
    ⟨some 26, .mov (.tmp 114), none, []⟩] false)
  (.seq (.region [⟨some 116, .load 6 true (.tmp 1), none, [1, 6]⟩,
    ⟨some 117, .mksl 5 1 1 (.int .u8 0) (.const (.int .i64 901)) (.const (.int .i64 901)), none, [0, 6]⟩,
    ⟨some 118, .call (.func 23) [(.tmp 116), (.tmp 117)], none, [6]⟩,
    ⟨some 115, .mov (.tmp 118), none, [6]⟩,
    ⟨some 119, .ext (.tmp 115) 0, none, [5, 6]⟩,
    ⟨some 120, .ext (.tmp 115) 1, none, [4, 6, 7]⟩,
    ⟨some 27, .alloc 24 (.agg #[(.int .i64 0), (.int .i64 0), (.slice none 0 0), (.int .i64 0), (.int .i64 0), (.bool false)]), none, [0, 1, 2, 3, 4, 5]⟩,
    ⟨none, .store 6 (.tmp 27) (.tmp 119), none, [5]⟩,
    ⟨some 28, .mov (.tmp 120), none, []⟩] true)
  (.seq (.region [⟨some 122, .call (.func 17) [(.const (.slice none 0 0))], none, [4]⟩,
    ⟨some 121, .mov (.tmp 122), none, [4]⟩,
    ⟨some 123, .ext (.tmp 121) 0, none, [3, 4]⟩,
    ⟨some 124, .ext (.tmp 121) 1, none, [2, 4, 5]⟩,
    ⟨some 29, .alloc 47 (.agg #[(.int .i64 0), (.int .i64 0), (.int .i64 0), (.slice none 0 0)]), none, [0, 1, 2, 3]⟩,
    ⟨none, .store 4 (.tmp 29) (.tmp 123), none, [3]⟩,
    ⟨some 30, .mov (.tmp 124), none, []⟩] false)
  (.seq (.region [⟨some 125, .mov (.tmp 9), none, []⟩,
    ⟨some 126, .pur (mkO (.binOp .eql 28 (.tmp 125) (.const (.int .i64 0)) 28) 4), none, []⟩,
    ⟨some 127, .mov (.tmp 126), none, []⟩,
    ⟨some 128, .mov (.tmp 8), some (127, true), []⟩,
    ⟨some 129, .pur (mkO (.unOp .not 4 (.tmp 128)) 4), some (127, true), []⟩,
    ⟨some 130, .pick (.tmp 127) (.tmp 129) (.const (.bool false)), none, []⟩,
    ⟨some 131, .mov (.tmp 130), none, []⟩,
    ⟨some 132, .mov (.tmp 10), some (131, true), []⟩,
    ⟨some 133, .pick (.tmp 131) (.tmp 132) (.const (.bool false)), none, []⟩,
    ⟨some 134, .mov (.tmp 133), none, []⟩,
    ⟨some 135, .mov (.tmp 13), some (134, true), []⟩,
    ⟨some 136, .pur (mkO (.binOp .eql 28 (.tmp 135) (.const (.int .i64 0)) 28) 4), some (134, true), []⟩,
    ⟨some 137, .pick (.tmp 134) (.tmp 136) (.const (.bool false)), none, []⟩,
    ⟨some 138, .mov (.tmp 137), none, []⟩,
    ⟨some 139, .mov (.tmp 12), some (138, true), []⟩,
    ⟨some 140, .pick (.tmp 138) (.tmp 139) (.const (.bool false)), none, []⟩,
    ⟨some 141, .mov (.tmp 140), none, []⟩,
    ⟨some 142, .mov (.tmp 11), some (141, true), []⟩,
    ⟨some 143, .b2s (.tmp 142), some (141, true), []⟩,
    ⟨some 144, .pur (mkO (.binOp .eql 9 (.tmp 143) (.const (.string ⟨#[97]⟩)) 9) 4), some (141, true), []⟩,
    ⟨some 145, .pick (.tmp 141) (.tmp 144) (.const (.bool false)), none, []⟩,
    ⟨some 146, .mov (.tmp 145), none, []⟩,
    ⟨some 147, .fad 3 (.tmp 5), some (146, true), []⟩,
    ⟨some 148, .load 1 false (.tmp 147), some (146, true), []⟩,
    ⟨some 149, .pur (mkO (.binOp .eql 3 (.tmp 148) (.const (.int .i64 2)) 3) 4), some (146, true), []⟩,
    ⟨some 150, .pick (.tmp 146) (.tmp 149) (.const (.bool false)), none, []⟩,
    ⟨some 151, .mov (.tmp 150), none, []⟩,
    ⟨some 152, .mov (.tmp 16), some (151, true), []⟩,
    ⟨some 153, .pur (mkO (.binOp .eql 28 (.tmp 152) (.const (.int .i64 0)) 28) 4), some (151, true), []⟩,
    ⟨some 154, .pick (.tmp 151) (.tmp 153) (.const (.bool false)), none, []⟩,
    ⟨some 155, .mov (.tmp 154), none, []⟩,
    ⟨some 156, .mov (.tmp 15), some (155, true), []⟩,
    ⟨some 157, .iad 4 (.tmp 156) (.const (.int .i64 0)), some (155, true), []⟩,
    ⟨some 158, .fad 1 (.tmp 157), some (155, true), []⟩,
    ⟨some 159, .load 1 false (.tmp 158), some (155, true), []⟩,
    ⟨some 160, .pur (mkO (.binOp .eql 3 (.tmp 159) (.const (.int .i64 0)) 3) 4), some (155, true), []⟩,
    ⟨some 161, .pick (.tmp 155) (.tmp 160) (.const (.bool false)), none, []⟩,
    ⟨some 162, .mov (.tmp 161), none, []⟩,
    ⟨some 163, .mov (.tmp 15), some (162, true), []⟩,
    ⟨some 164, .iad 4 (.tmp 163) (.const (.int .i64 0)), some (162, true), []⟩,
    ⟨some 165, .fad 2 (.tmp 164), some (162, true), []⟩,
    ⟨some 166, .load 1 false (.tmp 165), some (162, true), []⟩,
    ⟨some 167, .pur (mkO (.binOp .eql 3 (.tmp 166) (.const (.int .i64 1)) 3) 4), some (162, true), []⟩,
    ⟨some 168, .pick (.tmp 162) (.tmp 167) (.const (.bool false)), none, []⟩,
    ⟨some 31, .mov (.tmp 168), none, []⟩] false)
  (.seq (.region [⟨some 169, .mov (.const (.bool true)), none, []⟩,
    ⟨some 170, .mov (.tmp 31), some (169, true), []⟩,
    ⟨some 171, .pick (.tmp 169) (.tmp 170) (.const (.bool false)), none, []⟩,
    ⟨some 172, .mov (.tmp 171), none, []⟩,
    ⟨some 173, .mov (.tmp 20), some (172, true), []⟩,
    ⟨some 174, .pur (mkO (.binOp .eql 28 (.tmp 173) (.const (.int .i64 0)) 28) 4), some (172, true), []⟩,
    ⟨some 175, .pick (.tmp 172) (.tmp 174) (.const (.bool false)), none, []⟩,
    ⟨some 176, .mov (.tmp 175), none, []⟩,
    ⟨some 177, .mov (.tmp 19), some (176, true), []⟩,
    ⟨some 178, .pur (mkO (.unOp .not 4 (.tmp 177)) 4), some (176, true), []⟩,
    ⟨some 179, .pick (.tmp 176) (.tmp 178) (.const (.bool false)), none, []⟩,
    ⟨some 180, .mov (.tmp 179), none, []⟩,
    ⟨some 181, .fad 2 (.tmp 17), some (180, true), []⟩,
    ⟨some 182, .load 1 false (.tmp 181), some (180, true), []⟩,
    ⟨some 183, .len (.tmp 182), some (180, true), []⟩,
    ⟨some 184, .pur (mkO (.binOp .eql 3 (.tmp 183) (.const (.int .i64 1)) 3) 4), some (180, true), []⟩,
    ⟨some 185, .pick (.tmp 180) (.tmp 184) (.const (.bool false)), none, []⟩,
    ⟨some 186, .mov (.tmp 185), none, []⟩,
    ⟨some 187, .mov (.tmp 24), some (186, true), []⟩,
    ⟨some 188, .pur (mkO (.binOp .eql 28 (.tmp 187) (.const (.int .i64 0)) 28) 4), some (186, true), []⟩,
    ⟨some 189, .pick (.tmp 186) (.tmp 188) (.const (.bool false)), none, []⟩,
    ⟨some 190, .mov (.tmp 189), none, []⟩,
    ⟨some 191, .mov (.tmp 23), some (190, true), []⟩,
    ⟨some 192, .pur (mkO (.unOp .not 4 (.tmp 191)) 4), some (190, true), []⟩,
    ⟨some 193, .pick (.tmp 190) (.tmp 192) (.const (.bool false)), none, []⟩,
    ⟨some 194, .mov (.tmp 193), none, []⟩,
    ⟨some 195, .mov (.tmp 26), some (194, true), []⟩,
    ⟨some 196, .pur (mkO (.binOp .eql 28 (.tmp 195) (.const (.int .i64 2)) 28) 4), some (194, true), []⟩,
    ⟨some 197, .pick (.tmp 194) (.tmp 196) (.const (.bool false)), none, []⟩,
    ⟨some 198, .mov (.tmp 197), none, []⟩,
    ⟨some 199, .mov (.tmp 28), some (198, true), []⟩,
    ⟨some 200, .pur (mkO (.binOp .eql 28 (.tmp 199) (.const (.int .i64 4)) 28) 4), some (198, true), []⟩,
    ⟨some 201, .pick (.tmp 198) (.tmp 200) (.const (.bool false)), none, []⟩,
    ⟨some 202, .mov (.tmp 201), none, []⟩,
    ⟨some 203, .mov (.tmp 30), some (202, true), []⟩,
    ⟨some 204, .pur (mkO (.binOp .eql 28 (.tmp 203) (.const (.int .i64 80)) 28) 4), some (202, true), []⟩,
    ⟨some 205, .pick (.tmp 202) (.tmp 204) (.const (.bool false)), none, []⟩,
    ⟨some 0, .mov (.tmp 205), none, []⟩] false)
  .ret)))))))))))))))))))
def a7 : AFunc := ⟨206, c7, [.tmp 0], 1⟩

/-- blindstamp/blindstamplaw25.alive -/
def c8 : ACode :=
  (.seq (.region [⟨some 0, .mov (.const (.bool false)), none, []⟩] false)
  (.seq (.region [⟨some 9, .call (.func 22) [(.const (.int .i64 1))], none, [4]⟩,
    ⟨some 8, .mov (.tmp 9), none, [4]⟩,
    ⟨some 10, .ext (.tmp 8) 0, none, [3, 4]⟩,
    ⟨some 11, .ext (.tmp 8) 1, none, [2, 4, 5]⟩,
    ⟨some 1, .alloc 24 (.agg #[(.int .i64 0), (.int .i64 0), (.slice none 0 0), (.int .i64 0), (.int .i64 0), (.bool false)]), none, [0, 1, 2, 3]⟩,
    ⟨none, .store 6 (.tmp 1) (.tmp 10), none, [3]⟩,
    ⟨some 2, .mov (.tmp 11), none, []⟩] false)
  (.seq (.region [⟨some 13, .load 6 true (.tmp 1), none, [1, 2]⟩,
    ⟨some 14, .bsl 5 1 (.int .u8 0) 1 [(0, 1, (.const (.int .u8 97)))], none, [0]⟩,
    ⟨some 15, .mrk (.tmp 14), none, [0]⟩,
    ⟨some 16, .call (.func 23) [(.tmp 13), (.tmp 15)], none, []⟩,
    ⟨some 12, .mov (.tmp 16), none, []⟩,
    ⟨some 17, .ext (.tmp 12) 0, none, [6]⟩,
    ⟨some 18, .ext (.tmp 12) 1, none, [5, 7]⟩,
    ⟨none, .store 6 (.tmp 1) (.tmp 17), none, [6]⟩,
    ⟨some 3, .mov (.tmp 18), none, []⟩] false)
  (.seq (.region [⟨some 20, .load 6 true (.tmp 1), none, [1, 2]⟩,
    ⟨some 21, .bsl 5 1 (.int .u8 0) 1 [(0, 1, (.const (.int .u8 98)))], none, [0]⟩,
    ⟨some 22, .mrk (.tmp 21), none, [0]⟩,
    ⟨some 23, .call (.func 23) [(.tmp 20), (.tmp 22)], none, []⟩,
    ⟨some 19, .mov (.tmp 23), none, []⟩,
    ⟨some 24, .ext (.tmp 19) 0, none, [6]⟩,
    ⟨some 25, .ext (.tmp 19) 1, none, [5, 7]⟩,
    ⟨none, .store 6 (.tmp 1) (.tmp 24), none, [6]⟩,
    ⟨some 4, .mov (.tmp 25), none, []⟩] false)
  (.seq (.region [⟨some 27, .load 6 true (.tmp 1), none, [6]⟩,
    ⟨some 28, .call (.func 24) [(.tmp 27)], none, [6]⟩,
    ⟨some 26, .mov (.tmp 28), none, [6]⟩,
    ⟨some 29, .ext (.tmp 26) 0, none, [4, 5, 6]⟩,
    ⟨some 30, .ext (.tmp 26) 1, none, [3, 5, 6, 7]⟩,
    ⟨some 31, .ext (.tmp 26) 2, none, [3, 4, 6, 7, 8]⟩,
    ⟨some 5, .alloc 24 (.agg #[(.int .i64 0), (.int .i64 0), (.slice none 0 0), (.int .i64 0), (.int .i64 0), (.bool false)]), none, [0, 1, 2, 3, 4, 5]⟩,
    ⟨none, .store 6 (.tmp 5) (.tmp 29), none, [4, 5]⟩,
    ⟨some 6, .mov (.tmp 30), none, [5]⟩,
    ⟨some 7, .mov (.tmp 31), none, []⟩] false)
  (.seq (.region [⟨some 32, .mov (.tmp 2), none, []⟩,
    ⟨some 33, .pur (mkO (.binOp .eql 28 (.tmp 32) (.const (.int .i64 0)) 28) 4), none, []⟩,
    ⟨some 34, .mov (.tmp 33), none, []⟩,
    ⟨some 35, .mov (.tmp 3), some (34, true), []⟩,
    ⟨some 36, .pur (mkO (.binOp .eql 28 (.tmp 35) (.const (.int .i64 0)) 28) 4), some (34, true), []⟩,
    ⟨some 37, .pick (.tmp 34) (.tmp 36) (.const (.bool false)), none, []⟩,
    ⟨some 38, .mov (.tmp 37), none, []⟩,
    ⟨some 39, .mov (.tmp 4), some (38, true), []⟩,
    ⟨some 40, .pur (mkO (.binOp .eql 28 (.tmp 39) (.const (.int .i64 0)) 28) 4), some (38, true), []⟩,
    ⟨some 41, .pick (.tmp 38) (.tmp 40) (.const (.bool false)), none, []⟩,
    ⟨some 42, .mov (.tmp 41), none, []⟩,
    ⟨some 43, .mov (.tmp 7), some (42, true), []⟩,
    ⟨some 44, .pur (mkO (.binOp .eql 28 (.tmp 43) (.const (.int .i64 0)) 28) 4), some (42, true), []⟩,
    ⟨some 45, .pick (.tmp 42) (.tmp 44) (.const (.bool false)), none, []⟩,
    ⟨some 46, .mov (.tmp 45), none, []⟩,
    ⟨some 47, .mov (.tmp 6), some (46, true), [16, 17, 18, 19, 20, 21, 22]⟩,
    ⟨some 48, .bsl 5 1 (.int .u8 0) 1 [(0, 1, (.const (.int .u8 97)))], some (46, true), [15, 19, 20, 21]⟩,
    ⟨some 49, .mrk (.tmp 48), some (46, true), [15, 19, 20, 21]⟩,
    ⟨some 50, .build (.agg #[(.int .i64 0), (.int .i64 0), (.int .i64 0), (.slice none 0 0)]) [(0, 1, (.const (.int .i64 1))), (1, 1, (.const (.int .i64 1))), (3, 1, (.tmp 49))], some (46, true), [15, 19, 20, 21]⟩,
    ⟨some 51, .bsl 5 1 (.int .u8 0) 1 [(0, 1, (.const (.int .u8 98)))], some (46, true), [15, 16, 17, 18]⟩,
    ⟨some 52, .mrk (.tmp 51), some (46, true), [15, 16, 17, 18]⟩,
    ⟨some 53, .build (.agg #[(.int .i64 0), (.int .i64 0), (.int .i64 0), (.slice none 0 0)]) [(0, 1, (.const (.int .i64 1))), (1, 1, (.const (.int .i64 2))), (3, 1, (.tmp 52))], some (46, true), [15, 16, 17, 18]⟩,
    ⟨some 54, .bsl 47 4 (.agg #[(.int .i64 0), (.int .i64 0), (.int .i64 0), (.slice none 0 0)]) 2 [(0, 4, (.tmp 50)), (4, 4, (.tmp 53))], some (46, true), [15]⟩,
    ⟨some 55, .call (.func 19) [(.tmp 47), (.tmp 54)], some (46, true), []⟩,
    ⟨some 56, .pick (.tmp 46) (.tmp 55) (.const (.bool false)), none, []⟩,
    ⟨some 0, .mov (.tmp 56), none, []⟩] false)
  .ret))))))
def a8 : AFunc := ⟨57, c8, [.tmp 0], 1⟩

/-- blindstamp/blindstampref25.Great -/
def c9 : ACode :=
  (.seq (.region [⟨some 1, .box 24 (.tmp 0), none, [1]⟩,
    ⟨some 2, .mov (.const (.bool false)), none, [0]⟩] false)
  (.seq (.region [⟨some 3, .mov (.const (.int .i64 0)), none, []⟩] false)
  (.seq (.seq (.region [⟨some 4, .mov (.const (.int .i64 0)), none, []⟩] false)
  (.block 0 (.loop (.seq (.seq (.region [⟨some 5, .mov (.tmp 4), none, [1, 2, 3]⟩,
        ⟨some 6, .fad 2 (.tmp 1), none, [0]⟩,
        ⟨some 7, .load 1 false (.tmp 6), none, [0]⟩,
        ⟨some 8, .len (.tmp 7), none, [0]⟩,
        ⟨some 9, .pur (mkO (.binOp .lss 3 (.tmp 5) (.tmp 8) 3) 4), none, []⟩,
        ⟨some 10, .mov (.tmp 9), none, []⟩,
        ⟨some 11, .mov (.tmp 4), some (10, true), []⟩,
        ⟨some 12, .pur (mkO (.binOp .lss 3 (.tmp 11) (.const (.int .i64 50)) 3) 4), some (10, true), []⟩,
        ⟨some 13, .pick (.tmp 10) (.tmp 12) (.const (.bool false)), none, []⟩] false)
      (.cond (.tmp 13)
        .skip
        (.exit 0)))
      (.seq (.block 1 (.region [⟨some 16, .mov (.tmp 3), none, [1, 2, 3, 4, 5, 6, 7, 8]⟩,
          ⟨some 17, .fad 2 (.tmp 1), none, [0, 3]⟩,
          ⟨some 18, .load 1 false (.tmp 17), none, [0, 3]⟩,
          ⟨some 19, .mov (.tmp 4), none, [0, 1, 2]⟩,
          ⟨some 20, .iad 2 (.tmp 18) (.tmp 19), none, [0]⟩,
          ⟨some 21, .fad 1 (.tmp 20), none, [0]⟩,
          ⟨some 22, .load 1 false (.tmp 21), none, [0]⟩,
          ⟨some 23, .len (.tmp 22), none, [0]⟩,
          ⟨some 24, .pur (mkO (.call ⟨.builtin .min, #[(.tmp 23), (.const (.int .i64 10000))], #[3, 3]⟩) 3), none, [0]⟩,
          ⟨some 25, .pur (mkO (.binOp .add 3 (.tmp 16) (.tmp 24) 3) 3), none, []⟩,
          ⟨some 3, .mov (.tmp 25), none, []⟩] false))
      (.region [⟨some 14, .mov (.tmp 4), none, []⟩,
        ⟨some 15, .pur (mkO (.binOp .add 3 (.tmp 14) (.const (.int .i64 1)) 3) 3), none, []⟩,
        ⟨some 4, .mov (.tmp 15), none, []⟩] false))))))
  (.seq (.region [⟨some 26, .fad 2 (.tmp 1), none, []⟩,
    ⟨some 27, .load 1 false (.tmp 26), none, []⟩,
    ⟨some 28, .len (.tmp 27), none, []⟩,
    ⟨some 29, .pur (mkO (.binOp .gtr 3 (.tmp 28) (.const (.int .i64 40)) 3) 4), none, []⟩,
    ⟨some 30, .mov (.tmp 29), none, []⟩,
    ⟨some 31, .mov (.tmp 3), some (30, false), []⟩,
    ⟨some 32, .pur (mkO (.binOp .gtr 3 (.tmp 31) (.const (.int .i64 20000)) 3) 4), some (30, false), []⟩,
    ⟨some 33, .pick (.tmp 30) (.const (.bool true)) (.tmp 32), none, []⟩,
    ⟨some 2, .mov (.tmp 33), none, []⟩] false)
  .ret))))
def a9 : AFunc := ⟨34, c9, [.tmp 2], 1⟩

/-- blindstamp/link.Renew -/
def c10 : ACode :=
  (.seq (.region [⟨some 3, .box 24 (.tmp 0), none, [1, 2]⟩,
    ⟨some 6, .alloc 24 (.agg #[(.int .i64 0), (.int .i64 0), (.slice none 0 0), (.int .i64 0), (.int .i64 0), (.bool false)]), none, [0, 2]⟩,
    ⟨some 7, .mov (.const (.int .i64 0)), none, [0, 1]⟩] false)
  (.seq (.region [⟨some 18, .load 6 true (.tmp 3), none, []⟩,
    ⟨some 19, .call (.func 26) [(.tmp 18)], none, []⟩,
    ⟨some 17, .mov (.tmp 19), none, []⟩,
    ⟨some 20, .ext (.tmp 17) 0, none, [4]⟩,
    ⟨some 21, .ext (.tmp 17) 1, none, [3, 5]⟩,
    ⟨some 8, .mov (.tmp 20), none, [4]⟩,
    ⟨some 9, .mov (.tmp 21), none, []⟩] false)
  (.seq (.seq (.region [⟨some 22, .mov (.tmp 9), none, []⟩,
    ⟨some 23, .pur (mkO (.binOp .neq 28 (.tmp 22) (.const (.int .i64 0)) 28) 4), none, []⟩] false)
  (.cond (.tmp 23)
    (.seq (.region [⟨some 24, .build (.agg #[(.int .i64 0), (.int .i64 0), (.slice none 0 0), (.int .i64 0), (.int .i64 0), (.bool false)]) [], none, [1]⟩,
      ⟨some 25, .mov (.tmp 9), none, [0, 2]⟩,
      ⟨none, .store 6 (.tmp 6) (.tmp 24), none, [1]⟩,
      ⟨some 7, .mov (.tmp 25), none, []⟩] false)
    .ret)
    .skip))
  (.seq (.region [⟨some 27, .mov (.tmp 1), none, [5]⟩,
    ⟨some 28, .call (.func 22) [(.tmp 27)], none, [5]⟩,
    ⟨some 26, .mov (.tmp 28), none, [5]⟩,
    ⟨some 29, .ext (.tmp 26) 0, none, [4, 5]⟩,
    ⟨some 30, .ext (.tmp 26) 1, none, [3, 5, 6]⟩,
    ⟨some 10, .alloc 24 (.agg #[(.int .i64 0), (.int .i64 0), (.slice none 0 0), (.int .i64 0), (.int .i64 0), (.bool false)]), none, [0, 1, 2, 3, 4]⟩,
    ⟨none, .store 6 (.tmp 10) (.tmp 29), none, [4]⟩,
    ⟨some 9, .mov (.tmp 30), none, []⟩] false)
  (.seq (.seq (.region [⟨some 31, .mov (.tmp 9), none, []⟩,
    ⟨some 32, .pur (mkO (.binOp .neq 28 (.tmp 31) (.const (.int .i64 0)) 28) 4), none, []⟩] false)
  (.cond (.tmp 32)
    (.seq (.region [⟨some 33, .build (.agg #[(.int .i64 0), (.int .i64 0), (.slice none 0 0), (.int .i64 0), (.int .i64 0), (.bool false)]) [], none, [1]⟩,
      ⟨some 34, .mov (.tmp 9), none, [0, 2]⟩,
      ⟨none, .store 6 (.tmp 6) (.tmp 33), none, [1]⟩,
      ⟨some 7, .mov (.tmp 34), none, []⟩] false)
    .ret)
    .skip))
  (.seq (.region [⟨some 35, .load 6 true (.tmp 10), none, []⟩,
    ⟨some 36, .build (.agg #[(.int .i64 0), (.int .i64 0), (.slice none 0 0), (.int .i64 0), (.int .i64 0), (.bool false)]) [(0, 6, (.tmp 35))], none, []⟩,
    ⟨some 37, .box 71 (.tmp 36), none, []⟩,
    ⟨some 11, .mov (.tmp 37), none, []⟩] false)
  (.seq (.seq (.region [⟨some 38, .mov (.tmp 8), none, [6]⟩,
    ⟨some 39, .nilck (.tmp 38), none, [6]⟩,
    ⟨some 40, .fad 0 (.tmp 39), none, [6]⟩,
    ⟨some 41, .fad 2 (.tmp 40), none, [6]⟩,
    ⟨some 42, .load 1 false (.tmp 41), none, [6]⟩,
    ⟨some 43, .len (.tmp 42), none, [6]⟩,
    ⟨some 44, .mov (.const (.int .i64 0)), none, [0, 1, 2, 3, 4, 5]⟩] false)
  (.block 0 (.loop (.seq (.region [⟨some 45, .pur (mkO (.binOp .lss 3 (.tmp 44) (.tmp 43) 3) 0), none, []⟩] false)
      (.seq (.cond (.tmp 45)
        .skip
        (.exit 0))
      (.seq (.block 1 (.seq (.region [⟨some 46, .iad 2 (.tmp 42) (.tmp 44), none, [2]⟩,
          ⟨some 47, .load 2 true (.tmp 46), none, [2]⟩,
          ⟨some 13, .alloc 34 (.agg #[(.int .i64 0), (.slice none 0 0)]), none, [0, 1]⟩,
          ⟨none, .store 2 (.tmp 13) (.tmp 47), none, []⟩] false)
        (.region [⟨some 48, .mov (.tmp 2), none, [1, 2, 3, 4, 6, 7, 8]⟩,
          ⟨some 49, .mov (.tmp 2), none, [0, 3, 4, 6, 7, 8]⟩,
          ⟨some 50, .len (.tmp 49), none, [0, 3, 4, 6, 7, 8]⟩,
          ⟨some 51, .mov (.tmp 2), none, [0, 1, 2, 6, 7, 8]⟩,
          ⟨some 52, .len (.tmp 51), none, [0, 1, 2, 6, 7, 8]⟩,
          ⟨some 53, .slc 1 (.tmp 48) none (some (.tmp 50)) (some (.tmp 52)), none, [6, 7, 8]⟩,
          ⟨some 54, .fad 1 (.tmp 13), none, [0, 1, 2, 3, 4, 5]⟩,
          ⟨some 55, .load 1 false (.tmp 54), none, [0, 1, 2, 3, 4, 5]⟩,
          ⟨some 56, .bsl 32 1 (.slice none 0 0) 1 [(0, 1, (.tmp 55))], none, [0, 1, 2, 3, 4, 5]⟩,
          ⟨some 57, .app 32 1 24 (.slice none 0 0) (.tmp 53) (.tmp 56), none, []⟩,
          ⟨some 2, .mov (.tmp 57), none, []⟩] true)))
      (.region [⟨some 58, .pur (mkO (.binOp .add 3 (.tmp 44) (.const (.int .i64 1)) 3) 3), none, []⟩,
        ⟨some 44, .mov (.tmp 58), none, []⟩] false)))))))
  (.seq (.seq (.region [⟨some 59, .mov (.tmp 2), none, [2]⟩,
    ⟨some 60, .len (.tmp 59), none, [2]⟩,
    ⟨some 61, .mov (.const (.int .i64 0)), none, [0, 1]⟩] false)
  (.block 2 (.loop (.seq (.region [⟨some 62, .pur (mkO (.binOp .lss 3 (.tmp 61) (.tmp 60) 3) 0), none, []⟩] false)
      (.seq (.cond (.tmp 62)
        .skip
        (.exit 2))
      (.seq (.block 3 (.seq (.region [⟨some 63, .iad 1 (.tmp 59) (.tmp 61), none, []⟩,
          ⟨some 64, .load 1 false (.tmp 63), none, []⟩,
          ⟨some 15, .mov (.tmp 64), none, []⟩] false)
        (.seq (.region [⟨some 65, .mov (.tmp 11), none, [1]⟩,
          ⟨some 66, .mov (.tmp 15), none, [0]⟩,
          ⟨some 67, .call (.func 27) [(.tmp 65), (.tmp 66)], none, []⟩,
          ⟨some 16, .mov (.tmp 67), none, []⟩] false)
        (.seq (.region [⟨some 68, .mov (.tmp 16), none, []⟩,
          ⟨some 69, .pur (mkO (.binOp .neq 28 (.tmp 68) (.const (.int .i64 0)) 28) 4), none, []⟩] false)
        (.cond (.tmp 69)
          (.seq (.region [⟨some 70, .build (.agg #[(.int .i64 0), (.int .i64 0), (.slice none 0 0), (.int .i64 0), (.int .i64 0), (.bool false)]) [], none, [1]⟩,
            ⟨some 71, .mov (.tmp 16), none, [0, 2]⟩,
            ⟨none, .store 6 (.tmp 6) (.tmp 70), none, [1]⟩,
            ⟨some 7, .mov (.tmp 71), none, []⟩] false)
          .ret)
          .skip)))))
      (.region [⟨some 72, .pur (mkO (.binOp .add 3 (.tmp 61) (.const (.int .i64 1)) 3) 3), none, []⟩,
        ⟨some 61, .mov (.tmp 72), none, []⟩] false)))))))
  (.seq (.region [⟨some 73, .mov (.tmp 11), none, []⟩,
    ⟨some 74, .nilck (.tmp 73), none, []⟩,
    ⟨some 75, .fad 0 (.tmp 74), none, []⟩,
    ⟨some 76, .load 6 true (.tmp 75), none, []⟩,
    ⟨none, .store 6 (.tmp 6) (.tmp 76), none, []⟩,
    ⟨some 7, .mov (.const (.int .i64 0)), none, []⟩] false)
  .ret)))))))))
def a10 : AFunc := ⟨77, c10, [.cell 6 6 true, .tmp 7], 1⟩

/-- blindstamp/link.Check -/
def c11 : ACode :=
  (.seq (.region [⟨some 1, .box 24 (.tmp 0), none, [1]⟩,
    ⟨some 2, .mov (.const (.int .i64 0)), none, [0]⟩] false)
  (.seq (.seq (.region [⟨some 5, .fad 0 (.tmp 1), none, []⟩,
    ⟨some 6, .load 1 false (.tmp 5), none, []⟩,
    ⟨some 7, .call (.func 28) [(.tmp 6), (.const (.int .i64 0)), (.const (.int .i64 2147483648))], none, []⟩,
    ⟨some 8, .pur (mkO (.unOp .not 4 (.tmp 7)) 4), none, []⟩,
    ⟨some 9, .mov (.tmp 8), none, []⟩,
    ⟨some 10, .fad 1 (.tmp 1), some (9, false), []⟩,
    ⟨some 11, .load 1 false (.tmp 10), some (9, false), []⟩,
    ⟨some 12, .call (.func 28) [(.tmp 11), (.const (.int .i64 1)), (.const (.int .i64 16777216))], some (9, false), []⟩,
    ⟨some 13, .pur (mkO (.unOp .not 4 (.tmp 12)) 4), some (9, false), []⟩,
    ⟨some 14, .pick (.tmp 9) (.const (.bool true)) (.tmp 13), none, []⟩,
    ⟨some 15, .mov (.tmp 14), none, []⟩,
    ⟨some 16, .fad 3 (.tmp 1), some (15, false), []⟩,
    ⟨some 17, .load 1 false (.tmp 16), some (15, false), []⟩,
    ⟨some 18, .call (.func 28) [(.tmp 17), (.const (.int .i64 1)), (.const (.int .i64 16777216))], some (15, false), []⟩,
    ⟨some 19, .pur (mkO (.unOp .not 4 (.tmp 18)) 4), some (15, false), []⟩,
    ⟨some 20, .pick (.tmp 15) (.const (.bool true)) (.tmp 19), none, []⟩,
    ⟨some 21, .mov (.tmp 20), none, []⟩,
    ⟨some 22, .fad 2 (.tmp 1), some (21, false), []⟩,
    ⟨some 23, .load 1 false (.tmp 22), some (21, false), []⟩,
    ⟨some 24, .len (.tmp 23), some (21, false), []⟩,
    ⟨some 25, .pur (mkO (.binOp .gtr 3 (.tmp 24) (.const (.int .i64 32)) 3) 4), some (21, false), []⟩,
    ⟨some 26, .pick (.tmp 21) (.const (.bool true)) (.tmp 25), none, []⟩,
    ⟨some 27, .mov (.tmp 26), none, []⟩,
    ⟨some 28, .fad 4 (.tmp 1), some (27, false), []⟩,
    ⟨some 29, .load 1 false (.tmp 28), some (27, false), []⟩,
    ⟨some 30, .call (.func 28) [(.tmp 29), (.const (.int .i64 0)), (.const (.int .i64 3))], some (27, false), []⟩,
    ⟨some 31, .pur (mkO (.unOp .not 4 (.tmp 30)) 4), some (27, false), []⟩,
    ⟨some 32, .pick (.tmp 27) (.const (.bool true)) (.tmp 31), none, []⟩,
    ⟨some 33, .mov (.tmp 32), none, []⟩,
    ⟨some 34, .fad 2 (.tmp 1), some (33, false), []⟩,
    ⟨some 35, .load 1 false (.tmp 34), some (33, false), []⟩,
    ⟨some 36, .len (.tmp 35), some (33, false), []⟩,
    ⟨some 37, .pur (mkO (.binOp .eql 3 (.tmp 36) (.const (.int .i64 0)) 3) 4), some (33, false), []⟩,
    ⟨some 38, .mov (.tmp 37), some (33, false), []⟩,
    ⟨some 39, .fad 4 (.tmp 1), some (38, true), []⟩,
    ⟨some 40, .load 1 false (.tmp 39), some (38, true), []⟩,
    ⟨some 41, .pur (mkO (.binOp .gtr 3 (.tmp 40) (.const (.int .i64 0)) 3) 4), some (38, true), []⟩,
    ⟨some 42, .pick (.tmp 38) (.tmp 41) (.const (.bool false)), some (33, false), []⟩,
    ⟨some 43, .pick (.tmp 33) (.const (.bool true)) (.tmp 42), none, []⟩] false)
  (.cond (.tmp 43)
    (.seq (.region [⟨some 2, .mov (.const (.int .i64 8)), none, []⟩] false)
    .ret)
    .skip))
  (.seq (.seq (.region [⟨some 44, .fad 2 (.tmp 1), none, [3]⟩,
    ⟨some 45, .load 1 false (.tmp 44), none, [3]⟩,
    ⟨some 46, .len (.tmp 45), none, [3]⟩,
    ⟨some 47, .mov (.const (.int .i64 0)), none, [0, 1, 2]⟩] false)
  (.block 0 (.loop (.seq (.region [⟨some 48, .pur (mkO (.binOp .lss 3 (.tmp 47) (.tmp 46) 3) 0), none, []⟩] false)
      (.seq (.cond (.tmp 48)
        .skip
        (.exit 0))
      (.seq (.block 1 (.seq (.region [⟨some 49, .mov (.tmp 47), none, [1, 2, 3]⟩,
          ⟨some 50, .iad 2 (.tmp 45) (.tmp 47), none, [0, 3]⟩,
          ⟨some 51, .load 2 true (.tmp 50), none, [0, 3]⟩,
          ⟨some 4, .alloc 34 (.agg #[(.int .i64 0), (.slice none 0 0)]), none, [0, 1, 2]⟩,
          ⟨some 3, .mov (.tmp 49), none, []⟩,
          ⟨none, .store 2 (.tmp 4) (.tmp 51), none, []⟩] false)
        (.seq (.region [⟨some 52, .fad 0 (.tmp 4), none, []⟩,
          ⟨some 53, .load 1 false (.tmp 52), none, []⟩,
          ⟨some 54, .pur (mkO (.binOp .lss 3 (.tmp 53) (.const (.int .i64 1)) 3) 4), none, []⟩,
          ⟨some 55, .mov (.tmp 54), none, []⟩,
          ⟨some 56, .fad 0 (.tmp 4), some (55, false), [6, 7, 8, 9, 10, 11, 12, 13]⟩,
          ⟨some 57, .load 1 false (.tmp 56), some (55, false), [6, 7, 8, 9, 10, 11, 12, 13]⟩,
          ⟨some 58, .fad 1 (.tmp 1), some (55, false), [4, 5, 8, 9, 10, 12]⟩,
          ⟨some 59, .load 1 false (.tmp 58), some (55, false), [4, 5, 8, 9, 10, 12]⟩,
          ⟨some 60, .fad 2 (.tmp 1), some (55, false), [4, 5, 6, 7, 12]⟩,
          ⟨some 61, .load 1 false (.tmp 60), some (55, false), [4, 5, 6, 7, 12]⟩,
          ⟨some 62, .len (.tmp 61), some (55, false), [4, 5, 6, 7, 12]⟩,
          ⟨some 63, .pur (mkO (.binOp .sub 3 (.tmp 59) (.tmp 62) 3) 3), some (55, false), [4, 5, 12]⟩,
          ⟨some 64, .mov (.tmp 3), some (55, false), [4, 5, 6, 7, 8, 9, 10, 11]⟩,
          ⟨some 65, .pur (mkO (.binOp .add 3 (.tmp 63) (.tmp 64) 3) 3), some (55, false), [4, 5]⟩,
          ⟨some 66, .pur (mkO (.binOp .neq 3 (.tmp 57) (.tmp 65) 3) 4), some (55, false), []⟩,
          ⟨some 67, .pick (.tmp 55) (.const (.bool true)) (.tmp 66), none, []⟩,
          ⟨some 68, .mov (.tmp 67), none, []⟩,
          ⟨some 69, .fad 1 (.tmp 4), some (68, false), []⟩,
          ⟨some 70, .load 1 false (.tmp 69), some (68, false), []⟩,
          ⟨some 71, .len (.tmp 70), some (68, false), []⟩,
          ⟨some 72, .pur (mkO (.binOp .gtr 3 (.tmp 71) (.const (.int .i64 900)) 3) 4), some (68, false), []⟩,
          ⟨some 73, .pick (.tmp 68) (.const (.bool true)) (.tmp 72), none, []⟩] false)
        (.cond (.tmp 73)
          (.seq (.region [⟨some 2, .mov (.const (.int .i64 8)), none, []⟩] false)
          .ret)
          .skip))))
      (.region [⟨some 74, .pur (mkO (.binOp .add 3 (.tmp 47) (.const (.int .i64 1)) 3) 3), none, []⟩,
        ⟨some 47, .mov (.tmp 74), none, []⟩] false)))))))
  (.seq (.region [⟨some 2, .mov (.const (.int .i64 0)), none, []⟩] false)
  .ret))))
def a11 : AFunc := ⟨75, c11, [.tmp 2], 1⟩

/-- blindstamp/blindstamplaw25.made -/
def c12 : ACode :=
  (.seq (.region [⟨some 2, .alloc 39 (.agg #[(.int .i64 0), (.int .i64 0), (.slice none 0 0), (.int .i64 0), (.int .i64 0), (.bool false), (.int .i64 0), (.int .i64 0), (.slice none 0 0), (.int .i64 0), (.int .i64 0), (.bool false), (.slice none 0 0), (.slice none 0 0), (.slice none 0 0), (.slice none 0 0), (.bool false)]), none, []⟩] false)
  (.seq (.region [⟨some 8, .mov (.tmp 0), none, [5]⟩,
    ⟨some 9, .call (.func 22) [(.tmp 8)], none, [5]⟩,
    ⟨some 7, .mov (.tmp 9), none, [5]⟩,
    ⟨some 10, .ext (.tmp 7) 0, none, [4, 5]⟩,
    ⟨some 11, .ext (.tmp 7) 1, none, [3, 5, 6]⟩,
    ⟨some 3, .alloc 24 (.agg #[(.int .i64 0), (.int .i64 0), (.slice none 0 0), (.int .i64 0), (.int .i64 0), (.bool false)]), none, [0, 1, 2, 3, 4]⟩,
    ⟨none, .store 6 (.tmp 3) (.tmp 10), none, [4]⟩,
    ⟨some 4, .mov (.tmp 11), none, []⟩] false)
  (.seq (.region [⟨some 13, .mov (.tmp 0), none, [5]⟩,
    ⟨some 14, .call (.func 22) [(.tmp 13)], none, [5]⟩,
    ⟨some 12, .mov (.tmp 14), none, [5]⟩,
    ⟨some 15, .ext (.tmp 12) 0, none, [4, 5]⟩,
    ⟨some 16, .ext (.tmp 12) 1, none, [3, 5, 6]⟩,
    ⟨some 5, .alloc 24 (.agg #[(.int .i64 0), (.int .i64 0), (.slice none 0 0), (.int .i64 0), (.int .i64 0), (.bool false)]), none, [0, 1, 2, 3, 4]⟩,
    ⟨none, .store 6 (.tmp 5) (.tmp 15), none, [4]⟩,
    ⟨some 6, .mov (.tmp 16), none, []⟩] false)
  (.seq (.region [⟨some 17, .load 6 true (.tmp 3), none, [1, 2, 3, 4, 5, 6, 7]⟩,
    ⟨some 18, .load 6 true (.tmp 5), none, [0, 2, 3, 4, 5, 6, 7]⟩,
    ⟨some 19, .mov (.tmp 4), none, [0, 1]⟩,
    ⟨some 20, .pur (mkO (.binOp .eql 28 (.tmp 19) (.const (.int .i64 0)) 28) 4), none, [0, 1]⟩,
    ⟨some 21, .mov (.tmp 20), none, [0, 1]⟩,
    ⟨some 22, .mov (.tmp 6), some (21, true), [0, 1]⟩,
    ⟨some 23, .pur (mkO (.binOp .eql 28 (.tmp 22) (.const (.int .i64 0)) 28) 4), some (21, true), [0, 1]⟩,
    ⟨some 24, .pick (.tmp 21) (.tmp 23) (.const (.bool false)), none, [0, 1]⟩,
    ⟨some 25, .build (.agg #[(.int .i64 0), (.int .i64 0), (.slice none 0 0), (.int .i64 0), (.int .i64 0), (.bool false), (.int .i64 0), (.int .i64 0), (.slice none 0 0), (.int .i64 0), (.int .i64 0), (.bool false), (.slice none 0 0), (.slice none 0 0), (.slice none 0 0), (.slice none 0 0), (.bool false)]) [(0, 6, (.tmp 17)), (6, 6, (.tmp 18)), (16, 1, (.tmp 24))], none, []⟩,
    ⟨none, .store 17 (.tmp 2) (.tmp 25), none, []⟩] false)
  .ret))))
def a12 : AFunc := ⟨26, c12, [.cell 2 17 true], 1⟩

/-- blindstamp/blindstamplaw25.does -/
def c13 : ACode :=
  (.seq (.region [⟨some 2, .box 39 (.tmp 0), none, [1, 2]⟩,
    ⟨some 3, .box 43 (.tmp 1), none, [0, 2]⟩,
    ⟨some 4, .alloc 39 (.agg #[(.int .i64 0), (.int .i64 0), (.slice none 0 0), (.int .i64 0), (.int .i64 0), (.bool false), (.int .i64 0), (.int .i64 0), (.slice none 0 0), (.int .i64 0), (.int .i64 0), (.bool false), (.slice none 0 0), (.slice none 0 0), (.slice none 0 0), (.slice none 0 0), (.bool false)]), none, [0, 1]⟩] false)
  (.seq (.seq (.region [⟨some 7, .fad 0 (.tmp 3), none, []⟩,
    ⟨some 8, .load 1 false (.tmp 7), none, []⟩] false)
  (.block 0 (.seq (.region [⟨some 10, .pur (mkO (.binOp .eql 5 (.tmp 8) (.const (.int .u8 0)) 5) 4), none, []⟩,
      ⟨some 9, .mov (.tmp 10), none, []⟩] false)
    (.cond (.tmp 9)
      (.seq (.region [⟨some 12, .fad 0 (.tmp 2), none, [2, 3, 4, 5, 10]⟩,
        ⟨some 13, .load 6 true (.tmp 12), none, [2, 3, 4, 5, 10]⟩,
        ⟨some 14, .fad 1 (.tmp 3), none, [0, 1, 10]⟩,
        ⟨some 15, .load 1 false (.tmp 14), none, [0, 1, 10]⟩,
        ⟨some 16, .pur (mkO (.convert 3 5 (.tmp 15)) 5), none, [0, 1, 10]⟩,
        ⟨some 17, .bsl 5 1 (.int .u8 0) 1 [(0, 1, (.tmp 16))], none, [0, 1, 10]⟩,
        ⟨some 18, .call (.func 23) [(.tmp 13), (.tmp 17)], none, [10]⟩,
        ⟨some 11, .mov (.tmp 18), none, [10]⟩,
        ⟨some 19, .ext (.tmp 11) 0, none, [9, 10]⟩,
        ⟨some 20, .ext (.tmp 11) 1, none, [8, 10, 11]⟩,
        ⟨some 5, .alloc 24 (.agg #[(.int .i64 0), (.int .i64 0), (.slice none 0 0), (.int .i64 0), (.int .i64 0), (.bool false)]), none, [0, 1, 2, 3, 4, 5, 6, 7, 8, 9]⟩,
        ⟨none, .store 6 (.tmp 5) (.tmp 19), none, [9]⟩,
        ⟨some 6, .mov (.tmp 20), none, []⟩] false)
      (.seq (.seq (.region [⟨some 21, .mov (.tmp 6), none, []⟩,
        ⟨some 22, .pur (mkO (.binOp .eql 28 (.tmp 21) (.const (.int .i64 0)) 28) 4), none, []⟩] false)
      (.cond (.tmp 22)
        (.seq (.region [⟨some 23, .load 6 true (.tmp 5), none, []⟩,
          ⟨some 24, .fad 0 (.tmp 2), none, []⟩,
          ⟨none, .store 6 (.tmp 24) (.tmp 23), none, []⟩] false)
        (.region [⟨some 25, .fad 14 (.tmp 2), none, [3, 4, 5, 6]⟩,
          ⟨some 26, .load 1 false (.tmp 25), none, [3, 4, 5, 6]⟩,
          ⟨some 27, .app 5 1 1 (.int .u8 0) (.const (.slice none 0 0)) (.tmp 26), none, [3, 4, 5, 6]⟩,
          ⟨some 28, .fad 1 (.tmp 3), none, [0, 1, 2]⟩,
          ⟨some 29, .load 1 false (.tmp 28), none, [0, 1, 2]⟩,
          ⟨some 30, .pur (mkO (.convert 3 5 (.tmp 29)) 5), none, [0, 1, 2]⟩,
          ⟨some 31, .bsl 5 1 (.int .u8 0) 1 [(0, 1, (.tmp 30))], none, [0, 1, 2]⟩,
          ⟨some 32, .app 5 1 1 (.int .u8 0) (.tmp 27) (.tmp 31), none, []⟩,
          ⟨some 33, .fad 14 (.tmp 2), none, []⟩,
          ⟨none, .store 1 (.tmp 33) (.tmp 32), none, []⟩] true))
        .skip))
      (.seq (.region [⟨some 34, .fad 16 (.tmp 2), none, []⟩,
        ⟨some 35, .load 1 false (.tmp 34), none, []⟩,
        ⟨some 36, .mov (.tmp 35), none, []⟩,
        ⟨some 37, .mov (.tmp 6), some (36, true), []⟩,
        ⟨some 38, .pur (mkO (.binOp .eql 28 (.tmp 37) (.const (.int .i64 0)) 28) 4), some (36, true), []⟩,
        ⟨some 39, .mov (.tmp 38), some (36, true), []⟩,
        ⟨some 40, .mov (.tmp 6), some (39, false), []⟩,
        ⟨some 41, .pur (mkO (.binOp .eql 28 (.tmp 40) (.const (.int .i64 9)) 28) 4), some (39, false), []⟩,
        ⟨some 42, .pick (.tmp 39) (.const (.bool true)) (.tmp 41), some (36, true), []⟩,
        ⟨some 43, .pick (.tmp 36) (.tmp 42) (.const (.bool false)), none, []⟩,
        ⟨some 44, .fad 16 (.tmp 2), none, []⟩,
        ⟨none, .store 1 (.tmp 44) (.tmp 43), none, []⟩] false)
      (.seq (.region [⟨some 45, .load 17 true (.tmp 2), none, []⟩,
        ⟨none, .store 17 (.tmp 4) (.tmp 45), none, []⟩] false)
      .ret))))
      (.seq (.seq (.region [⟨some 47, .pur (mkO (.binOp .eql 5 (.tmp 8) (.const (.int .u8 1)) 5) 4), none, []⟩,
        ⟨some 46, .mov (.tmp 47), none, []⟩] false)
      (.cond (.tmp 46)
        .skip
        (.region [⟨some 48, .pur (mkO (.binOp .eql 5 (.tmp 8) (.const (.int .u8 2)) 5) 4), none, []⟩,
          ⟨some 46, .mov (.tmp 48), none, []⟩] false)))
      (.cond (.tmp 46)
        (.seq (.region [⟨some 49, .load 17 true (.tmp 2), none, [1, 2, 3]⟩,
          ⟨some 50, .fad 0 (.tmp 3), none, [0]⟩,
          ⟨some 51, .load 1 false (.tmp 50), none, [0]⟩,
          ⟨some 52, .pur (mkO (.binOp .eql 5 (.tmp 51) (.const (.int .u8 2)) 5) 4), none, [0]⟩,
          ⟨some 53, .call (.func 29) [(.tmp 49), (.tmp 52), (.const (.bool false))], none, []⟩,
          ⟨none, .store 17 (.tmp 4) (.tmp 53), none, []⟩] false)
        .ret)
        (.seq (.seq (.region [⟨some 55, .pur (mkO (.binOp .eql 5 (.tmp 8) (.const (.int .u8 3)) 5) 4), none, []⟩,
          ⟨some 54, .mov (.tmp 55), none, []⟩] false)
        (.cond (.tmp 54)
          .skip
          (.region [⟨some 56, .pur (mkO (.binOp .eql 5 (.tmp 8) (.const (.int .u8 4)) 5) 4), none, []⟩,
            ⟨some 54, .mov (.tmp 56), none, []⟩] false)))
        (.cond (.tmp 54)
          (.seq (.region [⟨some 57, .load 17 true (.tmp 2), none, [1, 2, 3, 4, 5]⟩,
            ⟨some 58, .fad 1 (.tmp 3), none, [0, 3, 4, 5]⟩,
            ⟨some 59, .load 1 false (.tmp 58), none, [0, 3, 4, 5]⟩,
            ⟨some 60, .fad 0 (.tmp 3), none, [0, 1, 2]⟩,
            ⟨some 61, .load 1 false (.tmp 60), none, [0, 1, 2]⟩,
            ⟨some 62, .pur (mkO (.binOp .eql 5 (.tmp 61) (.const (.int .u8 4)) 5) 4), none, [0, 1, 2]⟩,
            ⟨some 63, .call (.func 30) [(.tmp 57), (.tmp 59), (.tmp 62), (.const (.bool false))], none, []⟩,
            ⟨none, .store 17 (.tmp 4) (.tmp 63), none, []⟩] false)
          .ret)
          (.seq (.seq (.region [⟨some 65, .pur (mkO (.binOp .eql 5 (.tmp 8) (.const (.int .u8 5)) 5) 4), none, []⟩,
            ⟨some 64, .mov (.tmp 65), none, []⟩] false)
          (.cond (.tmp 64)
            .skip
            (.region [⟨some 66, .pur (mkO (.binOp .eql 5 (.tmp 8) (.const (.int .u8 6)) 5) 4), none, []⟩,
              ⟨some 64, .mov (.tmp 66), none, []⟩] false)))
          (.cond (.tmp 64)
            (.seq (.region [⟨some 67, .load 17 true (.tmp 2), none, [1, 2, 3, 4, 5]⟩,
              ⟨some 68, .fad 1 (.tmp 3), none, [0, 3, 4, 5]⟩,
              ⟨some 69, .load 1 false (.tmp 68), none, [0, 3, 4, 5]⟩,
              ⟨some 70, .fad 0 (.tmp 3), none, [0, 1, 2]⟩,
              ⟨some 71, .load 1 false (.tmp 70), none, [0, 1, 2]⟩,
              ⟨some 72, .pur (mkO (.binOp .eql 5 (.tmp 71) (.const (.int .u8 6)) 5) 4), none, [0, 1, 2]⟩,
              ⟨some 73, .call (.func 31) [(.tmp 67), (.tmp 69), (.tmp 72)], none, []⟩,
              ⟨none, .store 17 (.tmp 4) (.tmp 73), none, []⟩] false)
            .ret)
            (.seq (.seq (.region [⟨some 75, .pur (mkO (.binOp .eql 5 (.tmp 8) (.const (.int .u8 7)) 5) 4), none, []⟩,
              ⟨some 74, .mov (.tmp 75), none, []⟩] false)
            (.cond (.tmp 74)
              .skip
              (.region [⟨some 76, .pur (mkO (.binOp .eql 5 (.tmp 8) (.const (.int .u8 8)) 5) 4), none, []⟩,
                ⟨some 74, .mov (.tmp 76), none, []⟩] false)))
            (.cond (.tmp 74)
              (.seq (.region [⟨some 77, .load 17 true (.tmp 2), none, [1, 2, 3, 4, 5]⟩,
                ⟨some 78, .fad 1 (.tmp 3), none, [0, 3, 4, 5]⟩,
                ⟨some 79, .load 1 false (.tmp 78), none, [0, 3, 4, 5]⟩,
                ⟨some 80, .fad 0 (.tmp 3), none, [0, 1, 2]⟩,
                ⟨some 81, .load 1 false (.tmp 80), none, [0, 1, 2]⟩,
                ⟨some 82, .pur (mkO (.binOp .eql 5 (.tmp 81) (.const (.int .u8 8)) 5) 4), none, [0, 1, 2]⟩,
                ⟨some 83, .call (.func 30) [(.tmp 77), (.tmp 79), (.tmp 82), (.const (.bool true))], none, []⟩,
                ⟨none, .store 17 (.tmp 4) (.tmp 83), none, []⟩] false)
              .ret)
              (.seq (.seq (.region [⟨some 85, .pur (mkO (.binOp .eql 5 (.tmp 8) (.const (.int .u8 9)) 5) 4), none, []⟩,
                ⟨some 84, .mov (.tmp 85), none, []⟩] false)
              (.cond (.tmp 84)
                .skip
                (.region [⟨some 86, .pur (mkO (.binOp .eql 5 (.tmp 8) (.const (.int .u8 10)) 5) 4), none, []⟩,
                  ⟨some 84, .mov (.tmp 86), none, []⟩] false)))
              (.cond (.tmp 84)
                (.seq (.region [⟨some 87, .load 17 true (.tmp 2), none, [1, 2, 3]⟩,
                  ⟨some 88, .fad 0 (.tmp 3), none, [0]⟩,
                  ⟨some 89, .load 1 false (.tmp 88), none, [0]⟩,
                  ⟨some 90, .pur (mkO (.binOp .eql 5 (.tmp 89) (.const (.int .u8 10)) 5) 4), none, [0]⟩,
                  ⟨some 91, .call (.func 29) [(.tmp 87), (.tmp 90), (.const (.bool true))], none, []⟩,
                  ⟨none, .store 17 (.tmp 4) (.tmp 91), none, []⟩] false)
                .ret)
                .skip))))))))))))))
  (.seq (.region [⟨some 92, .load 17 true (.tmp 2), none, []⟩,
    ⟨none, .store 17 (.tmp 4) (.tmp 92), none, []⟩] false)
  .ret)))
def a13 : AFunc := ⟨93, c13, [.cell 4 17 true], 1⟩

/-- blindstamp/blindstamplaw25.round -/
def c14 : ACode :=
  (.seq (.region [⟨some 1, .box 39 (.tmp 0), none, [1]⟩,
    ⟨some 2, .alloc 39 (.agg #[(.int .i64 0), (.int .i64 0), (.slice none 0 0), (.int .i64 0), (.int .i64 0), (.bool false), (.int .i64 0), (.int .i64 0), (.slice none 0 0), (.int .i64 0), (.int .i64 0), (.bool false), (.slice none 0 0), (.slice none 0 0), (.slice none 0 0), (.slice none 0 0), (.bool false)]), none, [0]⟩] false)
  (.seq (.region [⟨some 5, .load 17 true (.tmp 1), none, []⟩,
    ⟨some 6, .call (.func 29) [(.tmp 5), (.const (.bool false)), (.const (.bool false))], none, []⟩,
    ⟨none, .store 17 (.tmp 1) (.tmp 6), none, []⟩] false)
  (.seq (.seq (.region [⟨some 3, .mov (.const (.int .i64 0)), none, []⟩] false)
  (.block 0 (.loop (.seq (.seq (.region [⟨some 7, .mov (.tmp 3), none, []⟩,
        ⟨some 8, .pur (mkO (.binOp .lss 3 (.tmp 7) (.const (.int .i64 500)) 3) 4), none, []⟩,
        ⟨some 9, .mov (.tmp 8), none, []⟩,
        ⟨some 10, .fad 12 (.tmp 1), some (9, true), []⟩,
        ⟨some 11, .load 1 false (.tmp 10), some (9, true), []⟩,
        ⟨some 12, .len (.tmp 11), some (9, true), []⟩,
        ⟨some 13, .pur (mkO (.binOp .gtr 3 (.tmp 12) (.const (.int .i64 0)) 3) 4), some (9, true), []⟩,
        ⟨some 14, .pick (.tmp 9) (.tmp 13) (.const (.bool false)), none, []⟩] false)
      (.cond (.tmp 14)
        .skip
        (.exit 0)))
      (.seq (.block 1 (.region [⟨some 17, .load 17 true (.tmp 1), none, []⟩,
          ⟨some 18, .call (.func 30) [(.tmp 17), (.const (.int .i64 0)), (.const (.bool false)), (.const (.bool false))], none, []⟩,
          ⟨none, .store 17 (.tmp 1) (.tmp 18), none, []⟩] false))
      (.region [⟨some 15, .mov (.tmp 3), none, []⟩,
        ⟨some 16, .pur (mkO (.binOp .add 3 (.tmp 15) (.const (.int .i64 1)) 3) 3), none, []⟩,
        ⟨some 3, .mov (.tmp 16), none, []⟩] false))))))
  (.seq (.region [⟨some 19, .load 17 true (.tmp 1), none, []⟩,
    ⟨some 20, .call (.func 29) [(.tmp 19), (.const (.bool true)), (.const (.bool false))], none, []⟩,
    ⟨none, .store 17 (.tmp 1) (.tmp 20), none, []⟩] false)
  (.seq (.seq (.region [⟨some 4, .mov (.const (.int .i64 0)), none, []⟩] false)
  (.block 2 (.loop (.seq (.seq (.region [⟨some 21, .mov (.tmp 4), none, []⟩,
        ⟨some 22, .pur (mkO (.binOp .lss 3 (.tmp 21) (.const (.int .i64 500)) 3) 4), none, []⟩,
        ⟨some 23, .mov (.tmp 22), none, []⟩,
        ⟨some 24, .fad 13 (.tmp 1), some (23, true), []⟩,
        ⟨some 25, .load 1 false (.tmp 24), some (23, true), []⟩,
        ⟨some 26, .len (.tmp 25), some (23, true), []⟩,
        ⟨some 27, .pur (mkO (.binOp .gtr 3 (.tmp 26) (.const (.int .i64 0)) 3) 4), some (23, true), []⟩,
        ⟨some 28, .pick (.tmp 23) (.tmp 27) (.const (.bool false)), none, []⟩] false)
      (.cond (.tmp 28)
        .skip
        (.exit 2)))
      (.seq (.block 3 (.region [⟨some 31, .load 17 true (.tmp 1), none, []⟩,
          ⟨some 32, .call (.func 30) [(.tmp 31), (.const (.int .i64 0)), (.const (.bool true)), (.const (.bool false))], none, []⟩,
          ⟨none, .store 17 (.tmp 1) (.tmp 32), none, []⟩] false))
      (.region [⟨some 29, .mov (.tmp 4), none, []⟩,
        ⟨some 30, .pur (mkO (.binOp .add 3 (.tmp 29) (.const (.int .i64 1)) 3) 3), none, []⟩,
        ⟨some 4, .mov (.tmp 30), none, []⟩] false))))))
  (.seq (.region [⟨some 33, .load 17 true (.tmp 1), none, []⟩,
    ⟨none, .store 17 (.tmp 2) (.tmp 33), none, []⟩] false)
  .ret))))))
def a14 : AFunc := ⟨34, c14, [.cell 2 17 true], 1⟩

/-- blindstamp/link.Wrap -/
def c15 : ACode :=
  (.seq (.region [⟨some 1, .box 47 (.tmp 0), none, [1, 2]⟩,
    ⟨some 2, .mov (.const (.slice none 0 0)), none, [0]⟩,
    ⟨some 3, .mov (.const (.int .i64 0)), none, [0]⟩] false)
  (.seq (.seq (.region [⟨some 5, .load 4 true (.tmp 1), none, []⟩,
    ⟨some 6, .call (.func 20) [(.tmp 5)], none, []⟩,
    ⟨some 4, .mov (.tmp 6), none, []⟩] false)
  (.seq (.region [⟨some 7, .mov (.tmp 4), none, []⟩,
    ⟨some 8, .pur (mkO (.binOp .neq 28 (.tmp 7) (.const (.int .i64 0)) 28) 4), none, []⟩] false)
  (.cond (.tmp 8)
    (.seq (.region [⟨some 9, .mov (.tmp 4), none, [1]⟩,
      ⟨some 2, .mov (.const (.slice none 0 0)), none, [0]⟩,
      ⟨some 3, .mov (.tmp 9), none, []⟩] false)
    .ret)
    .skip)))
  (.seq (.region [⟨some 10, .fad 0 (.tmp 1), none, [3, 4, 5, 6, 7, 8, 11, 12]⟩,
    ⟨some 11, .load 1 false (.tmp 10), none, [3, 4, 5, 6, 7, 8, 11, 12]⟩,
    ⟨some 12, .build (.agg #[(.int .i64 0), (.int .i64 0)]) [(0, 1, (.tmp 11)), (1, 1, (.const (.int .i64 4)))], none, [3, 4, 5, 6, 7, 8, 11, 12]⟩,
    ⟨some 13, .fad 1 (.tmp 1), none, [0, 1, 2, 6, 7, 8, 11, 12]⟩,
    ⟨some 14, .load 1 false (.tmp 13), none, [0, 1, 2, 6, 7, 8, 11, 12]⟩,
    ⟨some 15, .build (.agg #[(.int .i64 0), (.int .i64 0)]) [(0, 1, (.tmp 14)), (1, 1, (.const (.int .i64 3)))], none, [0, 1, 2, 6, 7, 8, 11, 12]⟩,
    ⟨some 16, .fad 2 (.tmp 1), none, [0, 1, 2, 3, 4, 5, 11, 12]⟩,
    ⟨some 17, .load 1 false (.tmp 16), none, [0, 1, 2, 3, 4, 5, 11, 12]⟩,
    ⟨some 18, .build (.agg #[(.int .i64 0), (.int .i64 0)]) [(0, 1, (.tmp 17)), (1, 1, (.const (.int .i64 3)))], none, [0, 1, 2, 3, 4, 5, 11, 12]⟩,
    ⟨some 19, .bsl 80 2 (.agg #[(.int .i64 0), (.int .i64 0)]) 3 [(0, 2, (.tmp 12)), (2, 2, (.tmp 15)), (4, 2, (.tmp 18))], none, [11, 12]⟩,
    ⟨some 20, .call (.func 33) [(.tmp 19)], none, [11, 12]⟩,
    ⟨some 21, .fad 3 (.tmp 1), none, [0, 1, 2, 3, 4, 5, 6, 7, 8, 9, 10]⟩,
    ⟨some 22, .load 1 false (.tmp 21), none, [0, 1, 2, 3, 4, 5, 6, 7, 8, 9, 10]⟩,
    ⟨some 23, .app 5 1 1 (.int .u8 0) (.tmp 20) (.tmp 22), none, []⟩,
    ⟨some 24, .call (.func 32) [(.tmp 23)], none, []⟩,
    ⟨some 25, .ext (.tmp 24) 0, none, [16]⟩,
    ⟨some 26, .ext (.tmp 24) 1, none, [15]⟩,
    ⟨some 2, .mov (.tmp 25), none, []⟩,
    ⟨some 3, .mov (.tmp 26), none, []⟩] true)
  .ret)))
def a15 : AFunc := ⟨27, c15, [.tmp 2, .tmp 3], 1⟩

/-- blindstamp/blindstampref25.Wrap -/
def c16 : ACode :=
  (.seq (.region [⟨some 1, .box 47 (.tmp 0), none, [1, 2]⟩,
    ⟨some 2, .mov (.const (.slice none 0 0)), none, [0]⟩,
    ⟨some 3, .mov (.const (.int .i64 0)), none, [0]⟩] false)
  (.seq (.seq (.region [⟨some 4, .load 4 true (.tmp 1), none, []⟩,
    ⟨some 5, .call (.func 34) [(.tmp 4)], none, []⟩,
    ⟨some 6, .pur (mkO (.unOp .not 4 (.tmp 5)) 4), none, []⟩] false)
  (.cond (.tmp 6)
    (.seq (.region [⟨some 2, .mov (.const (.slice none 0 0)), none, []⟩,
      ⟨some 3, .mov (.const (.int .i64 8)), none, []⟩] false)
    .ret)
    .skip))
  (.seq (.region [⟨some 7, .load 4 true (.tmp 1), none, []⟩,
    ⟨some 8, .call (.func 36) [(.tmp 7)], none, []⟩,
    ⟨some 9, .call (.func 35) [(.tmp 8)], none, []⟩,
    ⟨some 2, .mov (.tmp 9), none, []⟩,
    ⟨some 3, .mov (.const (.int .i64 0)), none, []⟩] false)
  .ret)))
def a16 : AFunc := ⟨10, c16, [.tmp 2, .tmp 3], 1⟩

/-- blindstamp/link.Unwrap -/
def c17 : ACode :=
  (.seq (.region [⟨some 2, .alloc 47 (.agg #[(.int .i64 0), (.int .i64 0), (.int .i64 0), (.slice none 0 0)]), none, [1]⟩,
    ⟨some 3, .mov (.const (.int .i64 0)), none, [0]⟩] false)
  (.seq (.region [⟨some 8, .mov (.tmp 0), none, []⟩,
    ⟨some 9, .call (.func 37) [(.tmp 8)], none, []⟩,
    ⟨some 7, .mov (.tmp 9), none, []⟩,
    ⟨some 10, .ext (.tmp 7) 0, none, [4]⟩,
    ⟨some 11, .ext (.tmp 7) 1, none, [3, 5]⟩,
    ⟨some 4, .mov (.tmp 10), none, [4]⟩,
    ⟨some 5, .mov (.tmp 11), none, []⟩] false)
  (.seq (.seq (.region [⟨some 12, .mov (.tmp 5), none, []⟩,
    ⟨some 13, .pur (mkO (.binOp .neq 28 (.tmp 12) (.const (.int .i64 0)) 28) 4), none, []⟩] false)
  (.cond (.tmp 13)
    (.seq (.region [⟨some 14, .build (.agg #[(.int .i64 0), (.int .i64 0), (.int .i64 0), (.slice none 0 0)]) [], none, [1]⟩,
      ⟨some 15, .mov (.tmp 5), none, [0, 2]⟩,
      ⟨none, .store 4 (.tmp 2) (.tmp 14), none, [1]⟩,
      ⟨some 3, .mov (.tmp 15), none, []⟩] false)
    .ret)
    .skip))
  (.seq (.seq (.region [⟨some 16, .mov (.tmp 4), none, []⟩,
    ⟨some 17, .len (.tmp 16), none, []⟩,
    ⟨some 18, .pur (mkO (.binOp .lss 3 (.tmp 17) (.const (.int .i64 10)) 3) 4), none, []⟩] false)
  (.cond (.tmp 18)
    (.seq (.region [⟨some 19, .build (.agg #[(.int .i64 0), (.int .i64 0), (.int .i64 0), (.slice none 0 0)]) [], none, []⟩,
      ⟨none, .store 4 (.tmp 2) (.tmp 19), none, []⟩,
      ⟨some 3, .mov (.const (.int .i64 90)), none, []⟩] false)
    .ret)
    .skip))
  (.seq (.region [⟨some 20, .mov (.tmp 4), none, [3, 4, 6, 7, 9, 10, 13]⟩,
    ⟨some 21, .slc 1 (.tmp 20) none (some (.const (.int .i64 4))) none, none, [3, 4, 6, 7, 9, 10, 13]⟩,
    ⟨some 22, .call (.func 38) [(.tmp 21)], none, [3, 4, 6, 7, 9, 10, 13]⟩,
    ⟨some 23, .mov (.tmp 4), none, [0, 1, 2, 6, 7, 9, 10, 13]⟩,
    ⟨some 24, .slc 1 (.tmp 23) (some (.const (.int .i64 4))) (some (.const (.int .i64 7))) none, none, [0, 1, 2, 6, 7, 9, 10, 13]⟩,
    ⟨some 25, .call (.func 38) [(.tmp 24)], none, [6, 7, 9, 10, 13]⟩,
    ⟨some 26, .mov (.tmp 4), none, [0, 1, 2, 3, 4, 5, 9, 10, 13]⟩,
    ⟨some 27, .slc 1 (.tmp 26) (some (.const (.int .i64 7))) (some (.const (.int .i64 10))) none, none, [0, 1, 2, 3, 4, 5, 9, 10, 13]⟩,
    ⟨some 28, .call (.func 38) [(.tmp 27)], none, [9, 10, 13]⟩,
    ⟨some 29, .mov (.tmp 4), none, [0, 1, 2, 3, 4, 5, 6, 7, 8, 13]⟩,
    ⟨some 30, .slc 1 (.tmp 29) (some (.const (.int .i64 10))) none none, none, [0, 1, 2, 3, 4, 5, 6, 7, 8, 13]⟩,
    ⟨some 31, .call (.func 39) [(.tmp 30)], none, [13]⟩,
    ⟨some 32, .build (.agg #[(.int .i64 0), (.int .i64 0), (.int .i64 0), (.slice none 0 0)]) [(0, 1, (.tmp 22)), (1, 1, (.tmp 25)), (2, 1, (.tmp 28)), (3, 1, (.tmp 31))], none, [13]⟩,
    ⟨some 6, .alloc 47 (.agg #[(.int .i64 0), (.int .i64 0), (.int .i64 0), (.slice none 0 0)]), none, [0, 1, 2, 3, 4, 5, 6, 7, 8, 9, 10, 11, 12]⟩,
    ⟨none, .store 4 (.tmp 6) (.tmp 32), none, []⟩] true)
  (.seq (.seq (.region [⟨some 33, .load 4 true (.tmp 6), none, []⟩,
    ⟨some 34, .call (.func 20) [(.tmp 33)], none, []⟩,
    ⟨some 35, .pur (mkO (.binOp .neq 28 (.tmp 34) (.const (.int .i64 0)) 28) 4), none, []⟩] false)
  (.cond (.tmp 35)
    (.seq (.region [⟨some 36, .build (.agg #[(.int .i64 0), (.int .i64 0), (.int .i64 0), (.slice none 0 0)]) [], none, []⟩,
      ⟨none, .store 4 (.tmp 2) (.tmp 36), none, []⟩,
      ⟨some 3, .mov (.const (.int .i64 90)), none, []⟩] false)
    .ret)
    .skip))
  (.seq (.region [⟨some 37, .load 4 true (.tmp 6), none, []⟩,
    ⟨none, .store 4 (.tmp 2) (.tmp 37), none, []⟩,
    ⟨some 3, .mov (.const (.int .i64 0)), none, []⟩] false)
  .ret)))))))
def a17 : AFunc := ⟨38, c17, [.cell 2 4 true, .tmp 3], 1⟩

/-- blindstamp/blindstampref25.Unwrap -/
def c18 : ACode :=
  (.seq (.region [⟨some 2, .alloc 47 (.agg #[(.int .i64 0), (.int .i64 0), (.int .i64 0), (.slice none 0 0)]), none, [1]⟩,
    ⟨some 3, .mov (.const (.int .i64 0)), none, [0]⟩] false)
  (.seq (.region [⟨some 8, .mov (.tmp 0), none, []⟩,
    ⟨some 9, .call (.func 40) [(.tmp 8)], none, []⟩,
    ⟨some 7, .mov (.tmp 9), none, []⟩,
    ⟨some 10, .ext (.tmp 7) 0, none, [4]⟩,
    ⟨some 11, .ext (.tmp 7) 1, none, [3, 5]⟩,
    ⟨some 4, .mov (.tmp 10), none, [4]⟩,
    ⟨some 5, .mov (.tmp 11), none, []⟩] false)
  (.seq (.seq (.region [⟨some 12, .mov (.tmp 5), none, []⟩,
    ⟨some 13, .pur (mkO (.binOp .neq 3 (.tmp 12) (.const (.int .i64 0)) 3) 4), none, []⟩] false)
  (.cond (.tmp 13)
    (.seq (.region [⟨some 14, .build (.agg #[(.int .i64 0), (.int .i64 0), (.int .i64 0), (.slice none 0 0)]) [], none, [1]⟩,
      ⟨some 15, .mov (.tmp 5), none, [0, 2]⟩,
      ⟨none, .store 4 (.tmp 2) (.tmp 14), none, [1]⟩,
      ⟨some 3, .mov (.tmp 15), none, []⟩] false)
    .ret)
    .skip))
  (.seq (.seq (.region [⟨some 16, .mov (.tmp 4), none, []⟩,
    ⟨some 17, .len (.tmp 16), none, []⟩,
    ⟨some 18, .pur (mkO (.binOp .lss 3 (.tmp 17) (.const (.int .i64 10)) 3) 4), none, []⟩] false)
  (.cond (.tmp 18)
    (.seq (.region [⟨some 19, .build (.agg #[(.int .i64 0), (.int .i64 0), (.int .i64 0), (.slice none 0 0)]) [], none, []⟩,
      ⟨none, .store 4 (.tmp 2) (.tmp 19), none, []⟩,
      ⟨some 3, .mov (.const (.int .i64 90)), none, []⟩] false)
    .ret)
    .skip))
  (.seq (.region [⟨some 20, .mov (.tmp 4), none, [3, 4, 6, 7, 9, 10, 13]⟩,
    ⟨some 21, .slc 1 (.tmp 20) none (some (.const (.int .i64 4))) none, none, [3, 4, 6, 7, 9, 10, 13]⟩,
    ⟨some 22, .call (.func 41) [(.tmp 21)], none, [3, 4, 6, 7, 9, 10, 13]⟩,
    ⟨some 23, .mov (.tmp 4), none, [0, 1, 2, 6, 7, 9, 10, 13]⟩,
    ⟨some 24, .slc 1 (.tmp 23) (some (.const (.int .i64 4))) (some (.const (.int .i64 7))) none, none, [0, 1, 2, 6, 7, 9, 10, 13]⟩,
    ⟨some 25, .call (.func 41) [(.tmp 24)], none, [6, 7, 9, 10, 13]⟩,
    ⟨some 26, .mov (.tmp 4), none, [0, 1, 2, 3, 4, 5, 9, 10, 13]⟩,
    ⟨some 27, .slc 1 (.tmp 26) (some (.const (.int .i64 7))) (some (.const (.int .i64 10))) none, none, [0, 1, 2, 3, 4, 5, 9, 10, 13]⟩,
    ⟨some 28, .call (.func 41) [(.tmp 27)], none, [9, 10, 13]⟩,
    ⟨some 29, .mov (.tmp 4), none, [0, 1, 2, 3, 4, 5, 6, 7, 8, 13]⟩,
    ⟨some 30, .slc 1 (.tmp 29) (some (.const (.int .i64 10))) none none, none, [0, 1, 2, 3, 4, 5, 6, 7, 8, 13]⟩,
    ⟨some 31, .app 5 1 1 (.int .u8 0) (.const (.slice none 0 0)) (.tmp 30), none, [13]⟩,
    ⟨some 32, .build (.agg #[(.int .i64 0), (.int .i64 0), (.int .i64 0), (.slice none 0 0)]) [(0, 1, (.tmp 22)), (1, 1, (.tmp 25)), (2, 1, (.tmp 28)), (3, 1, (.tmp 31))], none, [13]⟩,
    ⟨some 6, .alloc 47 (.agg #[(.int .i64 0), (.int .i64 0), (.int .i64 0), (.slice none 0 0)]), none, [0, 1, 2, 3, 4, 5, 6, 7, 8, 9, 10, 11, 12]⟩,
    ⟨none, .store 4 (.tmp 6) (.tmp 32), none, []⟩] true)
  (.seq (.seq (.region [⟨some 33, .load 4 true (.tmp 6), none, []⟩,
    ⟨some 34, .call (.func 34) [(.tmp 33)], none, []⟩,
    ⟨some 35, .pur (mkO (.unOp .not 4 (.tmp 34)) 4), none, []⟩] false)
  (.cond (.tmp 35)
    (.seq (.region [⟨some 36, .build (.agg #[(.int .i64 0), (.int .i64 0), (.int .i64 0), (.slice none 0 0)]) [], none, []⟩,
      ⟨none, .store 4 (.tmp 2) (.tmp 36), none, []⟩,
      ⟨some 3, .mov (.const (.int .i64 90)), none, []⟩] false)
    .ret)
    .skip))
  (.seq (.region [⟨some 37, .load 4 true (.tmp 6), none, []⟩,
    ⟨none, .store 4 (.tmp 2) (.tmp 37), none, []⟩,
    ⟨some 3, .mov (.const (.int .i64 0)), none, []⟩] false)
  .ret)))))))
def a18 : AFunc := ⟨38, c18, [.cell 2 4 true, .tmp 3], 1⟩

/-- blindstamp/blindstampref25.SamePackets -/
def c19 : ACode :=
  (.seq (.region [⟨some 4, .mov (.const (.bool false)), none, []⟩] false)
  (.seq (.seq (.region [⟨some 6, .mov (.tmp 0), none, [2, 3]⟩,
    ⟨some 7, .len (.tmp 6), none, [2, 3]⟩,
    ⟨some 8, .mov (.tmp 1), none, [0, 1]⟩,
    ⟨some 9, .len (.tmp 8), none, [0, 1]⟩,
    ⟨some 10, .pur (mkO (.binOp .neq 3 (.tmp 7) (.tmp 9) 3) 4), none, []⟩] false)
  (.cond (.tmp 10)
    (.seq (.region [⟨some 4, .mov (.const (.bool false)), none, []⟩] false)
    .ret)
    .skip))
  (.seq (.seq (.region [⟨some 5, .mov (.const (.int .i64 0)), none, []⟩] false)
  (.block 0 (.loop (.seq (.seq (.region [⟨some 11, .mov (.tmp 5), none, [1, 2]⟩,
        ⟨some 12, .mov (.tmp 0), none, [0]⟩,
        ⟨some 13, .len (.tmp 12), none, [0]⟩,
        ⟨some 14, .pur (mkO (.binOp .lss 3 (.tmp 11) (.tmp 13) 3) 4), none, []⟩] false)
      (.cond (.tmp 14)
        .skip
        (.exit 0)))
      (.seq (.block 1 (.seq (.region [⟨some 17, .mov (.tmp 0), none, [1, 5, 6, 7, 8, 9]⟩,
          ⟨some 18, .mov (.tmp 5), none, [0, 5, 6, 7, 8, 9]⟩,
          ⟨some 19, .iad 4 (.tmp 17) (.tmp 18), none, [5, 6, 7, 8, 9]⟩,
          ⟨some 20, .fad 0 (.tmp 19), none, [5, 6, 7, 8, 9]⟩,
          ⟨some 21, .load 1 false (.tmp 20), none, [5, 6, 7, 8, 9]⟩,
          ⟨some 22, .mov (.tmp 1), none, [0, 1, 2, 3, 4, 6]⟩,
          ⟨some 23, .mov (.tmp 5), none, [0, 1, 2, 3, 4, 5]⟩,
          ⟨some 24, .iad 4 (.tmp 22) (.tmp 23), none, [0, 1, 2, 3, 4]⟩,
          ⟨some 25, .fad 0 (.tmp 24), none, [0, 1, 2, 3, 4]⟩,
          ⟨some 26, .load 1 false (.tmp 25), none, [0, 1, 2, 3, 4]⟩,
          ⟨some 27, .pur (mkO (.binOp .neq 3 (.tmp 21) (.tmp 26) 3) 4), none, []⟩,
          ⟨some 28, .mov (.tmp 27), none, []⟩,
          ⟨some 29, .mov (.tmp 0), some (28, false), [13, 17, 18, 19, 20, 21]⟩,
          ⟨some 30, .mov (.tmp 5), some (28, false), [12, 17, 18, 19, 20, 21]⟩,
          ⟨some 31, .iad 4 (.tmp 29) (.tmp 30), some (28, false), [17, 18, 19, 20, 21]⟩,
          ⟨some 32, .fad 1 (.tmp 31), some (28, false), [17, 18, 19, 20, 21]⟩,
          ⟨some 33, .load 1 false (.tmp 32), some (28, false), [17, 18, 19, 20, 21]⟩,
          ⟨some 34, .mov (.tmp 1), some (28, false), [12, 13, 14, 15, 16, 18]⟩,
          ⟨some 35, .mov (.tmp 5), some (28, false), [12, 13, 14, 15, 16, 17]⟩,
          ⟨some 36, .iad 4 (.tmp 34) (.tmp 35), some (28, false), [12, 13, 14, 15, 16]⟩,
          ⟨some 37, .fad 1 (.tmp 36), some (28, false), [12, 13, 14, 15, 16]⟩,
          ⟨some 38, .load 1 false (.tmp 37), some (28, false), [12, 13, 14, 15, 16]⟩,
          ⟨some 39, .pur (mkO (.binOp .neq 3 (.tmp 33) (.tmp 38) 3) 4), some (28, false), []⟩,
          ⟨some 40, .pick (.tmp 28) (.const (.bool true)) (.tmp 39), none, []⟩,
          ⟨some 41, .mov (.tmp 40), none, []⟩,
          ⟨some 42, .mov (.tmp 0), some (41, false), [26, 30, 31, 32, 33, 34]⟩,
          ⟨some 43, .mov (.tmp 5), some (41, false), [25, 30, 31, 32, 33, 34]⟩,
          ⟨some 44, .iad 4 (.tmp 42) (.tmp 43), some (41, false), [30, 31, 32, 33, 34]⟩,
          ⟨some 45, .fad 2 (.tmp 44), some (41, false), [30, 31, 32, 33, 34]⟩,
          ⟨some 46, .load 1 false (.tmp 45), some (41, false), [30, 31, 32, 33, 34]⟩,
          ⟨some 47, .mov (.tmp 1), some (41, false), [25, 26, 27, 28, 29, 31]⟩,
          ⟨some 48, .mov (.tmp 5), some (41, false), [25, 26, 27, 28, 29, 30]⟩,
          ⟨some 49, .iad 4 (.tmp 47) (.tmp 48), some (41, false), [25, 26, 27, 28, 29]⟩,
          ⟨some 50, .fad 2 (.tmp 49), some (41, false), [25, 26, 27, 28, 29]⟩,
          ⟨some 51, .load 1 false (.tmp 50), some (41, false), [25, 26, 27, 28, 29]⟩,
          ⟨some 52, .pur (mkO (.binOp .neq 3 (.tmp 46) (.tmp 51) 3) 4), some (41, false), []⟩,
          ⟨some 53, .pick (.tmp 41) (.const (.bool true)) (.tmp 52), none, []⟩,
          ⟨some 54, .mov (.tmp 53), none, []⟩,
          ⟨some 55, .mov (.tmp 0), some (54, false), [39, 44, 45, 46, 47, 48, 49]⟩,
          ⟨some 56, .mov (.tmp 5), some (54, false), [38, 44, 45, 46, 47, 48, 49]⟩,
          ⟨some 57, .iad 4 (.tmp 55) (.tmp 56), some (54, false), [44, 45, 46, 47, 48, 49]⟩,
          ⟨some 58, .fad 3 (.tmp 57), some (54, false), [44, 45, 46, 47, 48, 49]⟩,
          ⟨some 59, .load 1 false (.tmp 58), some (54, false), [44, 45, 46, 47, 48, 49]⟩,
          ⟨some 60, .b2s (.tmp 59), some (54, false), [44, 45, 46, 47, 48, 49]⟩,
          ⟨some 61, .mov (.tmp 1), some (54, false), [38, 39, 40, 41, 42, 43, 45]⟩,
          ⟨some 62, .mov (.tmp 5), some (54, false), [38, 39, 40, 41, 42, 43, 44]⟩,
          ⟨some 63, .iad 4 (.tmp 61) (.tmp 62), some (54, false), [38, 39, 40, 41, 42, 43]⟩,
          ⟨some 64, .fad 3 (.tmp 63), some (54, false), [38, 39, 40, 41, 42, 43]⟩,
          ⟨some 65, .load 1 false (.tmp 64), some (54, false), [38, 39, 40, 41, 42, 43]⟩,
          ⟨some 66, .b2s (.tmp 65), some (54, false), [38, 39, 40, 41, 42, 43]⟩,
          ⟨some 67, .pur (mkO (.binOp .neq 9 (.tmp 60) (.tmp 66) 9) 4), some (54, false), []⟩,
          ⟨some 68, .pick (.tmp 54) (.const (.bool true)) (.tmp 67), none, []⟩] true)
        (.cond (.tmp 68)
          (.seq (.region [⟨some 4, .mov (.const (.bool false)), none, []⟩] false)
          .ret)
          .skip)))
      (.region [⟨some 15, .mov (.tmp 5), none, []⟩,
        ⟨some 16, .pur (mkO (.binOp .add 3 (.tmp 15) (.const (.int .i64 1)) 3) 3), none, []⟩,
        ⟨some 5, .mov (.tmp 16), none, []⟩] false))))))
  (.seq (.region [⟨some 4, .mov (.const (.bool true)), none, []⟩] false)
  .ret))))
def a19 : AFunc := ⟨69, c19, [.tmp 4], 1⟩

/-- blindstamp/link.CheckPacket -/
def c20 : ACode :=
  (.seq (.region [⟨some 1, .box 47 (.tmp 0), none, [1]⟩,
    ⟨some 2, .mov (.const (.int .i64 0)), none, [0]⟩] false)
  (.seq (.region [⟨some 4, .fad 0 (.tmp 1), none, []⟩,
    ⟨some 5, .load 1 false (.tmp 4), none, []⟩,
    ⟨some 6, .call (.func 28) [(.tmp 5), (.const (.int .i64 0)), (.const (.int .i64 2147483648))], none, []⟩,
    ⟨some 7, .mov (.tmp 6), none, []⟩,
    ⟨some 8, .fad 1 (.tmp 1), some (7, true), []⟩,
    ⟨some 9, .load 1 false (.tmp 8), some (7, true), []⟩,
    ⟨some 10, .call (.func 28) [(.tmp 9), (.const (.int .i64 0)), (.const (.int .i64 16777216))], some (7, true), []⟩,
    ⟨some 11, .pick (.tmp 7) (.tmp 10) (.const (.bool false)), none, []⟩,
    ⟨some 12, .mov (.tmp 11), none, []⟩,
    ⟨some 13, .fad 2 (.tmp 1), some (12, true), []⟩,
    ⟨some 14, .load 1 false (.tmp 13), some (12, true), []⟩,
    ⟨some 15, .call (.func 28) [(.tmp 14), (.const (.int .i64 0)), (.const (.int .i64 16777216))], some (12, true), []⟩,
    ⟨some 16, .pick (.tmp 12) (.tmp 15) (.const (.bool false)), none, []⟩,
    ⟨some 3, .mov (.tmp 16), none, []⟩] false)
  (.seq (.seq (.region [⟨some 17, .mov (.tmp 3), none, []⟩,
    ⟨some 18, .pur (mkO (.unOp .not 4 (.tmp 17)) 4), none, []⟩,
    ⟨some 19, .mov (.tmp 18), none, []⟩,
    ⟨some 20, .fad 3 (.tmp 1), some (19, false), []⟩,
    ⟨some 21, .load 1 false (.tmp 20), some (19, false), []⟩,
    ⟨some 22, .len (.tmp 21), some (19, false), []⟩,
    ⟨some 23, .pur (mkO (.binOp .gtr 3 (.tmp 22) (.const (.int .i64 900)) 3) 4), some (19, false), []⟩,
    ⟨some 24, .pick (.tmp 19) (.const (.bool true)) (.tmp 23), none, []⟩,
    ⟨some 25, .mov (.tmp 24), none, []⟩,
    ⟨some 26, .fad 1 (.tmp 1), some (25, false), []⟩,
    ⟨some 27, .load 1 false (.tmp 26), some (25, false), []⟩,
    ⟨some 28, .pur (mkO (.binOp .eql 3 (.tmp 27) (.const (.int .i64 0)) 3) 4), some (25, false), []⟩,
    ⟨some 29, .mov (.tmp 28), some (25, false), []⟩,
    ⟨some 30, .fad 3 (.tmp 1), some (29, true), []⟩,
    ⟨some 31, .load 1 false (.tmp 30), some (29, true), []⟩,
    ⟨some 32, .len (.tmp 31), some (29, true), []⟩,
    ⟨some 33, .pur (mkO (.binOp .gtr 3 (.tmp 32) (.const (.int .i64 0)) 3) 4), some (29, true), []⟩,
    ⟨some 34, .pick (.tmp 29) (.tmp 33) (.const (.bool false)), some (25, false), []⟩,
    ⟨some 35, .pick (.tmp 25) (.const (.bool true)) (.tmp 34), none, []⟩] false)
  (.cond (.tmp 35)
    (.seq (.region [⟨some 2, .mov (.const (.int .i64 8)), none, []⟩] false)
    .ret)
    .skip))
  (.seq (.region [⟨some 2, .mov (.const (.int .i64 0)), none, []⟩] false)
  .ret))))
def a20 : AFunc := ⟨36, c20, [.tmp 2], 1⟩

/-- blindstamp/blindstampref25.CheckPacket -/
def c21 : ACode :=
  (.seq (.region [⟨some 1, .box 47 (.tmp 0), none, [1]⟩,
    ⟨some 2, .mov (.const (.int .i64 0)), none, [0]⟩] false)
  (.seq (.seq (.region [⟨some 3, .load 4 true (.tmp 1), none, []⟩,
    ⟨some 4, .call (.func 34) [(.tmp 3)], none, []⟩,
    ⟨some 5, .pur (mkO (.unOp .not 4 (.tmp 4)) 4), none, []⟩] false)
  (.cond (.tmp 5)
    (.seq (.region [⟨some 2, .mov (.const (.int .i64 8)), none, []⟩] false)
    .ret)
    .skip))
  (.seq (.region [⟨some 2, .mov (.const (.int .i64 0)), none, []⟩] false)
  .ret)))
def a21 : AFunc := ⟨6, c21, [.tmp 2], 1⟩

/-- blindstamp/link.New -/
def c22 : ACode :=
  (.seq (.region [⟨some 2, .alloc 24 (.agg #[(.int .i64 0), (.int .i64 0), (.slice none 0 0), (.int .i64 0), (.int .i64 0), (.bool false)]), none, [1]⟩,
    ⟨some 3, .mov (.const (.int .i64 0)), none, [0]⟩] false)
  (.seq (.seq (.region [⟨some 4, .mov (.tmp 0), none, []⟩,
    ⟨some 5, .call (.func 28) [(.tmp 4), (.const (.int .i64 0)), (.const (.int .i64 2147483648))], none, []⟩,
    ⟨some 6, .pur (mkO (.unOp .not 4 (.tmp 5)) 4), none, []⟩] false)
  (.cond (.tmp 6)
    (.seq (.region [⟨some 7, .build (.agg #[(.int .i64 0), (.int .i64 0), (.slice none 0 0), (.int .i64 0), (.int .i64 0), (.bool false)]) [], none, []⟩,
      ⟨none, .store 6 (.tmp 2) (.tmp 7), none, []⟩,
      ⟨some 3, .mov (.const (.int .i64 2)), none, []⟩] false)
    .ret)
    .skip))
  (.seq (.region [⟨some 8, .mov (.tmp 0), none, []⟩,
    ⟨some 9, .build (.agg #[(.int .i64 0), (.int .i64 0), (.slice none 0 0), (.int .i64 0), (.int .i64 0), (.bool false)]) [(0, 1, (.tmp 8)), (1, 1, (.const (.int .i64 1))), (3, 1, (.const (.int .i64 1)))], none, []⟩,
    ⟨none, .store 6 (.tmp 2) (.tmp 9), none, []⟩,
    ⟨some 3, .mov (.const (.int .i64 0)), none, []⟩] false)
  .ret)))
def a22 : AFunc := ⟨10, c22, [.cell 2 6 true, .tmp 3], 1⟩

/-- blindstamp/link.Put -/
def c23 : ACode :=
  (.seq (.region [⟨some 2, .box 24 (.tmp 0), none, [1, 2]⟩,
    ⟨some 4, .alloc 24 (.agg #[(.int .i64 0), (.int .i64 0), (.slice none 0 0), (.int .i64 0), (.int .i64 0), (.bool false)]), none, [0, 2]⟩,
    ⟨some 5, .mov (.const (.int .i64 0)), none, [0, 1]⟩] false)
  (.seq (.region [⟨some 10, .load 6 true (.tmp 2), none, []⟩,
    ⟨some 11, .call (.func 26) [(.tmp 10)], none, []⟩,
    ⟨some 9, .mov (.tmp 11), none, []⟩,
    ⟨some 12, .ext (.tmp 9) 0, none, [4]⟩,
    ⟨some 13, .ext (.tmp 9) 1, none, [3, 5]⟩,
    ⟨some 6, .mov (.tmp 12), none, [4]⟩,
    ⟨some 7, .mov (.tmp 13), none, []⟩] false)
  (.seq (.seq (.region [⟨some 14, .mov (.tmp 7), none, []⟩,
    ⟨some 15, .pur (mkO (.binOp .neq 28 (.tmp 14) (.const (.int .i64 0)) 28) 4), none, []⟩] false)
  (.cond (.tmp 15)
    (.seq (.region [⟨some 16, .build (.agg #[(.int .i64 0), (.int .i64 0), (.slice none 0 0), (.int .i64 0), (.int .i64 0), (.bool false)]) [], none, [1]⟩,
      ⟨some 17, .mov (.tmp 7), none, [0, 2]⟩,
      ⟨none, .store 6 (.tmp 4) (.tmp 16), none, [1]⟩,
      ⟨some 5, .mov (.tmp 17), none, []⟩] false)
    .ret)
    .skip))
  (.seq (.seq (.region [⟨some 18, .mov (.tmp 6), none, [1]⟩,
    ⟨some 19, .mov (.tmp 1), none, [0]⟩,
    ⟨some 20, .call (.func 27) [(.tmp 18), (.tmp 19)], none, []⟩,
    ⟨some 8, .mov (.tmp 20), none, []⟩] false)
  (.seq (.region [⟨some 21, .mov (.tmp 8), none, []⟩,
    ⟨some 22, .pur (mkO (.binOp .neq 28 (.tmp 21) (.const (.int .i64 0)) 28) 4), none, []⟩] false)
  (.cond (.tmp 22)
    (.seq (.region [⟨some 23, .build (.agg #[(.int .i64 0), (.int .i64 0), (.slice none 0 0), (.int .i64 0), (.int .i64 0), (.bool false)]) [], none, [1]⟩,
      ⟨some 24, .mov (.tmp 8), none, [0, 2]⟩,
      ⟨none, .store 6 (.tmp 4) (.tmp 23), none, [1]⟩,
      ⟨some 5, .mov (.tmp 24), none, []⟩] false)
    .ret)
    .skip)))
  (.seq (.region [⟨some 25, .mov (.tmp 6), none, []⟩,
    ⟨some 26, .nilck (.tmp 25), none, []⟩,
    ⟨some 27, .fad 0 (.tmp 26), none, []⟩,
    ⟨some 28, .load 6 true (.tmp 27), none, []⟩,
    ⟨none, .store 6 (.tmp 4) (.tmp 28), none, []⟩,
    ⟨some 5, .mov (.const (.int .i64 0)), none, []⟩] false)
  .ret)))))
def a23 : AFunc := ⟨29, c23, [.cell 4 6 true, .tmp 5], 1⟩

/-- blindstamp/link.Send -/
def c24 : ACode :=
  (.seq (.region [⟨some 1, .box 24 (.tmp 0), none, [1, 2, 3]⟩,
    ⟨some 2, .alloc 24 (.agg #[(.int .i64 0), (.int .i64 0), (.slice none 0 0), (.int .i64 0), (.int .i64 0), (.bool false)]), none, [0, 2, 3]⟩,
    ⟨some 3, .mov (.const (.slice none 0 0)), none, [0, 1]⟩,
    ⟨some 4, .mov (.const (.int .i64 0)), none, [0, 1]⟩] false)
  (.seq (.region [⟨some 9, .load 6 true (.tmp 1), none, []⟩,
    ⟨some 10, .call (.func 26) [(.tmp 9)], none, []⟩,
    ⟨some 8, .mov (.tmp 10), none, []⟩,
    ⟨some 11, .ext (.tmp 8) 0, none, [4]⟩,
    ⟨some 12, .ext (.tmp 8) 1, none, [3, 5]⟩,
    ⟨some 5, .mov (.tmp 11), none, [4]⟩,
    ⟨some 6, .mov (.tmp 12), none, []⟩] false)
  (.seq (.seq (.region [⟨some 13, .mov (.tmp 6), none, []⟩,
    ⟨some 14, .pur (mkO (.binOp .neq 28 (.tmp 13) (.const (.int .i64 0)) 28) 4), none, []⟩] false)
  (.cond (.tmp 14)
    (.seq (.region [⟨some 15, .build (.agg #[(.int .i64 0), (.int .i64 0), (.slice none 0 0), (.int .i64 0), (.int .i64 0), (.bool false)]) [], none, [1]⟩,
      ⟨some 16, .mov (.tmp 6), none, [0, 2, 3]⟩,
      ⟨none, .store 6 (.tmp 2) (.tmp 15), none, [1]⟩,
      ⟨some 3, .mov (.const (.slice none 0 0)), none, [1]⟩,
      ⟨some 4, .mov (.tmp 16), none, []⟩] false)
    .ret)
    .skip))
  (.seq (.region [⟨some 17, .mov (.tmp 5), none, []⟩,
    ⟨some 18, .call (.func 42) [(.tmp 17)], none, []⟩,
    ⟨some 7, .mov (.tmp 18), none, []⟩] false)
  (.seq (.region [⟨some 19, .mov (.tmp 5), none, [4]⟩,
    ⟨some 20, .nilck (.tmp 19), none, [4]⟩,
    ⟨some 21, .fad 0 (.tmp 20), none, [4]⟩,
    ⟨some 22, .load 6 true (.tmp 21), none, [4]⟩,
    ⟨some 23, .mov (.tmp 7), none, [0, 1, 2, 3, 5]⟩,
    ⟨none, .store 6 (.tmp 2) (.tmp 22), none, [4]⟩,
    ⟨some 3, .mov (.tmp 23), none, []⟩,
    ⟨some 4, .mov (.const (.int .i64 0)), none, []⟩] false)
  .ret)))))
def a24 : AFunc := ⟨24, c24, [.cell 2 6 true, .tmp 3, .tmp 4], 1⟩

/-- blindstamp/link.Take -/
def c25 : ACode :=
  (.seq (.region [⟨some 2, .box 24 (.tmp 0), none, [1, 2, 3, 4, 5]⟩,
    ⟨some 3, .box 47 (.tmp 1), none, [0, 2, 3, 4, 5]⟩,
    ⟨some 4, .alloc 24 (.agg #[(.int .i64 0), (.int .i64 0), (.slice none 0 0), (.int .i64 0), (.int .i64 0), (.bool false)]), none, [0, 1, 3, 4, 5]⟩,
    ⟨some 5, .mov (.const (.slice none 0 0)), none, [0, 1, 2]⟩,
    ⟨some 6, .mov (.const (.bool false)), none, [0, 1, 2]⟩,
    ⟨some 7, .mov (.const (.int .i64 0)), none, [0, 1, 2]⟩] false)
  (.seq (.region [⟨some 10, .load 6 true (.tmp 2), none, []⟩,
    ⟨some 11, .call (.func 26) [(.tmp 10)], none, []⟩,
    ⟨some 9, .mov (.tmp 11), none, []⟩,
    ⟨some 12, .ext (.tmp 9) 0, none, [4]⟩,
    ⟨some 13, .ext (.tmp 9) 1, none, [3, 5]⟩,
    ⟨some 8, .mov (.tmp 12), none, [4]⟩,
    ⟨some 7, .mov (.tmp 13), none, []⟩] false)
  (.seq (.seq (.region [⟨some 14, .mov (.tmp 7), none, []⟩,
    ⟨some 15, .pur (mkO (.binOp .eql 28 (.tmp 14) (.const (.int .i64 0)) 28) 4), none, []⟩] false)
  (.cond (.tmp 15)
    (.region [⟨some 16, .load 4 true (.tmp 3), none, []⟩,
      ⟨some 17, .call (.func 20) [(.tmp 16)], none, []⟩,
      ⟨some 7, .mov (.tmp 17), none, []⟩] false)
    .skip))
  (.seq (.seq (.region [⟨some 18, .mov (.tmp 7), none, []⟩,
    ⟨some 19, .pur (mkO (.binOp .neq 28 (.tmp 18) (.const (.int .i64 0)) 28) 4), none, []⟩] false)
  (.cond (.tmp 19)
    (.seq (.region [⟨some 20, .build (.agg #[(.int .i64 0), (.int .i64 0), (.slice none 0 0), (.int .i64 0), (.int .i64 0), (.bool false)]) [], none, [1]⟩,
      ⟨some 21, .mov (.tmp 7), none, [0, 2, 3, 4]⟩,
      ⟨none, .store 6 (.tmp 4) (.tmp 20), none, [1]⟩,
      ⟨some 5, .mov (.const (.slice none 0 0)), none, [1]⟩,
      ⟨some 6, .mov (.const (.bool false)), none, [1]⟩,
      ⟨some 7, .mov (.tmp 21), none, []⟩] false)
    .ret)
    .skip))
  (.seq (.seq (.region [⟨some 22, .fad 0 (.tmp 3), none, [2, 3, 4, 5, 6]⟩,
    ⟨some 23, .load 1 false (.tmp 22), none, [2, 3, 4, 5, 6]⟩,
    ⟨some 24, .mov (.tmp 8), none, [0, 1]⟩,
    ⟨some 25, .nilck (.tmp 24), none, [0, 1]⟩,
    ⟨some 26, .fad 0 (.tmp 25), none, [0, 1]⟩,
    ⟨some 27, .fad 0 (.tmp 26), none, [0, 1]⟩,
    ⟨some 28, .load 1 false (.tmp 27), none, [0, 1]⟩,
    ⟨some 29, .pur (mkO (.binOp .neq 3 (.tmp 23) (.tmp 28) 3) 4), none, []⟩,
    ⟨some 30, .mov (.tmp 29), none, []⟩,
    ⟨some 31, .fad 1 (.tmp 3), some (30, false), [11, 12, 13, 14, 15]⟩,
    ⟨some 32, .load 1 false (.tmp 31), some (30, false), [11, 12, 13, 14, 15]⟩,
    ⟨some 33, .mov (.tmp 8), some (30, false), [9, 10]⟩,
    ⟨some 34, .nilck (.tmp 33), some (30, false), [9, 10]⟩,
    ⟨some 35, .fad 0 (.tmp 34), some (30, false), [9, 10]⟩,
    ⟨some 36, .fad 3 (.tmp 35), some (30, false), [9, 10]⟩,
    ⟨some 37, .load 1 false (.tmp 36), some (30, false), [9, 10]⟩,
    ⟨some 38, .pur (mkO (.binOp .eql 3 (.tmp 32) (.tmp 37) 3) 4), some (30, false), []⟩,
    ⟨some 39, .mov (.tmp 38), some (30, false), []⟩,
    ⟨some 40, .mov (.tmp 8), some (39, true), []⟩,
    ⟨some 41, .nilck (.tmp 40), some (39, true), []⟩,
    ⟨some 42, .fad 0 (.tmp 41), some (39, true), []⟩,
    ⟨some 43, .fad 3 (.tmp 42), some (39, true), []⟩,
    ⟨some 44, .load 1 false (.tmp 43), some (39, true), []⟩,
    ⟨some 45, .pur (mkO (.binOp .add 3 (.tmp 44) (.const (.int .i64 1)) 3) 3), some (39, true), []⟩,
    ⟨some 46, .pur (mkO (.binOp .geq 3 (.tmp 45) (.const (.int .i64 16777216)) 3) 4), some (39, true), []⟩,
    ⟨some 47, .pick (.tmp 39) (.tmp 46) (.const (.bool false)), some (30, false), []⟩,
    ⟨some 48, .pick (.tmp 30) (.const (.bool true)) (.tmp 47), none, []⟩] true)
  (.cond (.tmp 48)
    (.seq (.region [⟨some 49, .mov (.tmp 8), none, []⟩,
      ⟨some 50, .nilck (.tmp 49), none, []⟩,
      ⟨some 51, .fad 0 (.tmp 50), none, []⟩,
      ⟨some 52, .load 6 true (.tmp 51), none, []⟩,
      ⟨none, .store 6 (.tmp 4) (.tmp 52), none, []⟩,
      ⟨some 5, .mov (.const (.slice none 0 0)), none, []⟩,
      ⟨some 6, .mov (.const (.bool false)), none, []⟩,
      ⟨some 7, .mov (.const (.int .i64 0)), none, []⟩] false)
    .ret)
    .skip))
  (.seq (.region [⟨some 53, .mov (.tmp 8), none, [1, 2]⟩,
    ⟨some 54, .fad 2 (.tmp 3), none, [0]⟩,
    ⟨some 55, .load 1 false (.tmp 54), none, [0]⟩,
    ⟨some 56, .call (.func 43) [(.tmp 53), (.tmp 55)], none, []⟩] false)
  (.seq (.region [⟨some 57, .mov (.tmp 8), none, [1, 2, 3, 4, 5, 6, 7, 8, 9, 10]⟩,
    ⟨some 58, .mov (.tmp 8), none, [0]⟩,
    ⟨some 59, .nilck (.tmp 58), none, [0]⟩,
    ⟨some 60, .fad 0 (.tmp 59), none, [0]⟩,
    ⟨some 61, .fad 5 (.tmp 60), none, [0]⟩,
    ⟨some 62, .load 1 false (.tmp 61), none, [0]⟩,
    ⟨some 63, .mov (.tmp 62), none, [0]⟩,
    ⟨some 64, .fad 1 (.tmp 3), some (63, false), [0]⟩,
    ⟨some 65, .load 1 false (.tmp 64), some (63, false), [0]⟩,
    ⟨some 66, .pur (mkO (.binOp .gtr 3 (.tmp 65) (.const (.int .i64 0)) 3) 4), some (63, false), [0]⟩,
    ⟨some 67, .pick (.tmp 63) (.const (.bool true)) (.tmp 66), none, [0]⟩,
    ⟨some 68, .nilck (.tmp 57), none, []⟩,
    ⟨some 69, .fad 0 (.tmp 68), none, []⟩,
    ⟨some 70, .fad 5 (.tmp 69), none, []⟩,
    ⟨none, .store 1 (.tmp 70) (.tmp 67), none, []⟩] false)
  (.seq (.seq (.region [⟨some 71, .fad 1 (.tmp 3), none, [2, 3, 4, 5, 6]⟩,
    ⟨some 72, .load 1 false (.tmp 71), none, [2, 3, 4, 5, 6]⟩,
    ⟨some 73, .mov (.tmp 8), none, [0, 1]⟩,
    ⟨some 74, .nilck (.tmp 73), none, [0, 1]⟩,
    ⟨some 75, .fad 0 (.tmp 74), none, [0, 1]⟩,
    ⟨some 76, .fad 3 (.tmp 75), none, [0, 1]⟩,
    ⟨some 77, .load 1 false (.tmp 76), none, [0, 1]⟩,
    ⟨some 78, .pur (mkO (.binOp .neq 3 (.tmp 72) (.tmp 77) 3) 4), none, []⟩] true)
  (.cond (.tmp 78)
    (.seq (.region [⟨some 79, .mov (.tmp 8), none, []⟩,
      ⟨some 80, .nilck (.tmp 79), none, []⟩,
      ⟨some 81, .fad 0 (.tmp 80), none, []⟩,
      ⟨some 82, .load 6 true (.tmp 81), none, []⟩,
      ⟨none, .store 6 (.tmp 4) (.tmp 82), none, []⟩,
      ⟨some 5, .mov (.const (.slice none 0 0)), none, []⟩,
      ⟨some 6, .mov (.const (.bool false)), none, []⟩,
      ⟨some 7, .mov (.const (.int .i64 0)), none, []⟩] false)
    .ret)
    .skip))
  (.seq (.region [⟨some 83, .mov (.tmp 8), none, []⟩,
    ⟨some 84, .nilck (.tmp 83), none, []⟩,
    ⟨some 85, .fad 0 (.tmp 84), none, []⟩,
    ⟨some 86, .fad 3 (.tmp 85), none, []⟩,
    ⟨some 87, .load 1 false (.tmp 86), none, []⟩,
    ⟨some 88, .pur (mkO (.binOp .add 3 (.tmp 87) (.const (.int .i64 1)) 3) 3), none, []⟩,
    ⟨some 89, .nilck (.tmp 83), none, []⟩,
    ⟨some 90, .fad 0 (.tmp 89), none, []⟩,
    ⟨some 91, .fad 3 (.tmp 90), none, []⟩,
    ⟨none, .store 1 (.tmp 91) (.tmp 88), none, []⟩] false)
  (.seq (.region [⟨some 92, .mov (.tmp 8), none, [4, 5, 6]⟩,
    ⟨some 93, .nilck (.tmp 92), none, [4, 5, 6]⟩,
    ⟨some 94, .fad 0 (.tmp 93), none, [4, 5, 6]⟩,
    ⟨some 95, .load 6 true (.tmp 94), none, [4, 5, 6]⟩,
    ⟨some 96, .fad 3 (.tmp 3), none, [0, 1, 2, 3]⟩,
    ⟨some 97, .load 1 false (.tmp 96), none, [0, 1, 2, 3]⟩,
    ⟨some 98, .call (.func 39) [(.tmp 97)], none, [0, 1, 2, 3]⟩,
    ⟨none, .store 6 (.tmp 4) (.tmp 95), none, []⟩,
    ⟨some 5, .mov (.tmp 98), none, []⟩,
    ⟨some 6, .mov (.const (.bool true)), none, []⟩,
    ⟨some 7, .mov (.const (.int .i64 0)), none, []⟩] true)
  .ret))))))))))
def a25 : AFunc := ⟨99, c25, [.cell 4 6 true, .tmp 5, .tmp 6, .tmp 7], 1⟩

/-- blindstamp/link.of -/
def c26 : ACode :=
  (.seq (.region [⟨some 1, .box 24 (.tmp 0), none, [1, 2]⟩,
    ⟨some 2, .mov (.const (.pointer none)), none, [0]⟩,
    ⟨some 3, .mov (.const (.int .i64 0)), none, [0]⟩] false)
  (.seq (.seq (.region [⟨some 5, .load 6 true (.tmp 1), none, []⟩,
    ⟨some 6, .call (.func 11) [(.tmp 5)], none, []⟩,
    ⟨some 4, .mov (.tmp 6), none, []⟩] false)
  (.seq (.region [⟨some 7, .mov (.tmp 4), none, []⟩,
    ⟨some 8, .pur (mkO (.binOp .neq 28 (.tmp 7) (.const (.int .i64 0)) 28) 4), none, []⟩] false)
  (.cond (.tmp 8)
    (.seq (.region [⟨some 9, .mov (.tmp 4), none, [1]⟩,
      ⟨some 2, .mov (.const (.pointer none)), none, [0]⟩,
      ⟨some 3, .mov (.tmp 9), none, []⟩] false)
    .ret)
    .skip)))
  (.seq (.region [⟨some 10, .load 6 true (.tmp 1), none, []⟩,
    ⟨some 11, .call (.func 44) [(.tmp 10)], none, []⟩,
    ⟨some 12, .build (.agg #[(.int .i64 0), (.int .i64 0), (.slice none 0 0), (.int .i64 0), (.int .i64 0), (.bool false)]) [(0, 6, (.tmp 11))], none, []⟩,
    ⟨some 13, .box 71 (.tmp 12), none, []⟩,
    ⟨some 2, .mov (.tmp 13), none, []⟩,
    ⟨some 3, .mov (.const (.int .i64 0)), none, []⟩] false)
  .ret)))
def a26 : AFunc := ⟨14, c26, [.tmp 2, .tmp 3], 0⟩

/-- (*blindstamp/link.under).put -/
def c27 : ACode :=
  (.seq (.region [⟨some 4, .mov (.const (.int .i64 0)), none, []⟩] false)
  (.seq (.block 0 (.seq (.region [⟨some 6, .mov (.tmp 1), none, []⟩,
      ⟨some 7, .len (.tmp 6), none, []⟩,
      ⟨some 8, .pur (mkO (.binOp .gtr 3 (.tmp 7) (.const (.int .i64 900)) 3) 4), none, []⟩,
      ⟨some 5, .mov (.tmp 8), none, []⟩] false)
    (.cond (.tmp 5)
      (.seq (.region [⟨some 4, .mov (.const (.int .i64 4)), none, []⟩] false)
      .ret)
      (.seq (.seq (.region [⟨some 10, .mov (.tmp 0), none, []⟩,
        ⟨some 11, .nilck (.tmp 10), none, []⟩,
        ⟨some 12, .fad 0 (.tmp 11), none, []⟩,
        ⟨some 13, .fad 2 (.tmp 12), none, []⟩,
        ⟨some 14, .load 1 false (.tmp 13), none, []⟩,
        ⟨some 15, .len (.tmp 14), none, []⟩,
        ⟨some 16, .pur (mkO (.binOp .geq 3 (.tmp 15) (.const (.int .i64 32)) 3) 4), none, []⟩,
        ⟨some 9, .mov (.tmp 16), none, []⟩] false)
      (.cond (.tmp 9)
        .skip
        (.region [⟨some 17, .mov (.tmp 0), none, []⟩,
          ⟨some 18, .nilck (.tmp 17), none, []⟩,
          ⟨some 19, .fad 0 (.tmp 18), none, []⟩,
          ⟨some 20, .fad 1 (.tmp 19), none, []⟩,
          ⟨some 21, .load 1 false (.tmp 20), none, []⟩,
          ⟨some 22, .pur (mkO (.binOp .add 3 (.tmp 21) (.const (.int .i64 1)) 3) 3), none, []⟩,
          ⟨some 23, .pur (mkO (.binOp .geq 3 (.tmp 22) (.const (.int .i64 16777216)) 3) 4), none, []⟩,
          ⟨some 9, .mov (.tmp 23), none, []⟩] false)))
      (.cond (.tmp 9)
        (.seq (.region [⟨some 4, .mov (.const (.int .i64 9)), none, []⟩] false)
        .ret)
        .skip)))))
  (.seq (.region [⟨some 24, .mov (.tmp 0), none, [1, 2, 3, 4, 5, 6, 7, 8, 9, 10, 11, 12, 13, 14, 15]⟩,
    ⟨some 25, .mov (.tmp 0), none, [0, 6, 7, 8, 9, 10, 11, 12, 13, 14]⟩,
    ⟨some 26, .nilck (.tmp 25), none, [0, 6, 7, 8, 9, 10, 11, 12, 13, 14]⟩,
    ⟨some 27, .fad 0 (.tmp 26), none, [0, 6, 7, 8, 9, 10, 11, 12, 13, 14]⟩,
    ⟨some 28, .fad 2 (.tmp 27), none, [0, 6, 7, 8, 9, 10, 11, 12, 13, 14]⟩,
    ⟨some 29, .load 1 false (.tmp 28), none, [0, 6, 7, 8, 9, 10, 11, 12, 13, 14]⟩,
    ⟨some 30, .mov (.tmp 0), none, [0, 1, 2, 3, 4, 5, 11, 12]⟩,
    ⟨some 31, .nilck (.tmp 30), none, [0, 1, 2, 3, 4, 5, 11, 12]⟩,
    ⟨some 32, .fad 0 (.tmp 31), none, [0, 1, 2, 3, 4, 5, 11, 12]⟩,
    ⟨some 33, .fad 1 (.tmp 32), none, [0, 1, 2, 3, 4, 5, 11, 12]⟩,
    ⟨some 34, .load 1 false (.tmp 33), none, [0, 1, 2, 3, 4, 5, 11, 12]⟩,
    ⟨some 35, .mov (.tmp 1), none, [0, 1, 2, 3, 4, 5, 6, 7, 8, 9, 10]⟩,
    ⟨some 36, .call (.func 39) [(.tmp 35)], none, [0, 1, 2, 3, 4, 5, 6, 7, 8, 9, 10]⟩,
    ⟨some 37, .build (.agg #[(.int .i64 0), (.slice none 0 0)]) [(0, 1, (.tmp 34)), (1, 1, (.tmp 36))], none, [0, 1, 2, 3, 4, 5]⟩,
    ⟨some 38, .bsl 34 2 (.agg #[(.int .i64 0), (.slice none 0 0)]) 1 [(0, 2, (.tmp 37))], none, [0, 1, 2, 3, 4, 5]⟩,
    ⟨some 39, .app 34 2 32 (.agg #[(.int .i64 0), (.slice none 0 0)]) (.tmp 29) (.tmp 38), none, [0]⟩,
    ⟨some 40, .nilck (.tmp 24), none, []⟩,
    ⟨some 41, .fad 0 (.tmp 40), none, []⟩,
    ⟨some 42, .fad 2 (.tmp 41), none, []⟩,
    ⟨none, .store 1 (.tmp 42) (.tmp 39), none, []⟩] true)
  (.seq (.region [⟨some 43, .mov (.tmp 0), none, []⟩,
    ⟨some 44, .nilck (.tmp 43), none, []⟩,
    ⟨some 45, .fad 0 (.tmp 44), none, []⟩,
    ⟨some 46, .fad 1 (.tmp 45), none, []⟩,
    ⟨some 47, .load 1 false (.tmp 46), none, []⟩,
    ⟨some 48, .pur (mkO (.binOp .add 3 (.tmp 47) (.const (.int .i64 1)) 3) 3), none, []⟩,
    ⟨some 49, .nilck (.tmp 43), none, []⟩,
    ⟨some 50, .fad 0 (.tmp 49), none, []⟩,
    ⟨some 51, .fad 1 (.tmp 50), none, []⟩,
    ⟨none, .store 1 (.tmp 51) (.tmp 48), none, []⟩] false)
  (.seq (.region [⟨some 4, .mov (.const (.int .i64 0)), none, []⟩] false)
  .ret)))))
def a27 : AFunc := ⟨52, c27, [.tmp 4], 0⟩

/-- blindstamp/link.from -/
def c28 : ACode :=
  (.seq (.region [⟨some 6, .mov (.const (.bool false)), none, []⟩] false)
  (.seq (.region [⟨some 7, .mov (.tmp 0), none, [1]⟩,
    ⟨some 8, .mov (.tmp 1), none, [0]⟩,
    ⟨some 9, .pur (mkO (.binOp .geq 3 (.tmp 7) (.tmp 8) 3) 4), none, []⟩,
    ⟨some 10, .mov (.tmp 9), none, []⟩,
    ⟨some 11, .mov (.tmp 0), some (10, true), [5]⟩,
    ⟨some 12, .mov (.tmp 2), some (10, true), [4]⟩,
    ⟨some 13, .pur (mkO (.binOp .lss 3 (.tmp 11) (.tmp 12) 3) 4), some (10, true), []⟩,
    ⟨some 14, .pick (.tmp 10) (.tmp 13) (.const (.bool false)), none, []⟩,
    ⟨some 6, .mov (.tmp 14), none, []⟩] false)
  .ret))
def a28 : AFunc := ⟨15, c28, [.tmp 6], 1⟩

/-- blindstamp/blindstamplaw25.sends -/
def c29 : ACode :=
  (.seq (.region [⟨some 3, .box 39 (.tmp 0), none, [1]⟩,
    ⟨some 6, .alloc 39 (.agg #[(.int .i64 0), (.int .i64 0), (.slice none 0 0), (.int .i64 0), (.int .i64 0), (.bool false), (.int .i64 0), (.int .i64 0), (.slice none 0 0), (.int .i64 0), (.int .i64 0), (.bool false), (.slice none 0 0), (.slice none 0 0), (.slice none 0 0), (.slice none 0 0), (.bool false)]), none, [0]⟩] false)
  (.seq (.region [⟨some 11, .fad 0 (.tmp 3), none, [2]⟩,
    ⟨some 12, .load 6 true (.tmp 11), none, [2]⟩,
    ⟨some 7, .alloc 24 (.agg #[(.int .i64 0), (.int .i64 0), (.slice none 0 0), (.int .i64 0), (.int .i64 0), (.bool false)]), none, [0, 1]⟩,
    ⟨none, .store 6 (.tmp 7) (.tmp 12), none, []⟩] false)
  (.seq (.seq (.region [⟨some 13, .mov (.tmp 1), none, []⟩] false)
  (.cond (.tmp 13)
    (.region [⟨some 14, .fad 6 (.tmp 3), none, []⟩,
      ⟨some 15, .load 6 true (.tmp 14), none, []⟩,
      ⟨none, .store 6 (.tmp 7) (.tmp 15), none, []⟩] false)
    .skip))
  (.seq (.region [⟨some 17, .load 6 true (.tmp 7), none, [6]⟩,
    ⟨some 18, .call (.func 24) [(.tmp 17)], none, [6]⟩,
    ⟨some 16, .mov (.tmp 18), none, [6]⟩,
    ⟨some 19, .ext (.tmp 16) 0, none, [4, 5, 6]⟩,
    ⟨some 20, .ext (.tmp 16) 1, none, [3, 5, 6, 7]⟩,
    ⟨some 21, .ext (.tmp 16) 2, none, [3, 4, 6, 7, 8]⟩,
    ⟨some 8, .alloc 24 (.agg #[(.int .i64 0), (.int .i64 0), (.slice none 0 0), (.int .i64 0), (.int .i64 0), (.bool false)]), none, [0, 1, 2, 3, 4, 5]⟩,
    ⟨none, .store 6 (.tmp 8) (.tmp 19), none, [4, 5]⟩,
    ⟨some 9, .mov (.tmp 20), none, [5]⟩,
    ⟨some 10, .mov (.tmp 21), none, []⟩] false)
  (.seq (.seq (.region [⟨some 22, .mov (.tmp 2), none, []⟩] false)
  (.cond (.tmp 22)
    (.region [⟨some 24, .load 6 true (.tmp 7), none, []⟩,
      ⟨some 25, .call (.func 45) [(.tmp 24)], none, []⟩,
      ⟨some 23, .mov (.tmp 25), none, []⟩,
      ⟨some 26, .ext (.tmp 23) 0, none, [4, 5]⟩,
      ⟨some 27, .ext (.tmp 23) 1, none, [3, 5, 6]⟩,
      ⟨some 28, .ext (.tmp 23) 2, none, [3, 4, 6, 7]⟩,
      ⟨none, .store 6 (.tmp 8) (.tmp 26), none, [4, 5]⟩,
      ⟨some 9, .mov (.tmp 27), none, [5]⟩,
      ⟨some 10, .mov (.tmp 28), none, []⟩] false)
    .skip))
  (.seq (.region [⟨some 29, .fad 16 (.tmp 3), none, []⟩,
    ⟨some 30, .load 1 false (.tmp 29), none, []⟩,
    ⟨some 31, .mov (.tmp 30), none, []⟩,
    ⟨some 32, .mov (.tmp 10), some (31, true), []⟩,
    ⟨some 33, .pur (mkO (.binOp .eql 28 (.tmp 32) (.const (.int .i64 0)) 28) 4), some (31, true), []⟩,
    ⟨some 34, .pick (.tmp 31) (.tmp 33) (.const (.bool false)), none, []⟩,
    ⟨some 35, .fad 16 (.tmp 3), none, []⟩,
    ⟨none, .store 1 (.tmp 35) (.tmp 34), none, []⟩] false)
  (.seq (.seq (.region [⟨some 36, .mov (.tmp 1), none, []⟩] false)
  (.cond (.tmp 36)
    (.seq (.region [⟨some 37, .load 6 true (.tmp 8), none, []⟩,
      ⟨some 38, .fad 6 (.tmp 3), none, []⟩,
      ⟨none, .store 6 (.tmp 38) (.tmp 37), none, []⟩] false)
    (.seq (.region [⟨some 39, .fad 13 (.tmp 3), none, [3]⟩,
      ⟨some 40, .load 1 false (.tmp 39), none, [3]⟩,
      ⟨some 41, .app 47 4 48 (.agg #[(.int .i64 0), (.int .i64 0), (.int .i64 0), (.slice none 0 0)]) (.const (.slice none 0 0)) (.tmp 40), none, [3]⟩,
      ⟨some 42, .mov (.tmp 9), none, [0, 1, 2]⟩,
      ⟨some 43, .app 47 4 48 (.agg #[(.int .i64 0), (.int .i64 0), (.int .i64 0), (.slice none 0 0)]) (.tmp 41) (.tmp 42), none, []⟩,
      ⟨some 44, .fad 13 (.tmp 3), none, []⟩,
      ⟨none, .store 1 (.tmp 44) (.tmp 43), none, []⟩] false)
    (.seq (.region [⟨some 45, .load 17 true (.tmp 3), none, []⟩,
      ⟨none, .store 17 (.tmp 6) (.tmp 45), none, []⟩] false)
    .ret)))
    .skip))
  (.seq (.region [⟨some 46, .load 6 true (.tmp 8), none, []⟩,
    ⟨some 47, .fad 0 (.tmp 3), none, []⟩,
    ⟨none, .store 6 (.tmp 47) (.tmp 46), none, []⟩] false)
  (.seq (.region [⟨some 48, .fad 12 (.tmp 3), none, [3]⟩,
    ⟨some 49, .load 1 false (.tmp 48), none, [3]⟩,
    ⟨some 50, .app 47 4 48 (.agg #[(.int .i64 0), (.int .i64 0), (.int .i64 0), (.slice none 0 0)]) (.const (.slice none 0 0)) (.tmp 49), none, [3]⟩,
    ⟨some 51, .mov (.tmp 9), none, [0, 1, 2]⟩,
    ⟨some 52, .app 47 4 48 (.agg #[(.int .i64 0), (.int .i64 0), (.int .i64 0), (.slice none 0 0)]) (.tmp 50) (.tmp 51), none, []⟩,
    ⟨some 53, .fad 12 (.tmp 3), none, []⟩,
    ⟨none, .store 1 (.tmp 53) (.tmp 52), none, []⟩] false)
  (.seq (.region [⟨some 54, .load 17 true (.tmp 3), none, []⟩,
    ⟨none, .store 17 (.tmp 6) (.tmp 54), none, []⟩] false)
  .ret))))))))))
def a29 : AFunc := ⟨55, c29, [.cell 6 17 true], 1⟩

/-- blindstamp/blindstamplaw25.comes -/
def c30 : ACode :=
  (.seq (.region [⟨some 4, .box 39 (.tmp 0), none, [1]⟩,
    ⟨some 8, .alloc 39 (.agg #[(.int .i64 0), (.int .i64 0), (.slice none 0 0), (.int .i64 0), (.int .i64 0), (.bool false), (.int .i64 0), (.int .i64 0), (.slice none 0 0), (.int .i64 0), (.int .i64 0), (.bool false), (.slice none 0 0), (.slice none 0 0), (.slice none 0 0), (.slice none 0 0), (.bool false)]), none, [0]⟩] false)
  (.seq (.region [⟨some 19, .fad 12 (.tmp 4), none, []⟩,
    ⟨some 20, .load 1 false (.tmp 19), none, []⟩,
    ⟨some 9, .mov (.tmp 20), none, []⟩] false)
  (.seq (.seq (.region [⟨some 21, .mov (.tmp 2), none, []⟩] false)
  (.cond (.tmp 21)
    (.region [⟨some 22, .fad 13 (.tmp 4), none, []⟩,
      ⟨some 23, .load 1 false (.tmp 22), none, []⟩,
      ⟨some 9, .mov (.tmp 23), none, []⟩] false)
    .skip))
  (.seq (.seq (.region [⟨some 24, .mov (.tmp 1), none, []⟩,
    ⟨some 25, .pur (mkO (.binOp .lss 3 (.tmp 24) (.const (.int .i64 0)) 3) 4), none, []⟩,
    ⟨some 26, .mov (.tmp 25), none, []⟩,
    ⟨some 27, .mov (.tmp 1), some (26, false), [4, 5]⟩,
    ⟨some 28, .mov (.tmp 9), some (26, false), [3]⟩,
    ⟨some 29, .len (.tmp 28), some (26, false), [3]⟩,
    ⟨some 30, .pur (mkO (.binOp .geq 3 (.tmp 27) (.tmp 29) 3) 4), some (26, false), []⟩,
    ⟨some 31, .pick (.tmp 26) (.const (.bool true)) (.tmp 30), none, []⟩] false)
  (.cond (.tmp 31)
    (.seq (.region [⟨some 32, .load 17 true (.tmp 4), none, []⟩,
      ⟨none, .store 17 (.tmp 8) (.tmp 32), none, []⟩] false)
    .ret)
    .skip))
  (.seq (.region [⟨some 33, .mov (.tmp 9), none, [1, 4]⟩,
    ⟨some 34, .mov (.tmp 1), none, [0, 4]⟩,
    ⟨some 35, .iad 4 (.tmp 33) (.tmp 34), none, [4]⟩,
    ⟨some 36, .load 4 true (.tmp 35), none, [4]⟩,
    ⟨some 10, .alloc 47 (.agg #[(.int .i64 0), (.int .i64 0), (.int .i64 0), (.slice none 0 0)]), none, [0, 1, 2, 3]⟩,
    ⟨none, .store 4 (.tmp 10) (.tmp 36), none, []⟩] false)
  (.seq (.seq (.region [⟨some 37, .mov (.tmp 3), none, []⟩,
    ⟨some 38, .pur (mkO (.unOp .not 4 (.tmp 37)) 4), none, []⟩] false)
  (.cond (.tmp 38)
    (.region [⟨some 39, .mov (.tmp 9), none, [1, 4, 5, 6, 7]⟩,
      ⟨some 40, .mov (.tmp 1), none, [0, 4, 5, 6, 7]⟩,
      ⟨some 41, .slc 4 (.tmp 39) none (some (.tmp 40)) none, none, [4, 5, 6, 7]⟩,
      ⟨some 42, .app 47 4 48 (.agg #[(.int .i64 0), (.int .i64 0), (.int .i64 0), (.slice none 0 0)]) (.const (.slice none 0 0)) (.tmp 41), none, [4, 5, 6, 7]⟩,
      ⟨some 43, .mov (.tmp 9), none, [0, 1, 2, 3, 5, 6]⟩,
      ⟨some 44, .mov (.tmp 1), none, [0, 1, 2, 3, 4]⟩,
      ⟨some 45, .pur (mkO (.binOp .add 3 (.tmp 44) (.const (.int .i64 1)) 3) 3), none, [0, 1, 2, 3, 4]⟩,
      ⟨some 46, .slc 4 (.tmp 43) (some (.tmp 45)) none none, none, [0, 1, 2, 3]⟩,
      ⟨some 47, .app 47 4 48 (.agg #[(.int .i64 0), (.int .i64 0), (.int .i64 0), (.slice none 0 0)]) (.tmp 42) (.tmp 46), none, []⟩,
      ⟨some 9, .mov (.tmp 47), none, []⟩] true)
    .skip))
  (.seq (.seq (.region [⟨some 48, .mov (.tmp 2), none, []⟩] false)
  (.cond (.tmp 48)
    (.seq (.region [⟨some 49, .mov (.tmp 9), none, []⟩,
      ⟨some 50, .fad 13 (.tmp 4), none, []⟩,
      ⟨none, .store 1 (.tmp 50) (.tmp 49), none, []⟩] false)
    (.seq (.region [⟨some 52, .fad 0 (.tmp 4), none, [2, 9]⟩,
      ⟨some 53, .load 6 true (.tmp 52), none, [2, 9]⟩,
      ⟨some 54, .load 4 true (.tmp 10), none, [0, 1, 9]⟩,
      ⟨some 55, .call (.func 25) [(.tmp 53), (.tmp 54)], none, [9]⟩,
      ⟨some 51, .mov (.tmp 55), none, [9]⟩,
      ⟨some 56, .ext (.tmp 51) 0, none, [6, 7, 8, 9]⟩,
      ⟨some 57, .ext (.tmp 51) 1, none, [5, 7, 8, 9, 10]⟩,
      ⟨some 58, .ext (.tmp 51) 2, none, [5, 6, 8, 9, 10, 11]⟩,
      ⟨some 59, .ext (.tmp 51) 3, none, [5, 6, 7, 9, 10, 11, 12]⟩,
      ⟨some 11, .alloc 24 (.agg #[(.int .i64 0), (.int .i64 0), (.slice none 0 0), (.int .i64 0), (.int .i64 0), (.bool false)]), none, [0, 1, 2, 3, 4, 5, 6, 7, 8]⟩,
      ⟨none, .store 6 (.tmp 11) (.tmp 56), none, [6, 7, 8]⟩,
      ⟨some 12, .mov (.tmp 57), none, [7, 8]⟩,
      ⟨some 13, .mov (.tmp 58), none, [8]⟩,
      ⟨some 14, .mov (.tmp 59), none, []⟩] false)
    (.seq (.region [⟨some 60, .load 6 true (.tmp 11), none, []⟩,
      ⟨some 61, .fad 0 (.tmp 4), none, []⟩,
      ⟨none, .store 6 (.tmp 61) (.tmp 60), none, []⟩] false)
    (.seq (.region [⟨some 62, .fad 16 (.tmp 4), none, []⟩,
      ⟨some 63, .load 1 false (.tmp 62), none, []⟩,
      ⟨some 64, .mov (.tmp 63), none, []⟩,
      ⟨some 65, .mov (.tmp 14), some (64, true), []⟩,
      ⟨some 66, .pur (mkO (.binOp .eql 28 (.tmp 65) (.const (.int .i64 0)) 28) 4), some (64, true), []⟩,
      ⟨some 67, .pick (.tmp 64) (.tmp 66) (.const (.bool false)), none, []⟩,
      ⟨some 68, .mov (.tmp 67), none, []⟩,
      ⟨some 69, .mov (.tmp 13), some (68, true), []⟩,
      ⟨some 70, .pur (mkO (.unOp .not 4 (.tmp 69)) 4), some (68, true), []⟩,
      ⟨some 71, .pick (.tmp 68) (.tmp 70) (.const (.bool false)), none, []⟩,
      ⟨some 72, .fad 16 (.tmp 4), none, []⟩,
      ⟨none, .store 1 (.tmp 72) (.tmp 71), none, []⟩] false)
    (.seq (.region [⟨some 73, .load 17 true (.tmp 4), none, []⟩,
      ⟨none, .store 17 (.tmp 8) (.tmp 73), none, []⟩] false)
    .ret)))))
    .skip))
  (.seq (.region [⟨some 74, .mov (.tmp 9), none, []⟩,
    ⟨some 75, .fad 12 (.tmp 4), none, []⟩,
    ⟨none, .store 1 (.tmp 75) (.tmp 74), none, []⟩] false)
  (.seq (.region [⟨some 77, .fad 6 (.tmp 4), none, [2, 9]⟩,
    ⟨some 78, .load 6 true (.tmp 77), none, [2, 9]⟩,
    ⟨some 79, .load 4 true (.tmp 10), none, [0, 1, 9]⟩,
    ⟨some 80, .call (.func 25) [(.tmp 78), (.tmp 79)], none, [9]⟩,
    ⟨some 76, .mov (.tmp 80), none, [9]⟩,
    ⟨some 81, .ext (.tmp 76) 0, none, [6, 7, 8, 9]⟩,
    ⟨some 82, .ext (.tmp 76) 1, none, [5, 7, 8, 9, 10]⟩,
    ⟨some 83, .ext (.tmp 76) 2, none, [5, 6, 8, 9, 10, 11]⟩,
    ⟨some 84, .ext (.tmp 76) 3, none, [5, 6, 7, 9, 10, 11, 12]⟩,
    ⟨some 15, .alloc 24 (.agg #[(.int .i64 0), (.int .i64 0), (.slice none 0 0), (.int .i64 0), (.int .i64 0), (.bool false)]), none, [0, 1, 2, 3, 4, 5, 6, 7, 8]⟩,
    ⟨none, .store 6 (.tmp 15) (.tmp 81), none, [6, 7, 8]⟩,
    ⟨some 16, .mov (.tmp 82), none, [7, 8]⟩,
    ⟨some 17, .mov (.tmp 83), none, [8]⟩,
    ⟨some 18, .mov (.tmp 84), none, []⟩] false)
  (.seq (.region [⟨some 85, .load 6 true (.tmp 15), none, []⟩,
    ⟨some 86, .fad 6 (.tmp 4), none, []⟩,
    ⟨none, .store 6 (.tmp 86) (.tmp 85), none, []⟩] false)
  (.seq (.region [⟨some 87, .fad 16 (.tmp 4), none, []⟩,
    ⟨some 88, .load 1 false (.tmp 87), none, []⟩,
    ⟨some 89, .mov (.tmp 88), none, []⟩,
    ⟨some 90, .mov (.tmp 18), some (89, true), []⟩,
    ⟨some 91, .pur (mkO (.binOp .eql 28 (.tmp 90) (.const (.int .i64 0)) 28) 4), some (89, true), []⟩,
    ⟨some 92, .pick (.tmp 89) (.tmp 91) (.const (.bool false)), none, []⟩,
    ⟨some 93, .mov (.tmp 92), none, []⟩,
    ⟨some 94, .mov (.tmp 17), some (93, true), []⟩,
    ⟨some 95, .pur (mkO (.unOp .not 4 (.tmp 94)) 4), some (93, true), []⟩,
    ⟨some 96, .mov (.tmp 95), some (93, true), []⟩,
    ⟨some 97, .mov (.tmp 16), some (96, false), []⟩,
    ⟨some 98, .len (.tmp 97), some (96, false), []⟩,
    ⟨some 99, .pur (mkO (.binOp .eql 3 (.tmp 98) (.const (.int .i64 1)) 3) 4), some (96, false), []⟩,
    ⟨some 100, .pick (.tmp 96) (.const (.bool true)) (.tmp 99), some (93, true), []⟩,
    ⟨some 101, .pick (.tmp 93) (.tmp 100) (.const (.bool false)), none, []⟩,
    ⟨some 102, .fad 16 (.tmp 4), none, []⟩,
    ⟨none, .store 1 (.tmp 102) (.tmp 101), none, []⟩] false)
  (.seq (.seq (.region [⟨some 103, .mov (.tmp 17), none, []⟩,
    ⟨some 104, .mov (.tmp 103), none, []⟩,
    ⟨some 105, .fad 16 (.tmp 4), some (104, true), []⟩,
    ⟨some 106, .load 1 false (.tmp 105), some (104, true), []⟩,
    ⟨some 107, .pick (.tmp 104) (.tmp 106) (.const (.bool false)), none, []⟩] false)
  (.cond (.tmp 107)
    (.region [⟨some 108, .fad 15 (.tmp 4), none, [3, 4, 5, 6]⟩,
      ⟨some 109, .load 1 false (.tmp 108), none, [3, 4, 5, 6]⟩,
      ⟨some 110, .app 5 1 1 (.int .u8 0) (.const (.slice none 0 0)) (.tmp 109), none, [3, 4, 5, 6]⟩,
      ⟨some 111, .mov (.tmp 16), none, [0, 1, 2]⟩,
      ⟨some 112, .iad 1 (.tmp 111) (.const (.int .i64 0)), none, [0, 1, 2]⟩,
      ⟨some 113, .load 1 false (.tmp 112), none, [0, 1, 2]⟩,
      ⟨some 114, .bsl 5 1 (.int .u8 0) 1 [(0, 1, (.tmp 113))], none, [0, 1, 2]⟩,
      ⟨some 115, .app 5 1 1 (.int .u8 0) (.tmp 110) (.tmp 114), none, []⟩,
      ⟨some 116, .fad 15 (.tmp 4), none, []⟩,
      ⟨none, .store 1 (.tmp 116) (.tmp 115), none, []⟩] true)
    .skip))
  (.seq (.region [⟨some 117, .load 17 true (.tmp 4), none, []⟩,
    ⟨none, .store 17 (.tmp 8) (.tmp 117), none, []⟩] false)
  .ret)))))))))))))
def a30 : AFunc := ⟨118, c30, [.cell 8 17 true], 1⟩

/-- blindstamp/blindstamplaw25.lost -/
def c31 : ACode :=
  (.seq (.region [⟨some 3, .box 39 (.tmp 0), none, [1]⟩,
    ⟨some 6, .alloc 39 (.agg #[(.int .i64 0), (.int .i64 0), (.slice none 0 0), (.int .i64 0), (.int .i64 0), (.bool false), (.int .i64 0), (.int .i64 0), (.slice none 0 0), (.int .i64 0), (.int .i64 0), (.bool false), (.slice none 0 0), (.slice none 0 0), (.slice none 0 0), (.slice none 0 0), (.bool false)]), none, [0]⟩] false)
  (.seq (.region [⟨some 8, .fad 12 (.tmp 3), none, []⟩,
    ⟨some 9, .load 1 false (.tmp 8), none, []⟩,
    ⟨some 7, .mov (.tmp 9), none, []⟩] false)
  (.seq (.seq (.region [⟨some 10, .mov (.tmp 2), none, []⟩] false)
  (.cond (.tmp 10)
    (.region [⟨some 11, .fad 13 (.tmp 3), none, []⟩,
      ⟨some 12, .load 1 false (.tmp 11), none, []⟩,
      ⟨some 7, .mov (.tmp 12), none, []⟩] false)
    .skip))
  (.seq (.seq (.region [⟨some 13, .mov (.tmp 1), none, []⟩,
    ⟨some 14, .pur (mkO (.binOp .lss 3 (.tmp 13) (.const (.int .i64 0)) 3) 4), none, []⟩,
    ⟨some 15, .mov (.tmp 14), none, []⟩,
    ⟨some 16, .mov (.tmp 1), some (15, false), [4, 5]⟩,
    ⟨some 17, .mov (.tmp 7), some (15, false), [3]⟩,
    ⟨some 18, .len (.tmp 17), some (15, false), [3]⟩,
    ⟨some 19, .pur (mkO (.binOp .geq 3 (.tmp 16) (.tmp 18) 3) 4), some (15, false), []⟩,
    ⟨some 20, .pick (.tmp 15) (.const (.bool true)) (.tmp 19), none, []⟩] false)
  (.cond (.tmp 20)
    (.seq (.region [⟨some 21, .load 17 true (.tmp 3), none, []⟩,
      ⟨none, .store 17 (.tmp 6) (.tmp 21), none, []⟩] false)
    .ret)
    .skip))
  (.seq (.region [⟨some 22, .mov (.tmp 7), none, [1, 4, 5, 6, 7]⟩,
    ⟨some 23, .mov (.tmp 1), none, [0, 4, 5, 6, 7]⟩,
    ⟨some 24, .slc 4 (.tmp 22) none (some (.tmp 23)) none, none, [4, 5, 6, 7]⟩,
    ⟨some 25, .app 47 4 48 (.agg #[(.int .i64 0), (.int .i64 0), (.int .i64 0), (.slice none 0 0)]) (.const (.slice none 0 0)) (.tmp 24), none, [4, 5, 6, 7]⟩,
    ⟨some 26, .mov (.tmp 7), none, [0, 1, 2, 3, 5, 6]⟩,
    ⟨some 27, .mov (.tmp 1), none, [0, 1, 2, 3, 4]⟩,
    ⟨some 28, .pur (mkO (.binOp .add 3 (.tmp 27) (.const (.int .i64 1)) 3) 3), none, [0, 1, 2, 3, 4]⟩,
    ⟨some 29, .slc 4 (.tmp 26) (some (.tmp 28)) none none, none, [0, 1, 2, 3]⟩,
    ⟨some 30, .app 47 4 48 (.agg #[(.int .i64 0), (.int .i64 0), (.int .i64 0), (.slice none 0 0)]) (.tmp 25) (.tmp 29), none, []⟩,
    ⟨some 7, .mov (.tmp 30), none, []⟩] true)
  (.seq (.seq (.region [⟨some 31, .mov (.tmp 2), none, []⟩] false)
  (.cond (.tmp 31)
    (.region [⟨some 32, .mov (.tmp 7), none, []⟩,
      ⟨some 33, .fad 13 (.tmp 3), none, []⟩,
      ⟨none, .store 1 (.tmp 33) (.tmp 32), none, []⟩] false)
    (.region [⟨some 34, .mov (.tmp 7), none, []⟩,
      ⟨some 35, .fad 12 (.tmp 3), none, []⟩,
      ⟨none, .store 1 (.tmp 35) (.tmp 34), none, []⟩] false)))
  (.seq (.region [⟨some 36, .load 17 true (.tmp 3), none, []⟩,
    ⟨none, .store 17 (.tmp 6) (.tmp 36), none, []⟩] false)
  .ret)))))))
def a31 : AFunc := ⟨37, c31, [.cell 6 17 true], 1⟩

/-- blindstamp/frame.Seal -/
def c32 : ACode :=
  (.seq (.region [⟨some 2, .mov (.const (.slice none 0 0)), none, []⟩,
    ⟨some 3, .mov (.const (.int .i64 0)), none, []⟩] false)
  (.seq (.region [⟨some 10, .mov (.tmp 0), none, []⟩,
    ⟨some 11, .len (.tmp 10), none, []⟩,
    ⟨some 12, .call (.func 46) [(.tmp 11)], none, []⟩,
    ⟨some 9, .mov (.tmp 12), none, []⟩,
    ⟨some 13, .ext (.tmp 9) 0, none, [5]⟩,
    ⟨some 14, .ext (.tmp 9) 1, none, [4, 6]⟩,
    ⟨some 4, .mov (.tmp 13), none, [5]⟩,
    ⟨some 5, .mov (.tmp 14), none, []⟩] false)
  (.seq (.seq (.region [⟨some 15, .mov (.tmp 5), none, []⟩,
    ⟨some 16, .pur (mkO (.binOp .neq 28 (.tmp 15) (.const (.int .i64 0)) 28) 4), none, []⟩] false)
  (.cond (.tmp 16)
    (.seq (.region [⟨some 17, .mov (.tmp 5), none, [1]⟩,
      ⟨some 2, .mov (.const (.slice none 0 0)), none, [0]⟩,
      ⟨some 3, .mov (.tmp 17), none, []⟩] false)
    .ret)
    .skip))
  (.seq (.region [⟨some 19, .mov (.tmp 0), none, []⟩,
    ⟨some 20, .len (.tmp 19), none, []⟩,
    ⟨some 21, .call (.func 47) [(.tmp 20)], none, []⟩,
    ⟨some 18, .mov (.tmp 21), none, []⟩,
    ⟨some 22, .ext (.tmp 18) 0, none, [5]⟩,
    ⟨some 23, .ext (.tmp 18) 1, none, [4, 6]⟩,
    ⟨some 6, .mov (.tmp 22), none, [5]⟩,
    ⟨some 5, .mov (.tmp 23), none, []⟩] false)
  (.seq (.region [⟨some 24, .bsl 5 1 (.int .u8 0) 1 [(0, 1, (.const (.int .u8 181)))], none, [1]⟩,
    ⟨some 25, .mov (.tmp 6), none, [0]⟩,
    ⟨some 26, .app 5 1 1 (.int .u8 0) (.tmp 24) (.tmp 25), none, []⟩,
    ⟨some 7, .mov (.tmp 26), none, []⟩] false)
  (.seq (.region [⟨some 27, .mov (.tmp 7), none, []⟩,
    ⟨some 28, .len (.tmp 27), none, []⟩,
    ⟨some 8, .mov (.tmp 28), none, []⟩] false)
  (.seq (.region [⟨some 29, .mov (.tmp 7), none, [1, 2, 3, 4]⟩,
    ⟨some 30, .mov (.tmp 4), none, [0, 3]⟩,
    ⟨some 31, .pur (mkO (.binOp .sub 3 (.tmp 30) (.const (.int .i64 3)) 3) 3), none, [0, 3]⟩,
    ⟨some 32, .mov (.tmp 8), none, [0, 1, 2]⟩,
    ⟨some 33, .pur (mkO (.binOp .sub 3 (.tmp 31) (.tmp 32) 3) 3), none, [0]⟩,
    ⟨some 34, .appz 5 1 1 (.int .u8 0) (.tmp 29) (.tmp 33), none, []⟩,
    ⟨some 7, .mov (.tmp 34), none, []⟩] false)
  (.seq (.region [⟨some 35, .mov (.tmp 7), none, [1, 3]⟩,
    ⟨some 36, .mov (.tmp 8), none, [0, 3]⟩,
    ⟨some 37, .slc 1 (.tmp 35) (some (.tmp 36)) none none, none, [3]⟩,
    ⟨some 38, .mov (.tmp 0), none, [0, 1, 2]⟩,
    ⟨some 39, .cpy 1 (.tmp 37) (.tmp 38), none, []⟩] false)
  (.seq (.region [⟨some 40, .mov (.tmp 7), none, [1, 2, 3, 5]⟩,
    ⟨some 41, .mov (.tmp 7), none, [0, 5]⟩,
    ⟨some 42, .call (.func 49) [(.tmp 41)], none, [0, 5]⟩,
    ⟨some 43, .call (.func 48) [(.tmp 42)], none, [0, 5]⟩,
    ⟨some 44, .app 5 1 1 (.int .u8 0) (.tmp 40) (.tmp 43), none, [5]⟩,
    ⟨some 45, .mov (.tmp 5), none, [0, 1, 2, 3, 4, 6]⟩,
    ⟨some 2, .mov (.tmp 44), none, [5]⟩,
    ⟨some 3, .mov (.tmp 45), none, []⟩] false)
  .ret)))))))))
def a32 : AFunc := ⟨46, c32, [.tmp 2, .tmp 3], 1⟩

/-- blindstamp/link.written -/
def c33 : ACode :=
  (.seq (.region [⟨some 2, .mov (.const (.slice none 0 0)), none, []⟩] false)
  (.seq (.seq (.region [⟨some 6, .mov (.tmp 0), none, [2]⟩,
    ⟨some 7, .len (.tmp 6), none, [2]⟩,
    ⟨some 8, .mov (.const (.int .i64 0)), none, [0, 1]⟩] false)
  (.block 0 (.loop (.seq (.region [⟨some 9, .pur (mkO (.binOp .lss 3 (.tmp 8) (.tmp 7) 3) 0), none, []⟩] false)
      (.seq (.cond (.tmp 9)
        .skip
        (.exit 0))
      (.seq (.block 1 (.seq (.region [⟨some 10, .iad 2 (.tmp 6) (.tmp 8), none, [2]⟩,
          ⟨some 11, .load 2 true (.tmp 10), none, [2]⟩,
          ⟨some 4, .alloc 80 (.agg #[(.int .i64 0), (.int .i64 0)]), none, [0, 1]⟩,
          ⟨none, .store 2 (.tmp 4) (.tmp 11), none, []⟩] false)
        (.seq (.region [⟨some 12, .fad 1 (.tmp 4), none, []⟩,
          ⟨some 13, .load 1 false (.tmp 12), none, []⟩,
          ⟨some 14, .pur (mkO (.binOp .sub 3 (.tmp 13) (.const (.int .i64 1)) 3) 3), none, []⟩,
          ⟨some 5, .mov (.tmp 14), none, []⟩] false)
        (.block 2 (.loop (.seq (.seq (.region [⟨some 15, .mov (.tmp 5), none, []⟩,
              ⟨some 16, .pur (mkO (.binOp .geq 3 (.tmp 15) (.const (.int .i64 0)) 3) 4), none, []⟩] false)
            (.cond (.tmp 16)
              .skip
              (.exit 2)))
            (.seq (.block 3 (.region [⟨some 19, .mov (.tmp 2), none, [1, 2, 3, 4, 5, 6, 7]⟩,
                ⟨some 20, .fad 0 (.tmp 4), none, [0, 3, 4]⟩,
                ⟨some 21, .load 1 false (.tmp 20), none, [0, 3, 4]⟩,
                ⟨some 22, .mov (.tmp 5), none, [0, 1, 2]⟩,
                ⟨some 23, .pur (mkO (.binOp .mul 3 (.const (.int .i64 8)) (.tmp 22) 3) 3), none, [0, 1, 2]⟩,
                ⟨some 24, .pur (mkO (.binOp .shr 3 (.tmp 21) (.tmp 23) 3) 3), none, [0]⟩,
                ⟨some 25, .pur (mkO (.convert 3 5 (.tmp 24)) 5), none, [0]⟩,
                ⟨some 26, .bsl 5 1 (.int .u8 0) 1 [(0, 1, (.tmp 25))], none, [0]⟩,
                ⟨some 27, .app 5 1 1 (.int .u8 0) (.tmp 19) (.tmp 26), none, []⟩,
                ⟨some 2, .mov (.tmp 27), none, []⟩] false))
            (.region [⟨some 17, .mov (.tmp 5), none, []⟩,
              ⟨some 18, .pur (mkO (.binOp .sub 3 (.tmp 17) (.const (.int .i64 1)) 3) 3), none, []⟩,
              ⟨some 5, .mov (.tmp 18), none, []⟩] false))))))))
      (.region [⟨some 28, .pur (mkO (.binOp .add 3 (.tmp 8) (.const (.int .i64 1)) 3) 3), none, []⟩,
        ⟨some 8, .mov (.tmp 28), none, []⟩] false)))))))
  (.seq (.region [⟨some 29, .mov (.tmp 2), none, []⟩,
    ⟨some 2, .mov (.tmp 29), none, []⟩] false)
  .ret)))
def a33 : AFunc := ⟨30, c33, [.tmp 2], 0⟩

/-- blindstamp/blindstampref25.MayPacket -/
def c34 : ACode :=
  (.seq (.region [⟨some 1, .box 47 (.tmp 0), none, [1]⟩,
    ⟨some 2, .mov (.const (.bool false)), none, [0]⟩] false)
  (.seq (.region [⟨some 3, .fad 0 (.tmp 1), none, []⟩,
    ⟨some 4, .load 1 false (.tmp 3), none, []⟩,
    ⟨some 5, .call (.func 50) [(.tmp 4), (.const (.int .i64 0)), (.const (.int .i64 2147483648))], none, []⟩,
    ⟨some 6, .mov (.tmp 5), none, []⟩,
    ⟨some 7, .fad 1 (.tmp 1), some (6, true), []⟩,
    ⟨some 8, .load 1 false (.tmp 7), some (6, true), []⟩,
    ⟨some 9, .call (.func 50) [(.tmp 8), (.const (.int .i64 0)), (.const (.int .i64 16777216))], some (6, true), []⟩,
    ⟨some 10, .pick (.tmp 6) (.tmp 9) (.const (.bool false)), none, []⟩,
    ⟨some 11, .mov (.tmp 10), none, []⟩,
    ⟨some 12, .fad 2 (.tmp 1), some (11, true), []⟩,
    ⟨some 13, .load 1 false (.tmp 12), some (11, true), []⟩,
    ⟨some 14, .call (.func 50) [(.tmp 13), (.const (.int .i64 0)), (.const (.int .i64 16777216))], some (11, true), []⟩,
    ⟨some 15, .pick (.tmp 11) (.tmp 14) (.const (.bool false)), none, []⟩,
    ⟨some 16, .mov (.tmp 15), none, []⟩,
    ⟨some 17, .fad 3 (.tmp 1), some (16, true), []⟩,
    ⟨some 18, .load 1 false (.tmp 17), some (16, true), []⟩,
    ⟨some 19, .len (.tmp 18), some (16, true), []⟩,
    ⟨some 20, .pur (mkO (.binOp .leq 3 (.tmp 19) (.const (.int .i64 900)) 3) 4), some (16, true), []⟩,
    ⟨some 21, .pick (.tmp 16) (.tmp 20) (.const (.bool false)), none, []⟩,
    ⟨some 22, .mov (.tmp 21), none, []⟩,
    ⟨some 23, .fad 1 (.tmp 1), some (22, true), []⟩,
    ⟨some 24, .load 1 false (.tmp 23), some (22, true), []⟩,
    ⟨some 25, .pur (mkO (.binOp .gtr 3 (.tmp 24) (.const (.int .i64 0)) 3) 4), some (22, true), []⟩,
    ⟨some 26, .mov (.tmp 25), some (22, true), []⟩,
    ⟨some 27, .fad 3 (.tmp 1), some (26, false), []⟩,
    ⟨some 28, .load 1 false (.tmp 27), some (26, false), []⟩,
    ⟨some 29, .len (.tmp 28), some (26, false), []⟩,
    ⟨some 30, .pur (mkO (.binOp .eql 3 (.tmp 29) (.const (.int .i64 0)) 3) 4), some (26, false), []⟩,
    ⟨some 31, .pick (.tmp 26) (.const (.bool true)) (.tmp 30), some (22, true), []⟩,
    ⟨some 32, .pick (.tmp 22) (.tmp 31) (.const (.bool false)), none, []⟩,
    ⟨some 2, .mov (.tmp 32), none, []⟩] false)
  .ret))
def a34 : AFunc := ⟨33, c34, [.tmp 2], 1⟩

/-- blindstamp/blindstampref08.Framed -/
def c35 : ACode :=
  (.seq (.region [⟨some 2, .mov (.const (.slice none 0 0)), none, []⟩] false)
  (.seq (.region [⟨some 4, .bsl 5 1 (.int .u8 0) 1 [(0, 1, (.const (.int .u8 181)))], none, [1, 2, 3]⟩,
    ⟨some 5, .mov (.tmp 0), none, [0]⟩,
    ⟨some 6, .len (.tmp 5), none, [0]⟩,
    ⟨some 7, .call (.func 51) [(.tmp 6)], none, [0]⟩,
    ⟨some 8, .app 5 1 1 (.int .u8 0) (.tmp 4) (.tmp 7), none, []⟩,
    ⟨some 3, .mov (.tmp 8), none, []⟩] false)
  (.seq (.region [⟨some 9, .mov (.tmp 3), none, [1]⟩,
    ⟨some 10, .mov (.tmp 0), none, [0]⟩,
    ⟨some 11, .app 5 1 1 (.int .u8 0) (.tmp 9) (.tmp 10), none, []⟩,
    ⟨some 3, .mov (.tmp 11), none, []⟩] false)
  (.seq (.block 0 (.loop (.seq (.seq (.region [⟨some 12, .mov (.tmp 3), none, [2, 3, 4, 5]⟩,
        ⟨some 13, .len (.tmp 12), none, [2, 3, 4, 5]⟩,
        ⟨some 14, .mov (.tmp 0), none, [0, 1]⟩,
        ⟨some 15, .len (.tmp 14), none, [0, 1]⟩,
        ⟨some 16, .call (.func 52) [(.tmp 15)], none, [0, 1]⟩,
        ⟨some 17, .pur (mkO (.binOp .sub 3 (.tmp 16) (.const (.int .i64 3)) 3) 3), none, [0, 1]⟩,
        ⟨some 18, .pur (mkO (.binOp .lss 3 (.tmp 13) (.tmp 17) 3) 4), none, []⟩] false)
      (.cond (.tmp 18)
        .skip
        (.exit 0)))
      (.block 1 (.region [⟨some 19, .mov (.tmp 3), none, [1]⟩,
          ⟨some 20, .bsl 5 1 (.int .u8 0) 1 [(0, 1, (.const (.int .u8 0)))], none, [0]⟩,
          ⟨some 21, .app 5 1 1 (.int .u8 0) (.tmp 19) (.tmp 20), none, []⟩,
          ⟨some 3, .mov (.tmp 21), none, []⟩] false)))))
  (.seq (.region [⟨some 22, .mov (.tmp 3), none, [1, 2, 3]⟩,
    ⟨some 23, .mov (.tmp 3), none, [0]⟩,
    ⟨some 24, .call (.func 54) [(.tmp 23)], none, [0]⟩,
    ⟨some 25, .call (.func 53) [(.tmp 24)], none, [0]⟩,
    ⟨some 26, .app 5 1 1 (.int .u8 0) (.tmp 22) (.tmp 25), none, []⟩,
    ⟨some 2, .mov (.tmp 26), none, []⟩] false)
  .ret)))))
def a35 : AFunc := ⟨27, c35, [.tmp 2], 1⟩

/-- blindstamp/blindstampref25.Bytes -/
def c36 : ACode :=
  (.seq (.region [⟨some 1, .box 47 (.tmp 0), none, [1]⟩,
    ⟨some 2, .mov (.const (.slice none 0 0)), none, [0]⟩] false)
  (.seq (.region [⟨some 4, .fad 0 (.tmp 1), none, [4, 5, 6, 7, 8, 9, 10, 11, 12, 13, 14, 15, 16, 17]⟩,
    ⟨some 5, .load 1 false (.tmp 4), none, [4, 5, 6, 7, 8, 9, 10, 11, 12, 13, 14, 15, 16, 17]⟩,
    ⟨some 6, .pur (mkO (.binOp .quo 3 (.tmp 5) (.const (.int .i64 16777216)) 3) 3), none, [4, 5, 6, 7, 8, 9, 10, 11, 12, 13, 14, 15, 16, 17]⟩,
    ⟨some 7, .pur (mkO (.convert 3 5 (.tmp 6)) 5), none, [4, 5, 6, 7, 8, 9, 10, 11, 12, 13, 14, 15, 16, 17]⟩,
    ⟨some 8, .fad 0 (.tmp 1), none, [0, 1, 2, 3, 9, 10, 11, 12, 13, 14, 15, 16, 17]⟩,
    ⟨some 9, .load 1 false (.tmp 8), none, [0, 1, 2, 3, 9, 10, 11, 12, 13, 14, 15, 16, 17]⟩,
    ⟨some 10, .pur (mkO (.binOp .quo 3 (.tmp 9) (.const (.int .i64 65536)) 3) 3), none, [0, 1, 2, 3, 9, 10, 11, 12, 13, 14, 15, 16, 17]⟩,
    ⟨some 11, .pur (mkO (.binOp .rem 3 (.tmp 10) (.const (.int .i64 256)) 3) 3), none, [0, 1, 2, 3, 9, 10, 11, 12, 13, 14, 15, 16, 17]⟩,
    ⟨some 12, .pur (mkO (.convert 3 5 (.tmp 11)) 5), none, [0, 1, 2, 3, 9, 10, 11, 12, 13, 14, 15, 16, 17]⟩,
    ⟨some 13, .fad 0 (.tmp 1), none, [0, 1, 2, 3, 4, 5, 6, 7, 8, 14, 15, 16, 17]⟩,
    ⟨some 14, .load 1 false (.tmp 13), none, [0, 1, 2, 3, 4, 5, 6, 7, 8, 14, 15, 16, 17]⟩,
    ⟨some 15, .pur (mkO (.binOp .quo 3 (.tmp 14) (.const (.int .i64 256)) 3) 3), none, [0, 1, 2, 3, 4, 5, 6, 7, 8, 14, 15, 16, 17]⟩,
    ⟨some 16, .pur (mkO (.binOp .rem 3 (.tmp 15) (.const (.int .i64 256)) 3) 3), none, [0, 1, 2, 3, 4, 5, 6, 7, 8, 14, 15, 16, 17]⟩,
    ⟨some 17, .pur (mkO (.convert 3 5 (.tmp 16)) 5), none, [0, 1, 2, 3, 4, 5, 6, 7, 8, 14, 15, 16, 17]⟩,
    ⟨some 18, .fad 0 (.tmp 1), none, [0, 1, 2, 3, 4, 5, 6, 7, 8, 9, 10, 11, 12, 13]⟩,
    ⟨some 19, .load 1 false (.tmp 18), none, [0, 1, 2, 3, 4, 5, 6, 7, 8, 9, 10, 11, 12, 13]⟩,
    ⟨some 20, .pur (mkO (.binOp .rem 3 (.tmp 19) (.const (.int .i64 256)) 3) 3), none, [0, 1, 2, 3, 4, 5, 6, 7, 8, 9, 10, 11, 12, 13]⟩,
    ⟨some 21, .pur (mkO (.convert 3 5 (.tmp 20)) 5), none, [0, 1, 2, 3, 4, 5, 6, 7, 8, 9, 10, 11, 12, 13]⟩,
    ⟨some 22, .bsl 5 1 (.int .u8 0) 4 [(0, 1, (.tmp 7)), (1, 1, (.tmp 12)), (2, 1, (.tmp 17)), (3, 1, (.tmp 21))], none, []⟩,
    ⟨some 3, .mov (.tmp 22), none, []⟩] false)
  (.seq (.region [⟨some 23, .mov (.tmp 3), none, [1, 2, 3, 4, 5, 6, 7, 8, 9, 10, 11, 12, 13, 14, 15, 16, 17, 18, 19, 20, 21, 22, 23, 24, 25, 26, 27]⟩,
    ⟨some 24, .fad 1 (.tmp 1), none, [0, 5, 6, 7, 8, 9, 10, 11, 12, 13, 14, 15, 16, 17, 18, 19, 20, 21, 22, 23, 24, 25, 26]⟩,
    ⟨some 25, .load 1 false (.tmp 24), none, [0, 5, 6, 7, 8, 9, 10, 11, 12, 13, 14, 15, 16, 17, 18, 19, 20, 21, 22, 23, 24, 25, 26]⟩,
    ⟨some 26, .pur (mkO (.binOp .quo 3 (.tmp 25) (.const (.int .i64 65536)) 3) 3), none, [0, 5, 6, 7, 8, 9, 10, 11, 12, 13, 14, 15, 16, 17, 18, 19, 20, 21, 22, 23, 24, 25, 26]⟩,
    ⟨some 27, .pur (mkO (.convert 3 5 (.tmp 26)) 5), none, [0, 5, 6, 7, 8, 9, 10, 11, 12, 13, 14, 15, 16, 17, 18, 19, 20, 21, 22, 23, 24, 25, 26]⟩,
    ⟨some 28, .fad 1 (.tmp 1), none, [0, 1, 2, 3, 4, 10, 11, 12, 13, 14, 15, 16, 17, 18, 19, 20, 21, 22, 23, 24, 25, 26]⟩,
    ⟨some 29, .load 1 false (.tmp 28), none, [0, 1, 2, 3, 4, 10, 11, 12, 13, 14, 15, 16, 17, 18, 19, 20, 21, 22, 23, 24, 25, 26]⟩,
    ⟨some 30, .pur (mkO (.binOp .quo 3 (.tmp 29) (.const (.int .i64 256)) 3) 3), none, [0, 1, 2, 3, 4, 10, 11, 12, 13, 14, 15, 16, 17, 18, 19, 20, 21, 22, 23, 24, 25, 26]⟩,
    ⟨some 31, .pur (mkO (.binOp .rem 3 (.tmp 30) (.const (.int .i64 256)) 3) 3), none, [0, 1, 2, 3, 4, 10, 11, 12, 13, 14, 15, 16, 17, 18, 19, 20, 21, 22, 23, 24, 25, 26]⟩,
    ⟨some 32, .pur (mkO (.convert 3 5 (.tmp 31)) 5), none, [0, 1, 2, 3, 4, 10, 11, 12, 13, 14, 15, 16, 17, 18, 19, 20, 21, 22, 23, 24, 25, 26]⟩,
    ⟨some 33, .fad 1 (.tmp 1), none, [0, 1, 2, 3, 4, 5, 6, 7, 8, 9, 14, 15, 16, 17, 18, 19, 20, 21, 22, 23, 24, 25, 26]⟩,
    ⟨some 34, .load 1 false (.tmp 33), none, [0, 1, 2, 3, 4, 5, 6, 7, 8, 9, 14, 15, 16, 17, 18, 19, 20, 21, 22, 23, 24, 25, 26]⟩,
    ⟨some 35, .pur (mkO (.binOp .rem 3 (.tmp 34) (.const (.int .i64 256)) 3) 3), none, [0, 1, 2, 3, 4, 5, 6, 7, 8, 9, 14, 15, 16, 17, 18, 19, 20, 21, 22, 23, 24, 25, 26]⟩,
    ⟨some 36, .pur (mkO (.convert 3 5 (.tmp 35)) 5), none, [0, 1, 2, 3, 4, 5, 6, 7, 8, 9, 14, 15, 16, 17, 18, 19, 20, 21, 22, 23, 24, 25, 26]⟩,
    ⟨some 37, .fad 2 (.tmp 1), none, [0, 1, 2, 3, 4, 5, 6, 7, 8, 9, 10, 11, 12, 13, 18, 19, 20, 21, 22, 23, 24, 25, 26]⟩,
    ⟨some 38, .load 1 false (.tmp 37), none, [0, 1, 2, 3, 4, 5, 6, 7, 8, 9, 10, 11, 12, 13, 18, 19, 20, 21, 22, 23, 24, 25, 26]⟩,
    ⟨some 39, .pur (mkO (.binOp .quo 3 (.tmp 38) (.const (.int .i64 65536)) 3) 3), none, [0, 1, 2, 3, 4, 5, 6, 7, 8, 9, 10, 11, 12, 13, 18, 19, 20, 21, 22, 23, 24, 25, 26]⟩,
    ⟨some 40, .pur (mkO (.convert 3 5 (.tmp 39)) 5), none, [0, 1, 2, 3, 4, 5, 6, 7, 8, 9, 10, 11, 12, 13, 18, 19, 20, 21, 22, 23, 24, 25, 26]⟩,
    ⟨some 41, .fad 2 (.tmp 1), none, [0, 1, 2, 3, 4, 5, 6, 7, 8, 9, 10, 11, 12, 13, 14, 15, 16, 17, 23, 24, 25, 26]⟩,
    ⟨some 42, .load 1 false (.tmp 41), none, [0, 1, 2, 3, 4, 5, 6, 7, 8, 9, 10, 11, 12, 13, 14, 15, 16, 17, 23, 24, 25, 26]⟩,
    ⟨some 43, .pur (mkO (.binOp .quo 3 (.tmp 42) (.const (.int .i64 256)) 3) 3), none, [0, 1, 2, 3, 4, 5, 6, 7, 8, 9, 10, 11, 12, 13, 14, 15, 16, 17, 23, 24, 25, 26]⟩,
    ⟨some 44, .pur (mkO (.binOp .rem 3 (.tmp 43) (.const (.int .i64 256)) 3) 3), none, [0, 1, 2, 3, 4, 5, 6, 7, 8, 9, 10, 11, 12, 13, 14, 15, 16, 17, 23, 24, 25, 26]⟩,
    ⟨some 45, .pur (mkO (.convert 3 5 (.tmp 44)) 5), none, [0, 1, 2, 3, 4, 5, 6, 7, 8, 9, 10, 11, 12, 13, 14, 15, 16, 17, 23, 24, 25, 26]⟩,
    ⟨some 46, .fad 2 (.tmp 1), none, [0, 1, 2, 3, 4, 5, 6, 7, 8, 9, 10, 11, 12, 13, 14, 15, 16, 17, 18, 19, 20, 21, 22]⟩,
    ⟨some 47, .load 1 false (.tmp 46), none, [0, 1, 2, 3, 4, 5, 6, 7, 8, 9, 10, 11, 12, 13, 14, 15, 16, 17, 18, 19, 20, 21, 22]⟩,
    ⟨some 48, .pur (mkO (.binOp .rem 3 (.tmp 47) (.const (.int .i64 256)) 3) 3), none, [0, 1, 2, 3, 4, 5, 6, 7, 8, 9, 10, 11, 12, 13, 14, 15, 16, 17, 18, 19, 20, 21, 22]⟩,
    ⟨some 49, .pur (mkO (.convert 3 5 (.tmp 48)) 5), none, [0, 1, 2, 3, 4, 5, 6, 7, 8, 9, 10, 11, 12, 13, 14, 15, 16, 17, 18, 19, 20, 21, 22]⟩,
    ⟨some 50, .bsl 5 1 (.int .u8 0) 6 [(0, 1, (.tmp 27)), (1, 1, (.tmp 32)), (2, 1, (.tmp 36)), (3, 1, (.tmp 40)), (4, 1, (.tmp 45)), (5, 1, (.tmp 49))], none, [0]⟩,
    ⟨some 51, .app 5 1 1 (.int .u8 0) (.tmp 23) (.tmp 50), none, []⟩,
    ⟨some 3, .mov (.tmp 51), none, []⟩] false)
  (.seq (.region [⟨some 52, .mov (.tmp 3), none, [1, 2]⟩,
    ⟨some 53, .fad 3 (.tmp 1), none, [0]⟩,
    ⟨some 54, .load 1 false (.tmp 53), none, [0]⟩,
    ⟨some 55, .app 5 1 1 (.int .u8 0) (.tmp 52) (.tmp 54), none, []⟩,
    ⟨some 2, .mov (.tmp 55), none, []⟩] false)
  .ret))))
def a36 : AFunc := ⟨56, c36, [.tmp 2], 1⟩

/-- blindstamp/frame.Open -/
def c37 : ACode :=
  (.seq (.region [⟨some 2, .mov (.const (.slice none 0 0)), none, []⟩,
    ⟨some 3, .mov (.const (.int .i64 0)), none, []⟩] false)
  (.seq (.seq (.region [⟨some 10, .mov (.tmp 0), none, []⟩,
    ⟨some 11, .len (.tmp 10), none, []⟩,
    ⟨some 12, .pur (mkO (.binOp .lss 3 (.tmp 11) (.const (.int .i64 4)) 3) 4), none, []⟩,
    ⟨some 13, .mov (.tmp 12), none, []⟩,
    ⟨some 14, .mov (.tmp 0), some (13, false), []⟩,
    ⟨some 15, .call (.func 55) [(.tmp 14)], some (13, false), []⟩,
    ⟨some 16, .pur (mkO (.unOp .not 4 (.tmp 15)) 4), some (13, false), []⟩,
    ⟨some 17, .pick (.tmp 13) (.const (.bool true)) (.tmp 16), none, []⟩] false)
  (.cond (.tmp 17)
    (.seq (.region [⟨some 2, .mov (.const (.slice none 0 0)), none, []⟩,
      ⟨some 3, .mov (.const (.int .i64 80)), none, []⟩] false)
    .ret)
    .skip))
  (.seq (.region [⟨some 19, .mov (.tmp 0), none, []⟩,
    ⟨some 20, .slc 1 (.tmp 19) (some (.const (.int .i64 1))) none none, none, []⟩,
    ⟨some 21, .call (.func 56) [(.tmp 20)], none, []⟩,
    ⟨some 18, .mov (.tmp 21), none, []⟩,
    ⟨some 22, .ext (.tmp 18) 0, none, [5, 6]⟩,
    ⟨some 23, .ext (.tmp 18) 1, none, [4, 6, 7]⟩,
    ⟨some 24, .ext (.tmp 18) 2, none, [4, 5, 7, 8]⟩,
    ⟨some 4, .mov (.tmp 22), none, [5, 6]⟩,
    ⟨some 5, .mov (.tmp 23), none, [6]⟩,
    ⟨some 6, .mov (.tmp 24), none, []⟩] false)
  (.seq (.seq (.region [⟨some 25, .mov (.tmp 6), none, []⟩,
    ⟨some 26, .pur (mkO (.binOp .neq 28 (.tmp 25) (.const (.int .i64 0)) 28) 4), none, []⟩,
    ⟨some 27, .mov (.tmp 26), none, []⟩,
    ⟨some 28, .mov (.tmp 4), some (27, false), [4, 5, 6, 7, 8, 9]⟩,
    ⟨some 29, .mov (.tmp 0), some (27, false), [3, 7]⟩,
    ⟨some 30, .len (.tmp 29), some (27, false), [3, 7]⟩,
    ⟨some 31, .pur (mkO (.binOp .sub 3 (.tmp 30) (.const (.int .i64 1)) 3) 3), some (27, false), [3, 7]⟩,
    ⟨some 32, .mov (.tmp 5), some (27, false), [3, 4, 5, 6]⟩,
    ⟨some 33, .pur (mkO (.binOp .sub 3 (.tmp 31) (.tmp 32) 3) 3), some (27, false), [3]⟩,
    ⟨some 34, .pur (mkO (.binOp .sub 3 (.tmp 33) (.const (.int .i64 3)) 3) 3), some (27, false), [3]⟩,
    ⟨some 35, .pur (mkO (.binOp .gtr 3 (.tmp 28) (.tmp 34) 3) 4), some (27, false), []⟩,
    ⟨some 36, .pick (.tmp 27) (.const (.bool true)) (.tmp 35), none, []⟩] false)
  (.cond (.tmp 36)
    (.seq (.region [⟨some 2, .mov (.const (.slice none 0 0)), none, []⟩,
      ⟨some 3, .mov (.const (.int .i64 80)), none, []⟩] false)
    .ret)
    .skip))
  (.seq (.region [⟨some 37, .mov (.tmp 0), none, [1, 2, 3, 4, 5, 6]⟩,
    ⟨some 38, .mov (.tmp 5), none, [0, 3, 4, 5, 6]⟩,
    ⟨some 39, .pur (mkO (.binOp .add 3 (.const (.int .i64 1)) (.tmp 38) 3) 3), none, [0, 3, 4, 5, 6]⟩,
    ⟨some 40, .mov (.tmp 5), none, [0, 1, 2, 5]⟩,
    ⟨some 41, .pur (mkO (.binOp .add 3 (.const (.int .i64 1)) (.tmp 40) 3) 3), none, [0, 1, 2, 5]⟩,
    ⟨some 42, .mov (.tmp 4), none, [0, 1, 2, 3, 4]⟩,
    ⟨some 43, .pur (mkO (.binOp .add 3 (.tmp 41) (.tmp 42) 3) 3), none, [0, 1, 2]⟩,
    ⟨some 44, .slc 1 (.tmp 37) (some (.tmp 39)) (some (.tmp 43)) none, none, []⟩,
    ⟨some 45, .call (.func 39) [(.tmp 44)], none, []⟩,
    ⟨some 7, .mov (.tmp 45), none, []⟩] false)
  (.seq (.seq (.region [⟨some 47, .mov (.tmp 7), none, []⟩,
    ⟨some 48, .call (.func 32) [(.tmp 47)], none, []⟩,
    ⟨some 46, .mov (.tmp 48), none, []⟩,
    ⟨some 49, .ext (.tmp 46) 0, none, [4]⟩,
    ⟨some 50, .ext (.tmp 46) 1, none, [3, 5]⟩,
    ⟨some 8, .mov (.tmp 49), none, [4]⟩,
    ⟨some 9, .mov (.tmp 50), none, []⟩] false)
  (.seq (.region [⟨some 51, .mov (.tmp 9), none, []⟩,
    ⟨some 52, .pur (mkO (.binOp .neq 28 (.tmp 51) (.const (.int .i64 0)) 28) 4), none, []⟩,
    ⟨some 53, .mov (.tmp 52), none, []⟩,
    ⟨some 54, .mov (.tmp 8), some (53, false), [4]⟩,
    ⟨some 55, .mov (.tmp 0), some (53, false), [3]⟩,
    ⟨some 56, .call (.func 57) [(.tmp 54), (.tmp 55)], some (53, false), []⟩,
    ⟨some 57, .pur (mkO (.unOp .not 4 (.tmp 56)) 4), some (53, false), []⟩,
    ⟨some 58, .pick (.tmp 53) (.const (.bool true)) (.tmp 57), none, []⟩] false)
  (.cond (.tmp 58)
    (.seq (.region [⟨some 2, .mov (.const (.slice none 0 0)), none, []⟩,
      ⟨some 3, .mov (.const (.int .i64 80)), none, []⟩] false)
    .ret)
    .skip)))
  (.seq (.region [⟨some 59, .mov (.tmp 7), none, []⟩,
    ⟨some 2, .mov (.tmp 59), none, []⟩,
    ⟨some 3, .mov (.const (.int .i64 0)), none, []⟩] false)
  .ret)))))))
def a37 : AFunc := ⟨60, c37, [.tmp 2, .tmp 3], 1⟩

/-- blindstamp/link.read -/
def c38 : ACode :=
  (.seq (.region [⟨some 2, .mov (.const (.int .i64 0)), none, []⟩] false)
  (.seq (.seq (.region [⟨some 5, .mov (.tmp 0), none, [2]⟩,
    ⟨some 6, .len (.tmp 5), none, [2]⟩,
    ⟨some 7, .mov (.const (.int .i64 0)), none, [0, 1]⟩] false)
  (.block 0 (.loop (.seq (.region [⟨some 8, .pur (mkO (.binOp .lss 3 (.tmp 7) (.tmp 6) 3) 0), none, []⟩] false)
      (.seq (.cond (.tmp 8)
        .skip
        (.exit 0))
      (.seq (.block 1 (.seq (.region [⟨some 9, .iad 1 (.tmp 5) (.tmp 7), none, []⟩,
          ⟨some 10, .load 1 false (.tmp 9), none, []⟩,
          ⟨some 4, .mov (.tmp 10), none, []⟩] false)
        (.region [⟨some 11, .mov (.tmp 2), none, [2, 3]⟩,
          ⟨some 12, .pur (mkO (.binOp .shl 3 (.tmp 11) (.const (.int .u64 8)) 102) 3), none, [2, 3]⟩,
          ⟨some 13, .mov (.tmp 4), none, [0, 1]⟩,
          ⟨some 14, .pur (mkO (.convert 5 3 (.tmp 13)) 3), none, [0, 1]⟩,
          ⟨some 15, .pur (mkO (.binOp .or 3 (.tmp 12) (.tmp 14) 3) 3), none, []⟩,
          ⟨some 2, .mov (.tmp 15), none, []⟩] false)))
      (.region [⟨some 16, .pur (mkO (.binOp .add 3 (.tmp 7) (.const (.int .i64 1)) 3) 3), none, []⟩,
        ⟨some 7, .mov (.tmp 16), none, []⟩] false)))))))
  (.seq (.region [⟨some 17, .mov (.tmp 2), none, []⟩,
    ⟨some 2, .mov (.tmp 17), none, []⟩] false)
  .ret)))
def a38 : AFunc := ⟨18, c38, [.tmp 2], 1⟩

/-- bytes.Clone -/
def c39 : ACode :=
  (.seq (.region [⟨some 2, .mov (.const (.slice none 0 0)), none, []⟩] false)
  (.seq (.seq (.region [⟨some 3, .mov (.tmp 0), none, []⟩,
    ⟨some 4, .eqnil false 1 (.tmp 3) (mkO (.binOp .eql 32 (.tmp 3) (.const (.slice none 0 0)) 32) 4), none, []⟩] false)
  (.cond (.tmp 4)
    (.seq (.region [⟨some 2, .mov (.const (.slice none 0 0)), none, []⟩] false)
    .ret)
    .skip))
  (.seq (.region [⟨some 5, .bsl 5 1 (.int .u8 0) 0 [], none, [1]⟩,
    ⟨some 6, .mov (.tmp 0), none, [0]⟩,
    ⟨some 7, .app 5 1 1 (.int .u8 0) (.tmp 5) (.tmp 6), none, []⟩,
    ⟨some 2, .mov (.tmp 7), none, []⟩] false)
  .ret)))
def a39 : AFunc := ⟨8, c39, [.tmp 2], 1⟩

/-- blindstamp/blindstampref08.Open -/
def c40 : ACode :=
  (.seq (.region [⟨some 2, .mov (.const (.slice none 0 0)), none, []⟩,
    ⟨some 3, .mov (.const (.int .i64 0)), none, []⟩] false)
  (.seq (.seq (.region [⟨some 8, .mov (.tmp 0), none, []⟩,
    ⟨some 9, .len (.tmp 8), none, []⟩,
    ⟨some 10, .pur (mkO (.binOp .neq 3 (.tmp 9) (.const (.int .i64 64)) 3) 4), none, []⟩,
    ⟨some 11, .mov (.tmp 10), none, []⟩,
    ⟨some 12, .mov (.tmp 0), some (11, true), []⟩,
    ⟨some 13, .len (.tmp 12), some (11, true), []⟩,
    ⟨some 14, .pur (mkO (.binOp .neq 3 (.tmp 13) (.const (.int .i64 256)) 3) 4), some (11, true), []⟩,
    ⟨some 15, .pick (.tmp 11) (.tmp 14) (.const (.bool false)), none, []⟩,
    ⟨some 16, .mov (.tmp 15), none, []⟩,
    ⟨some 17, .mov (.tmp 0), some (16, true), []⟩,
    ⟨some 18, .len (.tmp 17), some (16, true), []⟩,
    ⟨some 19, .pur (mkO (.binOp .neq 3 (.tmp 18) (.const (.int .i64 1024)) 3) 4), some (16, true), []⟩,
    ⟨some 20, .pick (.tmp 16) (.tmp 19) (.const (.bool false)), none, []⟩] false)
  (.cond (.tmp 20)
    (.seq (.region [⟨some 2, .mov (.const (.slice none 0 0)), none, []⟩,
      ⟨some 3, .mov (.const (.int .i64 80)), none, []⟩] false)
    .ret)
    .skip))
  (.seq (.region [⟨some 22, .mov (.tmp 0), none, []⟩,
    ⟨some 23, .slc 1 (.tmp 22) (some (.const (.int .i64 1))) none none, none, []⟩,
    ⟨some 24, .call (.func 58) [(.tmp 23)], none, []⟩,
    ⟨some 21, .mov (.tmp 24), none, []⟩,
    ⟨some 25, .ext (.tmp 21) 0, none, [5, 6]⟩,
    ⟨some 26, .ext (.tmp 21) 1, none, [4, 6, 7]⟩,
    ⟨some 27, .ext (.tmp 21) 2, none, [4, 5, 7, 8]⟩,
    ⟨some 4, .mov (.tmp 25), none, [5, 6]⟩,
    ⟨some 5, .mov (.tmp 26), none, [6]⟩,
    ⟨some 6, .mov (.tmp 27), none, []⟩] false)
  (.seq (.seq (.region [⟨some 28, .mov (.tmp 6), none, []⟩,
    ⟨some 29, .pur (mkO (.binOp .neq 3 (.tmp 28) (.const (.int .i64 0)) 3) 4), none, []⟩,
    ⟨some 30, .mov (.tmp 29), none, []⟩,
    ⟨some 31, .mov (.tmp 4), some (30, false), []⟩,
    ⟨some 32, .pur (mkO (.binOp .gtr 3 (.tmp 31) (.const (.int .i64 1000)) 3) 4), some (30, false), []⟩,
    ⟨some 33, .pick (.tmp 30) (.const (.bool true)) (.tmp 32), none, []⟩,
    ⟨some 34, .mov (.tmp 33), none, []⟩,
    ⟨some 35, .mov (.tmp 5), some (34, false), [9, 11, 12]⟩,
    ⟨some 36, .pur (mkO (.binOp .add 3 (.const (.int .i64 1)) (.tmp 35) 3) 3), some (34, false), [9, 11, 12]⟩,
    ⟨some 37, .mov (.tmp 4), some (34, false), [7, 8, 11, 12]⟩,
    ⟨some 38, .pur (mkO (.binOp .add 3 (.tmp 36) (.tmp 37) 3) 3), some (34, false), [11, 12]⟩,
    ⟨some 39, .mov (.tmp 0), some (34, false), [7, 8, 9, 10]⟩,
    ⟨some 40, .len (.tmp 39), some (34, false), [7, 8, 9, 10]⟩,
    ⟨some 41, .pur (mkO (.binOp .gtr 3 (.tmp 38) (.tmp 40) 3) 4), some (34, false), []⟩,
    ⟨some 42, .pick (.tmp 34) (.const (.bool true)) (.tmp 41), none, []⟩] false)
  (.cond (.tmp 42)
    (.seq (.region [⟨some 2, .mov (.const (.slice none 0 0)), none, []⟩,
      ⟨some 3, .mov (.const (.int .i64 80)), none, []⟩] false)
    .ret)
    .skip))
  (.seq (.region [⟨some 43, .mov (.tmp 0), none, [1, 2, 3, 4, 5, 6]⟩,
    ⟨some 44, .mov (.tmp 5), none, [0, 3, 4, 5, 6]⟩,
    ⟨some 45, .pur (mkO (.binOp .add 3 (.const (.int .i64 1)) (.tmp 44) 3) 3), none, [0, 3, 4, 5, 6]⟩,
    ⟨some 46, .mov (.tmp 5), none, [0, 1, 2, 5]⟩,
    ⟨some 47, .pur (mkO (.binOp .add 3 (.const (.int .i64 1)) (.tmp 46) 3) 3), none, [0, 1, 2, 5]⟩,
    ⟨some 48, .mov (.tmp 4), none, [0, 1, 2, 3, 4]⟩,
    ⟨some 49, .pur (mkO (.binOp .add 3 (.tmp 47) (.tmp 48) 3) 3), none, [0, 1, 2]⟩,
    ⟨some 50, .slc 1 (.tmp 43) (some (.tmp 45)) (some (.tmp 49)) none, none, []⟩,
    ⟨some 51, .app 5 1 1 (.int .u8 0) (.const (.slice none 0 0)) (.tmp 50), none, []⟩,
    ⟨some 7, .mov (.tmp 51), none, []⟩] false)
  (.seq (.seq (.region [⟨some 52, .mov (.tmp 7), none, [3, 4]⟩,
    ⟨some 53, .call (.func 35) [(.tmp 52)], none, [3, 4]⟩,
    ⟨some 54, .b2s (.tmp 53), none, [3, 4]⟩,
    ⟨some 55, .mov (.tmp 0), none, [0, 1, 2]⟩,
    ⟨some 56, .b2s (.tmp 55), none, [0, 1, 2]⟩,
    ⟨some 57, .pur (mkO (.binOp .neq 9 (.tmp 54) (.tmp 56) 9) 4), none, []⟩] true)
  (.cond (.tmp 57)
    (.seq (.region [⟨some 2, .mov (.const (.slice none 0 0)), none, []⟩,
      ⟨some 3, .mov (.const (.int .i64 80)), none, []⟩] false)
    .ret)
    .skip))
  (.seq (.region [⟨some 58, .mov (.tmp 7), none, []⟩,
    ⟨some 2, .mov (.tmp 58), none, []⟩,
    ⟨some 3, .mov (.const (.int .i64 0)), none, []⟩] false)
  .ret)))))))
def a40 : AFunc := ⟨59, c40, [.tmp 2, .tmp 3], 1⟩

/-- blindstamp/blindstampref25.number -/
def c41 : ACode :=
  (.seq (.region [⟨some 2, .mov (.const (.int .i64 0)), none, []⟩] false)
  (.seq (.region [⟨some 3, .mov (.const (.int .i64 0)), none, []⟩] false)
  (.seq (.seq (.region [⟨some 4, .mov (.const (.int .i64 0)), none, []⟩] false)
  (.block 0 (.loop (.seq (.seq (.region [⟨some 5, .mov (.tmp 4), none, [1, 2]⟩,
        ⟨some 6, .mov (.tmp 0), none, [0]⟩,
        ⟨some 7, .len (.tmp 6), none, [0]⟩,
        ⟨some 8, .pur (mkO (.binOp .lss 3 (.tmp 5) (.tmp 7) 3) 4), none, []⟩] false)
      (.cond (.tmp 8)
        .skip
        (.exit 0)))
      (.seq (.block 1 (.region [⟨some 11, .mov (.tmp 3), none, [2, 3, 4, 5, 6]⟩,
          ⟨some 12, .pur (mkO (.binOp .mul 3 (.const (.int .i64 256)) (.tmp 11) 3) 3), none, [2, 3, 4, 5, 6]⟩,
          ⟨some 13, .mov (.tmp 0), none, [0, 1, 3]⟩,
          ⟨some 14, .mov (.tmp 4), none, [0, 1, 2]⟩,
          ⟨some 15, .iad 1 (.tmp 13) (.tmp 14), none, [0, 1]⟩,
          ⟨some 16, .load 1 false (.tmp 15), none, [0, 1]⟩,
          ⟨some 17, .pur (mkO (.convert 5 3 (.tmp 16)) 3), none, [0, 1]⟩,
          ⟨some 18, .pur (mkO (.binOp .add 3 (.tmp 12) (.tmp 17) 3) 3), none, []⟩,
          ⟨some 3, .mov (.tmp 18), none, []⟩] false))
      (.region [⟨some 9, .mov (.tmp 4), none, []⟩,
        ⟨some 10, .pur (mkO (.binOp .add 3 (.tmp 9) (.const (.int .i64 1)) 3) 3), none, []⟩,
        ⟨some 4, .mov (.tmp 10), none, []⟩] false))))))
  (.seq (.region [⟨some 19, .mov (.tmp 3), none, []⟩,
    ⟨some 2, .mov (.tmp 19), none, []⟩] false)
  .ret))))
def a41 : AFunc := ⟨20, c41, [.tmp 2], 1⟩

/-- (*blindstamp/link.under).send -/
def c42 : ACode :=
  (.seq (.region [⟨some 2, .mov (.const (.slice none 0 0)), none, []⟩] false)
  (.seq (.seq (.region [⟨some 5, .mov (.tmp 0), none, [5, 6, 7, 8, 9, 10, 11, 14]⟩,
    ⟨some 6, .nilck (.tmp 5), none, [5, 6, 7, 8, 9, 10, 11, 14]⟩,
    ⟨some 7, .fad 0 (.tmp 6), none, [5, 6, 7, 8, 9, 10, 11, 14]⟩,
    ⟨some 8, .fad 2 (.tmp 7), none, [5, 6, 7, 8, 9, 10, 11, 14]⟩,
    ⟨some 9, .load 1 false (.tmp 8), none, [5, 6, 7, 8, 9, 10, 11, 14]⟩,
    ⟨some 10, .mov (.tmp 0), none, [0, 1, 2, 3, 4, 14]⟩,
    ⟨some 11, .nilck (.tmp 10), none, [0, 1, 2, 3, 4, 14]⟩,
    ⟨some 12, .fad 0 (.tmp 11), none, [0, 1, 2, 3, 4, 14]⟩,
    ⟨some 13, .fad 2 (.tmp 12), none, [0, 1, 2, 3, 4, 14]⟩,
    ⟨some 14, .load 1 false (.tmp 13), none, [0, 1, 2, 3, 4, 14]⟩,
    ⟨some 15, .len (.tmp 14), none, [0, 1, 2, 3, 4, 14]⟩,
    ⟨some 16, .pur (mkO (.call ⟨.builtin .min, #[(.tmp 15), (.const (.int .i64 4))], #[3, 3]⟩) 3), none, [0, 1, 2, 3, 4, 14]⟩,
    ⟨some 17, .slc 2 (.tmp 9) none (some (.tmp 16)) none, none, [14]⟩,
    ⟨some 18, .len (.tmp 17), none, [14]⟩,
    ⟨some 19, .mov (.const (.int .i64 0)), none, [0, 1, 2, 3, 4, 5, 6, 7, 8, 9, 10, 11, 12, 13]⟩] true)
  (.block 0 (.loop (.seq (.region [⟨some 20, .pur (mkO (.binOp .lss 3 (.tmp 19) (.tmp 18) 3) 0), none, []⟩] false)
      (.seq (.cond (.tmp 20)
        .skip
        (.exit 0))
      (.seq (.block 1 (.seq (.region [⟨some 21, .iad 2 (.tmp 17) (.tmp 19), none, [2]⟩,
          ⟨some 22, .load 2 true (.tmp 21), none, [2]⟩,
          ⟨some 4, .alloc 34 (.agg #[(.int .i64 0), (.slice none 0 0)]), none, [0, 1]⟩,
          ⟨none, .store 2 (.tmp 4) (.tmp 22), none, []⟩] false)
        (.region [⟨some 23, .mov (.tmp 2), none, [1, 2, 3, 4, 5, 6, 7, 8, 9, 10, 11, 12, 13, 14, 15, 16, 17, 18]⟩,
          ⟨some 24, .mov (.tmp 0), none, [0, 6, 7, 8, 9, 10, 11, 12, 13, 14, 15, 16]⟩,
          ⟨some 25, .nilck (.tmp 24), none, [0, 6, 7, 8, 9, 10, 11, 12, 13, 14, 15, 16]⟩,
          ⟨some 26, .fad 0 (.tmp 25), none, [0, 6, 7, 8, 9, 10, 11, 12, 13, 14, 15, 16]⟩,
          ⟨some 27, .fad 0 (.tmp 26), none, [0, 6, 7, 8, 9, 10, 11, 12, 13, 14, 15, 16]⟩,
          ⟨some 28, .load 1 false (.tmp 27), none, [0, 6, 7, 8, 9, 10, 11, 12, 13, 14, 15, 16]⟩,
          ⟨some 29, .fad 0 (.tmp 4), none, [0, 1, 2, 3, 4, 5, 8, 9, 10, 11, 12, 13, 14, 15, 16]⟩,
          ⟨some 30, .load 1 false (.tmp 29), none, [0, 1, 2, 3, 4, 5, 8, 9, 10, 11, 12, 13, 14, 15, 16]⟩,
          ⟨some 31, .mov (.tmp 0), none, [0, 1, 2, 3, 4, 5, 6, 7, 14, 15, 16]⟩,
          ⟨some 32, .nilck (.tmp 31), none, [0, 1, 2, 3, 4, 5, 6, 7, 14, 15, 16]⟩,
          ⟨some 33, .fad 0 (.tmp 32), none, [0, 1, 2, 3, 4, 5, 6, 7, 14, 15, 16]⟩,
          ⟨some 34, .fad 3 (.tmp 33), none, [0, 1, 2, 3, 4, 5, 6, 7, 14, 15, 16]⟩,
          ⟨some 35, .load 1 false (.tmp 34), none, [0, 1, 2, 3, 4, 5, 6, 7, 14, 15, 16]⟩,
          ⟨some 36, .pur (mkO (.binOp .sub 3 (.tmp 35) (.const (.int .i64 1)) 3) 3), none, [0, 1, 2, 3, 4, 5, 6, 7, 14, 15, 16]⟩,
          ⟨some 37, .fad 1 (.tmp 4), none, [0, 1, 2, 3, 4, 5, 6, 7, 8, 9, 10, 11, 12, 13]⟩,
          ⟨some 38, .load 1 false (.tmp 37), none, [0, 1, 2, 3, 4, 5, 6, 7, 8, 9, 10, 11, 12, 13]⟩,
          ⟨some 39, .call (.func 39) [(.tmp 38)], none, [0, 1, 2, 3, 4, 5, 6, 7, 8, 9, 10, 11, 12, 13]⟩,
          ⟨some 40, .build (.agg #[(.int .i64 0), (.int .i64 0), (.int .i64 0), (.slice none 0 0)]) [(0, 1, (.tmp 28)), (1, 1, (.tmp 30)), (2, 1, (.tmp 36)), (3, 1, (.tmp 39))], none, [0]⟩,
          ⟨some 41, .bsl 47 4 (.agg #[(.int .i64 0), (.int .i64 0), (.int .i64 0), (.slice none 0 0)]) 1 [(0, 4, (.tmp 40))], none, [0]⟩,
          ⟨some 42, .app 47 4 48 (.agg #[(.int .i64 0), (.int .i64 0), (.int .i64 0), (.slice none 0 0)]) (.tmp 23) (.tmp 41), none, []⟩,
          ⟨some 2, .mov (.tmp 42), none, []⟩] true)))
      (.region [⟨some 43, .pur (mkO (.binOp .add 3 (.tmp 19) (.const (.int .i64 1)) 3) 3), none, []⟩,
        ⟨some 19, .mov (.tmp 43), none, []⟩] false)))))))
  (.seq (.seq (.region [⟨some 44, .mov (.tmp 2), none, []⟩,
    ⟨some 45, .len (.tmp 44), none, []⟩,
    ⟨some 46, .pur (mkO (.binOp .eql 3 (.tmp 45) (.const (.int .i64 0)) 3) 4), none, []⟩,
    ⟨some 47, .mov (.tmp 46), none, []⟩,
    ⟨some 48, .mov (.tmp 0), some (47, true), []⟩,
    ⟨some 49, .nilck (.tmp 48), some (47, true), []⟩,
    ⟨some 50, .fad 0 (.tmp 49), some (47, true), []⟩,
    ⟨some 51, .fad 5 (.tmp 50), some (47, true), []⟩,
    ⟨some 52, .load 1 false (.tmp 51), some (47, true), []⟩,
    ⟨some 53, .pick (.tmp 47) (.tmp 52) (.const (.bool false)), none, []⟩] false)
  (.cond (.tmp 53)
    (.region [⟨some 54, .mov (.tmp 2), none, [1, 2, 3, 4, 5, 6, 7, 8, 9, 10, 11, 12, 13]⟩,
      ⟨some 55, .mov (.tmp 0), none, [0, 6, 7, 8, 9, 10, 11]⟩,
      ⟨some 56, .nilck (.tmp 55), none, [0, 6, 7, 8, 9, 10, 11]⟩,
      ⟨some 57, .fad 0 (.tmp 56), none, [0, 6, 7, 8, 9, 10, 11]⟩,
      ⟨some 58, .fad 0 (.tmp 57), none, [0, 6, 7, 8, 9, 10, 11]⟩,
      ⟨some 59, .load 1 false (.tmp 58), none, [0, 6, 7, 8, 9, 10, 11]⟩,
      ⟨some 60, .mov (.tmp 0), none, [0, 1, 2, 3, 4, 5]⟩,
      ⟨some 61, .nilck (.tmp 60), none, [0, 1, 2, 3, 4, 5]⟩,
      ⟨some 62, .fad 0 (.tmp 61), none, [0, 1, 2, 3, 4, 5]⟩,
      ⟨some 63, .fad 3 (.tmp 62), none, [0, 1, 2, 3, 4, 5]⟩,
      ⟨some 64, .load 1 false (.tmp 63), none, [0, 1, 2, 3, 4, 5]⟩,
      ⟨some 65, .pur (mkO (.binOp .sub 3 (.tmp 64) (.const (.int .i64 1)) 3) 3), none, [0, 1, 2, 3, 4, 5]⟩,
      ⟨some 66, .build (.agg #[(.int .i64 0), (.int .i64 0), (.int .i64 0), (.slice none 0 0)]) [(0, 1, (.tmp 59)), (2, 1, (.tmp 65))], none, [0]⟩,
      ⟨some 67, .bsl 47 4 (.agg #[(.int .i64 0), (.int .i64 0), (.int .i64 0), (.slice none 0 0)]) 1 [(0, 4, (.tmp 66))], none, [0]⟩,
      ⟨some 68, .app 47 4 48 (.agg #[(.int .i64 0), (.int .i64 0), (.int .i64 0), (.slice none 0 0)]) (.tmp 54) (.tmp 67), none, []⟩,
      ⟨some 2, .mov (.tmp 68), none, []⟩] true)
    .skip))
  (.seq (.region [⟨some 69, .mov (.tmp 0), none, [1]⟩,
    ⟨some 70, .mov (.tmp 0), none, [0, 2, 3, 4, 5]⟩,
    ⟨some 71, .nilck (.tmp 69), none, [1]⟩,
    ⟨some 72, .fad 0 (.tmp 71), none, [1]⟩,
    ⟨some 73, .fad 5 (.tmp 72), none, [1]⟩,
    ⟨none, .store 1 (.tmp 73) (.const (.bool false)), none, [1]⟩,
    ⟨some 74, .nilck (.tmp 70), none, []⟩,
    ⟨some 75, .fad 0 (.tmp 74), none, []⟩,
    ⟨some 76, .fad 4 (.tmp 75), none, []⟩,
    ⟨none, .store 1 (.tmp 76) (.const (.int .i64 0)), none, []⟩] false)
  (.seq (.region [⟨some 77, .mov (.tmp 2), none, []⟩,
    ⟨some 2, .mov (.tmp 77), none, []⟩] false)
  .ret)))))
def a42 : AFunc := ⟨78, c42, [.tmp 2], 0⟩

/-- (*blindstamp/link.under).acked -/
def c43 : ACode :=
  (.seq (.region [⟨some 3, .box 3 (.tmp 1), none, []⟩] false)
  (.seq (.region [⟨some 5, .mkfn 59 [] [(.tmp 3)], none, []⟩,
    ⟨some 4, .mov (.tmp 5), none, []⟩] false)
  (.seq (.region [⟨some 6, .load 1 false (.tmp 3), none, [1, 2, 3, 4, 5]⟩,
    ⟨some 7, .mov (.tmp 0), none, [0]⟩,
    ⟨some 8, .nilck (.tmp 7), none, [0]⟩,
    ⟨some 9, .fad 0 (.tmp 8), none, [0]⟩,
    ⟨some 10, .fad 1 (.tmp 9), none, [0]⟩,
    ⟨some 11, .load 1 false (.tmp 10), none, [0]⟩,
    ⟨some 12, .pur (mkO (.binOp .lss 3 (.tmp 6) (.tmp 11) 3) 4), none, []⟩,
    ⟨some 13, .mov (.tmp 12), none, []⟩,
    ⟨some 14, .mov (.tmp 0), some (13, true), [13]⟩,
    ⟨some 15, .nilck (.tmp 14), some (13, true), [13]⟩,
    ⟨some 16, .fad 0 (.tmp 15), some (13, true), [13]⟩,
    ⟨some 17, .fad 2 (.tmp 16), some (13, true), [13]⟩,
    ⟨some 18, .load 1 false (.tmp 17), some (13, true), [13]⟩,
    ⟨some 19, .mov (.tmp 4), some (13, true), [8, 9, 10, 11, 12]⟩,
    ⟨some 20, .call (.func 60) [(.tmp 18), (.tmp 19)], some (13, true), []⟩,
    ⟨some 21, .pick (.tmp 13) (.tmp 20) (.const (.bool false)), none, []⟩] true)
  (.cond (.tmp 21)
    (.region [⟨some 22, .mov (.tmp 0), none, [1, 2, 3, 4, 5, 6, 7, 8]⟩,
      ⟨some 23, .mov (.tmp 0), none, [0, 2, 3, 4, 5, 6, 7, 8, 9, 10, 11, 12]⟩,
      ⟨some 24, .mov (.tmp 0), none, [0, 1, 7]⟩,
      ⟨some 25, .nilck (.tmp 24), none, [0, 1, 7]⟩,
      ⟨some 26, .fad 0 (.tmp 25), none, [0, 1, 7]⟩,
      ⟨some 27, .fad 2 (.tmp 26), none, [0, 1, 7]⟩,
      ⟨some 28, .load 1 false (.tmp 27), none, [0, 1, 7]⟩,
      ⟨some 29, .mov (.tmp 4), none, [0, 1, 2, 3, 4, 5, 6]⟩,
      ⟨some 30, .call (.func 61) [(.tmp 28), (.tmp 29)], none, [0, 1]⟩,
      ⟨some 31, .nilck (.tmp 22), none, [1]⟩,
      ⟨some 32, .fad 0 (.tmp 31), none, [1]⟩,
      ⟨some 33, .fad 2 (.tmp 32), none, [1]⟩,
      ⟨none, .store 1 (.tmp 33) (.tmp 30), none, [1]⟩,
      ⟨some 34, .nilck (.tmp 23), none, []⟩,
      ⟨some 35, .fad 0 (.tmp 34), none, []⟩,
      ⟨some 36, .fad 4 (.tmp 35), none, []⟩,
      ⟨none, .store 1 (.tmp 36) (.const (.int .i64 0)), none, []⟩] false)
    .skip))))
def a43 : AFunc := ⟨37, c43, [], 0⟩

/-- blindstamp/link.Twin -/
def c44 : ACode :=
  (.seq (.region [⟨some 1, .box 24 (.tmp 0), none, [1]⟩,
    ⟨some 2, .alloc 24 (.agg #[(.int .i64 0), (.int .i64 0), (.slice none 0 0), (.int .i64 0), (.int .i64 0), (.bool false)]), none, [0]⟩] false)
  (.seq (.region [⟨some 5, .fad 2 (.tmp 1), none, []⟩,
    ⟨some 6, .load 1 false (.tmp 5), none, []⟩,
    ⟨some 7, .call (.func 62) [(.tmp 6)], none, []⟩,
    ⟨some 8, .fad 2 (.tmp 1), none, []⟩,
    ⟨none, .store 1 (.tmp 8) (.tmp 7), none, []⟩] false)
  (.seq (.seq (.region [⟨some 9, .fad 2 (.tmp 1), none, [3]⟩,
    ⟨some 10, .load 1 false (.tmp 9), none, [3]⟩,
    ⟨some 11, .len (.tmp 10), none, [3]⟩,
    ⟨some 12, .mov (.const (.int .i64 0)), none, [0, 1, 2]⟩] false)
  (.block 0 (.loop (.seq (.region [⟨some 13, .pur (mkO (.binOp .lss 3 (.tmp 12) (.tmp 11) 3) 0), none, []⟩] false)
      (.seq (.cond (.tmp 13)
        .skip
        (.exit 0))
      (.seq (.block 1 (.seq (.region [⟨some 14, .mov (.tmp 12), none, [1, 2, 3]⟩,
          ⟨some 15, .iad 2 (.tmp 10) (.tmp 12), none, [0, 3]⟩,
          ⟨some 16, .load 2 true (.tmp 15), none, [0, 3]⟩,
          ⟨some 4, .alloc 34 (.agg #[(.int .i64 0), (.slice none 0 0)]), none, [0, 1, 2]⟩,
          ⟨some 3, .mov (.tmp 14), none, []⟩,
          ⟨none, .store 2 (.tmp 4) (.tmp 16), none, []⟩] false)
        (.region [⟨some 17, .fad 2 (.tmp 1), none, [2, 3, 4, 5]⟩,
          ⟨some 18, .load 1 false (.tmp 17), none, [2, 3, 4, 5]⟩,
          ⟨some 19, .mov (.tmp 3), none, [0, 1, 3, 4, 5]⟩,
          ⟨some 20, .fad 1 (.tmp 4), none, [0, 1, 2]⟩,
          ⟨some 21, .load 1 false (.tmp 20), none, [0, 1, 2]⟩,
          ⟨some 22, .call (.func 39) [(.tmp 21)], none, [0, 1, 2]⟩,
          ⟨some 23, .iad 2 (.tmp 18) (.tmp 19), none, []⟩,
          ⟨some 24, .fad 1 (.tmp 23), none, []⟩,
          ⟨none, .store 1 (.tmp 24) (.tmp 22), none, []⟩] true)))
      (.region [⟨some 25, .pur (mkO (.binOp .add 3 (.tmp 12) (.const (.int .i64 1)) 3) 3), none, []⟩,
        ⟨some 12, .mov (.tmp 25), none, []⟩] false)))))))
  (.seq (.region [⟨some 26, .load 6 true (.tmp 1), none, []⟩,
    ⟨none, .store 6 (.tmp 2) (.tmp 26), none, []⟩] false)
  .ret))))
def a44 : AFunc := ⟨27, c44, [.cell 2 6 true], 0⟩

/-- blindstamp/link.Tick -/
def c45 : ACode :=
  (.seq (.region [⟨some 1, .box 24 (.tmp 0), none, [1, 2, 3]⟩,
    ⟨some 2, .alloc 24 (.agg #[(.int .i64 0), (.int .i64 0), (.slice none 0 0), (.int .i64 0), (.int .i64 0), (.bool false)]), none, [0, 2, 3]⟩,
    ⟨some 3, .mov (.const (.slice none 0 0)), none, [0, 1]⟩,
    ⟨some 4, .mov (.const (.int .i64 0)), none, [0, 1]⟩] false)
  (.seq (.region [⟨some 9, .load 6 true (.tmp 1), none, []⟩,
    ⟨some 10, .call (.func 26) [(.tmp 9)], none, []⟩,
    ⟨some 8, .mov (.tmp 10), none, []⟩,
    ⟨some 11, .ext (.tmp 8) 0, none, [4]⟩,
    ⟨some 12, .ext (.tmp 8) 1, none, [3, 5]⟩,
    ⟨some 5, .mov (.tmp 11), none, [4]⟩,
    ⟨some 6, .mov (.tmp 12), none, []⟩] false)
  (.seq (.seq (.region [⟨some 13, .mov (.tmp 6), none, []⟩,
    ⟨some 14, .pur (mkO (.binOp .neq 28 (.tmp 13) (.const (.int .i64 0)) 28) 4), none, []⟩] false)
  (.cond (.tmp 14)
    (.seq (.region [⟨some 15, .build (.agg #[(.int .i64 0), (.int .i64 0), (.slice none 0 0), (.int .i64 0), (.int .i64 0), (.bool false)]) [], none, [1]⟩,
      ⟨some 16, .mov (.tmp 6), none, [0, 2, 3]⟩,
      ⟨none, .store 6 (.tmp 2) (.tmp 15), none, [1]⟩,
      ⟨some 3, .mov (.const (.slice none 0 0)), none, [1]⟩,
      ⟨some 4, .mov (.tmp 16), none, []⟩] false)
    .ret)
    .skip))
  (.seq (.seq (.region [⟨some 17, .mov (.tmp 5), none, []⟩,
    ⟨some 18, .nilck (.tmp 17), none, []⟩,
    ⟨some 19, .fad 0 (.tmp 18), none, []⟩,
    ⟨some 20, .fad 2 (.tmp 19), none, []⟩,
    ⟨some 21, .load 1 false (.tmp 20), none, []⟩,
    ⟨some 22, .len (.tmp 21), none, []⟩,
    ⟨some 23, .pur (mkO (.binOp .eql 3 (.tmp 22) (.const (.int .i64 0)) 3) 4), none, []⟩] false)
  (.cond (.tmp 23)
    (.seq (.region [⟨some 24, .mov (.tmp 5), none, []⟩,
      ⟨some 25, .nilck (.tmp 24), none, []⟩,
      ⟨some 26, .fad 0 (.tmp 25), none, []⟩,
      ⟨some 27, .load 6 true (.tmp 26), none, []⟩,
      ⟨none, .store 6 (.tmp 2) (.tmp 27), none, []⟩,
      ⟨some 3, .mov (.const (.slice none 0 0)), none, []⟩,
      ⟨some 4, .mov (.const (.int .i64 0)), none, []⟩] false)
    .ret)
    .skip))
  (.seq (.seq (.region [⟨some 28, .mov (.tmp 5), none, []⟩,
    ⟨some 29, .nilck (.tmp 28), none, []⟩,
    ⟨some 30, .fad 0 (.tmp 29), none, []⟩,
    ⟨some 31, .fad 4 (.tmp 30), none, []⟩,
    ⟨some 32, .load 1 false (.tmp 31), none, []⟩,
    ⟨some 33, .pur (mkO (.binOp .add 3 (.tmp 32) (.const (.int .i64 1)) 3) 3), none, []⟩,
    ⟨some 34, .nilck (.tmp 28), none, []⟩,
    ⟨some 35, .fad 0 (.tmp 34), none, []⟩,
    ⟨some 36, .fad 4 (.tmp 35), none, []⟩,
    ⟨none, .store 1 (.tmp 36) (.tmp 33), none, []⟩] false)
  (.seq (.region [⟨some 37, .mov (.tmp 5), none, []⟩,
    ⟨some 38, .nilck (.tmp 37), none, []⟩,
    ⟨some 39, .fad 0 (.tmp 38), none, []⟩,
    ⟨some 40, .fad 4 (.tmp 39), none, []⟩,
    ⟨some 41, .load 1 false (.tmp 40), none, []⟩,
    ⟨some 42, .pur (mkO (.binOp .lss 3 (.tmp 41) (.const (.int .i64 3)) 3) 4), none, []⟩] false)
  (.cond (.tmp 42)
    (.seq (.region [⟨some 43, .mov (.tmp 5), none, []⟩,
      ⟨some 44, .nilck (.tmp 43), none, []⟩,
      ⟨some 45, .fad 0 (.tmp 44), none, []⟩,
      ⟨some 46, .load 6 true (.tmp 45), none, []⟩,
      ⟨none, .store 6 (.tmp 2) (.tmp 46), none, []⟩,
      ⟨some 3, .mov (.const (.slice none 0 0)), none, []⟩,
      ⟨some 4, .mov (.const (.int .i64 0)), none, []⟩] false)
    .ret)
    .skip)))
  (.seq (.region [⟨some 47, .mov (.tmp 5), none, []⟩,
    ⟨some 48, .call (.func 42) [(.tmp 47)], none, []⟩,
    ⟨some 7, .mov (.tmp 48), none, []⟩] false)
  (.seq (.region [⟨some 49, .mov (.tmp 5), none, [4]⟩,
    ⟨some 50, .nilck (.tmp 49), none, [4]⟩,
    ⟨some 51, .fad 0 (.tmp 50), none, [4]⟩,
    ⟨some 52, .load 6 true (.tmp 51), none, [4]⟩,
    ⟨some 53, .mov (.tmp 7), none, [0, 1, 2, 3, 5]⟩,
    ⟨none, .store 6 (.tmp 2) (.tmp 52), none, [4]⟩,
    ⟨some 3, .mov (.tmp 53), none, []⟩,
    ⟨some 4, .mov (.const (.int .i64 0)), none, []⟩] false)
  .ret)))))))
def a45 : AFunc := ⟨54, c45, [.cell 2 6 true, .tmp 3, .tmp 4], 1⟩

/-- blindstamp/frame.Class -/
def c46 : ACode :=
  (.seq (.region [⟨some 2, .mov (.const (.int .i64 0)), none, []⟩,
    ⟨some 3, .mov (.const (.int .i64 0)), none, []⟩] false)
  (.seq (.seq (.region [⟨some 6, .mov (.tmp 0), none, []⟩,
    ⟨some 7, .pur (mkO (.binOp .lss 3 (.tmp 6) (.const (.int .i64 0)) 3) 4), none, []⟩,
    ⟨some 8, .mov (.tmp 7), none, []⟩,
    ⟨some 9, .mov (.tmp 0), some (8, false), []⟩,
    ⟨some 10, .pur (mkO (.binOp .gtr 3 (.tmp 9) (.const (.int .i64 1000)) 3) 4), some (8, false), []⟩,
    ⟨some 11, .pick (.tmp 8) (.const (.bool true)) (.tmp 10), none, []⟩] false)
  (.cond (.tmp 11)
    (.seq (.region [⟨some 2, .mov (.const (.int .i64 0)), none, []⟩,
      ⟨some 3, .mov (.const (.int .i64 4)), none, []⟩] false)
    .ret)
    .skip))
  (.seq (.region [⟨some 12, .call (.func 63) [], none, [1]⟩,
    ⟨some 4, .alloc 109 (.agg #[(.int .i64 0), (.int .i64 0), (.int .i64 0)]), none, [0]⟩,
    ⟨none, .store 3 (.tmp 4) (.tmp 12), none, []⟩] false)
  (.seq (.seq (.region [⟨some 13, .mov (.const (.int .i64 0)), none, []⟩] false)
  (.block 0 (.loop (.seq (.region [⟨some 14, .pur (mkO (.binOp .lss 3 (.tmp 13) (.const (.int .i64 3)) 3) 4), none, []⟩] false)
      (.seq (.cond (.tmp 14)
        .skip
        (.exit 0))
      (.seq (.block 1 (.seq (.region [⟨some 15, .mov (.tmp 13), none, []⟩,
          ⟨some 5, .mov (.tmp 15), none, []⟩] false)
        (.seq (.region [⟨some 16, .mov (.tmp 0), none, [3, 6, 7, 8]⟩,
          ⟨some 17, .call (.func 64) [(.tmp 16)], none, [3, 6, 7, 8]⟩,
          ⟨some 18, .pur (mkO (.binOp .add 3 (.const (.int .i64 1)) (.tmp 17) 3) 3), none, [3, 6, 7, 8]⟩,
          ⟨some 19, .mov (.tmp 0), none, [0, 1, 2, 6, 7, 8]⟩,
          ⟨some 20, .pur (mkO (.binOp .add 3 (.tmp 18) (.tmp 19) 3) 3), none, [6, 7, 8]⟩,
          ⟨some 21, .pur (mkO (.binOp .add 3 (.tmp 20) (.const (.int .i64 3)) 3) 3), none, [6, 7, 8]⟩,
          ⟨some 22, .mov (.tmp 5), none, [0, 1, 2, 3, 4, 5]⟩,
          ⟨some 23, .ida 3 1 (.tmp 4) (.tmp 22), none, [0, 1, 2, 3, 4, 5]⟩,
          ⟨some 24, .load 1 false (.tmp 23), none, [0, 1, 2, 3, 4, 5]⟩,
          ⟨some 25, .pur (mkO (.binOp .leq 3 (.tmp 21) (.tmp 24) 3) 4), none, []⟩] true)
        (.cond (.tmp 25)
          (.seq (.region [⟨some 26, .mov (.tmp 5), none, []⟩,
            ⟨some 27, .ida 3 1 (.tmp 4) (.tmp 26), none, []⟩,
            ⟨some 28, .load 1 false (.tmp 27), none, []⟩,
            ⟨some 2, .mov (.tmp 28), none, []⟩,
            ⟨some 3, .mov (.const (.int .i64 0)), none, []⟩] false)
          .ret)
          .skip))))
      (.region [⟨some 29, .pur (mkO (.binOp .add 3 (.tmp 13) (.const (.int .i64 1)) 3) 3), none, []⟩,
        ⟨some 13, .mov (.tmp 29), none, []⟩] false)))))))
  (.seq (.region [⟨some 2, .mov (.const (.int .i64 0)), none, []⟩,
    ⟨some 3, .mov (.const (.int .i64 4)), none, []⟩] false)
  .ret)))))
def a46 : AFunc := ⟨30, c46, [.tmp 2, .tmp 3], 1⟩

/-- blindstamp/num.Put -/
def c47 : ACode :=
  (.seq (.region [⟨some 2, .mov (.const (.slice none 0 0)), none, []⟩,
    ⟨some 3, .mov (.const (.int .i64 0)), none, []⟩] false)
  (.seq (.region [⟨some 7, .mov (.tmp 0), none, []⟩,
    ⟨some 8, .call (.func 64) [(.tmp 7)], none, []⟩,
    ⟨some 9, .pur (mkO (.binOp .sub 3 (.tmp 8) (.const (.int .i64 1)) 3) 3), none, []⟩,
    ⟨some 4, .mov (.tmp 9), none, []⟩] false)
  (.block 0 (.seq (.region [⟨some 37, .mov (.tmp 4), none, []⟩,
      ⟨some 38, .pur (mkO (.binOp .lss 3 (.tmp 37) (.const (.int .i64 0)) 3) 4), none, []⟩,
      ⟨some 36, .mov (.tmp 38), none, []⟩] false)
    (.cond (.tmp 36)
      (.seq (.region [⟨some 2, .mov (.const (.slice none 0 0)), none, []⟩,
        ⟨some 3, .mov (.const (.int .i64 2)), none, []⟩] false)
      .ret)
      (.seq (.region [⟨some 40, .mov (.tmp 4), none, []⟩,
        ⟨some 41, .pur (mkO (.binOp .eql 3 (.tmp 40) (.const (.int .i64 0)) 3) 4), none, []⟩,
        ⟨some 39, .mov (.tmp 41), none, []⟩] false)
      (.cond (.tmp 39)
        (.seq (.region [⟨some 42, .mov (.tmp 0), none, []⟩,
          ⟨some 43, .pur (mkO (.convert 3 5 (.tmp 42)) 5), none, []⟩,
          ⟨some 44, .bsl 5 1 (.int .u8 0) 1 [(0, 1, (.tmp 43))], none, []⟩,
          ⟨some 2, .mov (.tmp 44), none, []⟩,
          ⟨some 3, .mov (.const (.int .i64 0)), none, []⟩] false)
        .ret)
        (.seq (.region [⟨some 10, .mov (.tmp 4), none, []⟩,
          ⟨some 11, .mksl 5 1 1 (.int .u8 0) (.tmp 10) (.tmp 10), none, []⟩,
          ⟨some 5, .mov (.tmp 11), none, []⟩] false)
        (.seq (.seq (.region [⟨some 12, .mov (.tmp 5), none, [2]⟩,
          ⟨some 13, .len (.tmp 12), none, [2]⟩,
          ⟨some 14, .mov (.const (.int .i64 0)), none, [0, 1]⟩] false)
        (.block 1 (.loop (.seq (.region [⟨some 15, .pur (mkO (.binOp .lss 3 (.tmp 14) (.tmp 13) 3) 0), none, []⟩] false)
            (.seq (.cond (.tmp 15)
              .skip
              (.exit 1))
            (.seq (.block 2 (.seq (.region [⟨some 16, .mov (.tmp 14), none, []⟩,
                ⟨some 6, .mov (.tmp 16), none, []⟩] false)
              (.region [⟨some 17, .mov (.tmp 5), none, [1, 2, 3, 4, 5, 6, 7, 8, 9]⟩,
                ⟨some 18, .mov (.tmp 4), none, [0, 3, 5, 6, 7, 8, 9]⟩,
                ⟨some 19, .pur (mkO (.binOp .sub 3 (.tmp 18) (.const (.int .i64 1)) 3) 3), none, [0, 3, 5, 6, 7, 8, 9]⟩,
                ⟨some 20, .mov (.tmp 6), none, [0, 1, 2, 5, 6, 7, 8, 9]⟩,
                ⟨some 21, .pur (mkO (.binOp .sub 3 (.tmp 19) (.tmp 20) 3) 3), none, [0, 5, 6, 7, 8, 9]⟩,
                ⟨some 22, .mov (.tmp 0), none, [0, 1, 2, 3, 4, 6, 7]⟩,
                ⟨some 23, .mov (.tmp 6), none, [0, 1, 2, 3, 4, 5]⟩,
                ⟨some 24, .pur (mkO (.binOp .mul 3 (.const (.int .i64 8)) (.tmp 23) 3) 3), none, [0, 1, 2, 3, 4, 5]⟩,
                ⟨some 25, .pur (mkO (.binOp .shr 3 (.tmp 22) (.tmp 24) 3) 3), none, [0, 1, 2, 3, 4]⟩,
                ⟨some 26, .pur (mkO (.convert 3 5 (.tmp 25)) 5), none, [0, 1, 2, 3, 4]⟩,
                ⟨some 27, .iad 1 (.tmp 17) (.tmp 21), none, []⟩,
                ⟨none, .store 1 (.tmp 27) (.tmp 26), none, []⟩] false)))
            (.region [⟨some 28, .pur (mkO (.binOp .add 3 (.tmp 14) (.const (.int .i64 1)) 3) 3), none, []⟩,
              ⟨some 14, .mov (.tmp 28), none, []⟩] false)))))))
        (.seq (.region [⟨some 29, .mov (.tmp 4), none, [4]⟩,
          ⟨some 30, .pur (mkO (.binOp .add 3 (.const (.int .i64 247)) (.tmp 29) 3) 3), none, [4]⟩,
          ⟨some 31, .pur (mkO (.convert 3 5 (.tmp 30)) 5), none, [4]⟩,
          ⟨some 32, .bsl 5 1 (.int .u8 0) 1 [(0, 1, (.tmp 31))], none, [4]⟩,
          ⟨some 33, .mov (.tmp 5), none, [0, 1, 2, 3]⟩,
          ⟨some 34, .bsl 32 1 (.slice none 0 0) 2 [(0, 1, (.tmp 32)), (1, 1, (.tmp 33))], none, []⟩,
          ⟨some 35, .call (.func 65) [(.tmp 34)], none, []⟩,
          ⟨some 2, .mov (.tmp 35), none, []⟩,
          ⟨some 3, .mov (.const (.int .i64 0)), none, []⟩] false)
        .ret))))))))))
def a47 : AFunc := ⟨45, c47, [.tmp 2, .tmp 3], 1⟩

/-- blindstamp/sum.Bytes -/
def c48 : ACode :=
  (.seq (.region [⟨some 2, .mov (.const (.slice none 0 0)), none, []⟩] false)
  (.seq (.region [⟨some 3, .mov (.tmp 0), none, [3, 4, 5, 6, 7]⟩,
    ⟨some 4, .pur (mkO (.binOp .shr 93 (.tmp 3) (.const (.int .u64 16)) 102) 93), none, [3, 4, 5, 6, 7]⟩,
    ⟨some 5, .pur (mkO (.convert 93 5 (.tmp 4)) 5), none, [3, 4, 5, 6, 7]⟩,
    ⟨some 6, .mov (.tmp 0), none, [0, 1, 2, 6, 7]⟩,
    ⟨some 7, .pur (mkO (.binOp .shr 93 (.tmp 6) (.const (.int .u64 8)) 102) 93), none, [0, 1, 2, 6, 7]⟩,
    ⟨some 8, .pur (mkO (.convert 93 5 (.tmp 7)) 5), none, [0, 1, 2, 6, 7]⟩,
    ⟨some 9, .mov (.tmp 0), none, [0, 1, 2, 3, 4, 5]⟩,
    ⟨some 10, .pur (mkO (.convert 93 5 (.tmp 9)) 5), none, [0, 1, 2, 3, 4, 5]⟩,
    ⟨some 11, .bsl 5 1 (.int .u8 0) 3 [(0, 1, (.tmp 5)), (1, 1, (.tmp 8)), (2, 1, (.tmp 10))], none, []⟩,
    ⟨some 2, .mov (.tmp 11), none, []⟩] false)
  .ret))
def a48 : AFunc := ⟨12, c48, [.tmp 2], 1⟩

/-- blindstamp/sum.Of -/
def c49 : ACode :=
  (.seq (.region [⟨some 2, .mov (.const (.int .u32 0)), none, []⟩] false)
  (.seq (.region [⟨some 3, .mov (.const (.int .u32 11994318)), none, []⟩] false)
  (.seq (.seq (.region [⟨some 6, .mov (.tmp 0), none, [2]⟩,
    ⟨some 7, .len (.tmp 6), none, [2]⟩,
    ⟨some 8, .mov (.const (.int .i64 0)), none, [0, 1]⟩] false)
  (.block 0 (.loop (.seq (.region [⟨some 9, .pur (mkO (.binOp .lss 3 (.tmp 8) (.tmp 7) 3) 0), none, []⟩] false)
      (.seq (.cond (.tmp 9)
        .skip
        (.exit 0))
      (.seq (.block 1 (.seq (.region [⟨some 10, .iad 1 (.tmp 6) (.tmp 8), none, []⟩,
          ⟨some 11, .load 1 false (.tmp 10), none, []⟩,
          ⟨some 5, .mov (.tmp 11), none, []⟩] false)
        (.seq (.region [⟨some 12, .mov (.tmp 3), none, [1, 2, 3]⟩,
          ⟨some 13, .mov (.tmp 5), none, [0]⟩,
          ⟨some 14, .pur (mkO (.convert 5 93 (.tmp 13)) 93), none, [0]⟩,
          ⟨some 15, .pur (mkO (.binOp .shl 93 (.tmp 14) (.const (.int .u64 16)) 102) 93), none, [0]⟩,
          ⟨some 16, .pur (mkO (.binOp .xor 93 (.tmp 12) (.tmp 15) 93) 93), none, []⟩,
          ⟨some 3, .mov (.tmp 16), none, []⟩] false)
        (.seq (.region [⟨some 17, .mov (.const (.int .i64 0)), none, []⟩] false)
        (.block 2 (.loop (.seq (.region [⟨some 18, .pur (mkO (.binOp .lss 3 (.tmp 17) (.const (.int .i64 8)) 3) 4), none, []⟩] false)
            (.seq (.cond (.tmp 18)
              .skip
              (.exit 2))
            (.seq (.block 3 (.seq (.region [⟨some 19, .mov (.tmp 3), none, []⟩,
                ⟨some 20, .pur (mkO (.binOp .shl 93 (.tmp 19) (.const (.int .u64 1)) 102) 93), none, []⟩,
                ⟨some 3, .mov (.tmp 20), none, []⟩] false)
              (.seq (.region [⟨some 21, .mov (.tmp 3), none, []⟩,
                ⟨some 22, .pur (mkO (.binOp .shr 93 (.tmp 21) (.const (.int .u64 24)) 102) 93), none, []⟩,
                ⟨some 23, .pur (mkO (.binOp .gtr 93 (.tmp 22) (.const (.int .u32 0)) 93) 4), none, []⟩] false)
              (.cond (.tmp 23)
                (.region [⟨some 24, .mov (.tmp 3), none, []⟩,
                  ⟨some 25, .pur (mkO (.binOp .xor 93 (.tmp 24) (.const (.int .u32 25578747)) 93) 93), none, []⟩,
                  ⟨some 3, .mov (.tmp 25), none, []⟩] false)
                .skip))))
            (.region [⟨some 26, .pur (mkO (.binOp .add 3 (.tmp 17) (.const (.int .i64 1)) 3) 3), none, []⟩,
              ⟨some 17, .mov (.tmp 26), none, []⟩] false))))))))))
      (.region [⟨some 27, .pur (mkO (.binOp .add 3 (.tmp 8) (.const (.int .i64 1)) 3) 3), none, []⟩,
        ⟨some 8, .mov (.tmp 27), none, []⟩] false)))))))
  (.seq (.region [⟨some 28, .mov (.tmp 3), none, []⟩,
    ⟨some 2, .mov (.tmp 28), none, []⟩] false)
  .ret))))
def a49 : AFunc := ⟨29, c49, [.tmp 2], 0⟩

/-- blindstamp/blindstampref25.is -/
def c50 : ACode :=
  (.seq (.region [⟨some 6, .mov (.const (.bool false)), none, []⟩] false)
  (.seq (.region [⟨some 7, .mov (.tmp 0), none, [1]⟩,
    ⟨some 8, .mov (.tmp 1), none, [0]⟩,
    ⟨some 9, .pur (mkO (.binOp .geq 3 (.tmp 7) (.tmp 8) 3) 4), none, []⟩,
    ⟨some 10, .mov (.tmp 9), none, []⟩,
    ⟨some 11, .mov (.tmp 0), some (10, true), [5]⟩,
    ⟨some 12, .mov (.tmp 2), some (10, true), [4]⟩,
    ⟨some 13, .pur (mkO (.binOp .lss 3 (.tmp 11) (.tmp 12) 3) 4), some (10, true), []⟩,
    ⟨some 14, .pick (.tmp 10) (.tmp 13) (.const (.bool false)), none, []⟩,
    ⟨some 6, .mov (.tmp 14), none, []⟩] false)
  .ret))
def a50 : AFunc := ⟨15, c50, [.tmp 6], 1⟩

/-- blindstamp/blindstampref02.Bytes -/
def c51 : ACode :=
  (.seq (.region [⟨some 2, .mov (.const (.slice none 0 0)), none, []⟩] false)
  (.seq (.seq (.region [⟨some 6, .mov (.tmp 0), none, []⟩,
    ⟨some 7, .pur (mkO (.binOp .lss 3 (.tmp 6) (.const (.int .i64 248)) 3) 4), none, []⟩] false)
  (.cond (.tmp 7)
    (.seq (.region [⟨some 8, .mov (.tmp 0), none, []⟩,
      ⟨some 9, .pur (mkO (.convert 3 5 (.tmp 8)) 5), none, []⟩,
      ⟨some 10, .bsl 5 1 (.int .u8 0) 1 [(0, 1, (.tmp 9))], none, []⟩,
      ⟨some 2, .mov (.tmp 10), none, []⟩] false)
    .ret)
    .skip))
  (.seq (.region [⟨some 3, .mov (.const (.slice none 0 0)), none, []⟩] false)
  (.seq (.region [⟨some 4, .mov (.const (.int .i64 247)), none, []⟩] false)
  (.seq (.seq (.region [⟨some 11, .mov (.tmp 0), none, []⟩,
    ⟨some 5, .mov (.tmp 11), none, []⟩] false)
  (.block 0 (.loop (.seq (.seq (.region [⟨some 12, .mov (.tmp 5), none, []⟩,
        ⟨some 13, .pur (mkO (.binOp .gtr 3 (.tmp 12) (.const (.int .i64 0)) 3) 4), none, []⟩] false)
      (.cond (.tmp 13)
        .skip
        (.exit 0)))
      (.seq (.block 1 (.seq (.region [⟨some 16, .mov (.tmp 5), none, [4]⟩,
          ⟨some 17, .pur (mkO (.binOp .rem 3 (.tmp 16) (.const (.int .i64 256)) 3) 3), none, [4]⟩,
          ⟨some 18, .pur (mkO (.convert 3 5 (.tmp 17)) 5), none, [4]⟩,
          ⟨some 19, .bsl 5 1 (.int .u8 0) 1 [(0, 1, (.tmp 18))], none, [4]⟩,
          ⟨some 20, .mov (.tmp 3), none, [0, 1, 2, 3]⟩,
          ⟨some 21, .app 5 1 1 (.int .u8 0) (.tmp 19) (.tmp 20), none, []⟩,
          ⟨some 3, .mov (.tmp 21), none, []⟩] false)
        (.region [⟨some 22, .mov (.tmp 4), none, []⟩,
          ⟨some 23, .pur (mkO (.binOp .add 3 (.tmp 22) (.const (.int .i64 1)) 3) 3), none, []⟩,
          ⟨some 4, .mov (.tmp 23), none, []⟩] false)))
      (.region [⟨some 14, .mov (.tmp 5), none, []⟩,
        ⟨some 15, .pur (mkO (.binOp .quo 3 (.tmp 14) (.const (.int .i64 256)) 3) 3), none, []⟩,
        ⟨some 5, .mov (.tmp 15), none, []⟩] false))))))
  (.seq (.region [⟨some 24, .mov (.tmp 4), none, [3]⟩,
    ⟨some 25, .pur (mkO (.convert 3 5 (.tmp 24)) 5), none, [3]⟩,
    ⟨some 26, .bsl 5 1 (.int .u8 0) 1 [(0, 1, (.tmp 25))], none, [3]⟩,
    ⟨some 27, .mov (.tmp 3), none, [0, 1, 2]⟩,
    ⟨some 28, .app 5 1 1 (.int .u8 0) (.tmp 26) (.tmp 27), none, []⟩,
    ⟨some 2, .mov (.tmp 28), none, []⟩] false)
  .ret))))))
def a51 : AFunc := ⟨29, c51, [.tmp 2], 1⟩

/-- blindstamp/blindstampref08.Long -/
def c52 : ACode :=
  (.seq (.region [⟨some 2, .mov (.const (.int .i64 0)), none, []⟩] false)
  (.seq (.region [⟨some 4, .mov (.tmp 0), none, [4]⟩,
    ⟨some 5, .call (.func 51) [(.tmp 4)], none, [4]⟩,
    ⟨some 6, .len (.tmp 5), none, [4]⟩,
    ⟨some 7, .pur (mkO (.binOp .add 3 (.const (.int .i64 1)) (.tmp 6) 3) 3), none, [4]⟩,
    ⟨some 8, .mov (.tmp 0), none, [0, 1, 2, 3]⟩,
    ⟨some 9, .pur (mkO (.binOp .add 3 (.tmp 7) (.tmp 8) 3) 3), none, []⟩,
    ⟨some 10, .pur (mkO (.binOp .add 3 (.tmp 9) (.const (.int .i64 3)) 3) 3), none, []⟩,
    ⟨some 3, .mov (.tmp 10), none, []⟩] false)
  (.seq (.seq (.region [⟨some 11, .mov (.tmp 3), none, []⟩,
    ⟨some 12, .pur (mkO (.binOp .leq 3 (.tmp 11) (.const (.int .i64 64)) 3) 4), none, []⟩] false)
  (.cond (.tmp 12)
    (.seq (.region [⟨some 2, .mov (.const (.int .i64 64)), none, []⟩] false)
    .ret)
    .skip))
  (.seq (.seq (.region [⟨some 13, .mov (.tmp 3), none, []⟩,
    ⟨some 14, .pur (mkO (.binOp .leq 3 (.tmp 13) (.const (.int .i64 256)) 3) 4), none, []⟩] false)
  (.cond (.tmp 14)
    (.seq (.region [⟨some 2, .mov (.const (.int .i64 256)), none, []⟩] false)
    .ret)
    .skip))
  (.seq (.region [⟨some 2, .mov (.const (.int .i64 1024)), none, []⟩] false)
  .ret)))))
def a52 : AFunc := ⟨15, c52, [.tmp 2], 1⟩

/-- blindstamp/blindstampref03.Bytes -/
def c53 : ACode :=
  (.seq (.region [⟨some 2, .mov (.const (.slice none 0 0)), none, []⟩] false)
  (.seq (.region [⟨some 3, .mov (.tmp 0), none, [4, 5, 6, 7, 8, 9, 10]⟩,
    ⟨some 4, .pur (mkO (.binOp .quo 93 (.tmp 3) (.const (.int .u32 65536)) 93) 93), none, [4, 5, 6, 7, 8, 9, 10]⟩,
    ⟨some 5, .pur (mkO (.binOp .rem 93 (.tmp 4) (.const (.int .u32 256)) 93) 93), none, [4, 5, 6, 7, 8, 9, 10]⟩,
    ⟨some 6, .pur (mkO (.convert 93 5 (.tmp 5)) 5), none, [4, 5, 6, 7, 8, 9, 10]⟩,
    ⟨some 7, .mov (.tmp 0), none, [0, 1, 2, 3, 8, 9, 10]⟩,
    ⟨some 8, .pur (mkO (.binOp .quo 93 (.tmp 7) (.const (.int .u32 256)) 93) 93), none, [0, 1, 2, 3, 8, 9, 10]⟩,
    ⟨some 9, .pur (mkO (.binOp .rem 93 (.tmp 8) (.const (.int .u32 256)) 93) 93), none, [0, 1, 2, 3, 8, 9, 10]⟩,
    ⟨some 10, .pur (mkO (.convert 93 5 (.tmp 9)) 5), none, [0, 1, 2, 3, 8, 9, 10]⟩,
    ⟨some 11, .mov (.tmp 0), none, [0, 1, 2, 3, 4, 5, 6, 7]⟩,
    ⟨some 12, .pur (mkO (.binOp .rem 93 (.tmp 11) (.const (.int .u32 256)) 93) 93), none, [0, 1, 2, 3, 4, 5, 6, 7]⟩,
    ⟨some 13, .pur (mkO (.convert 93 5 (.tmp 12)) 5), none, [0, 1, 2, 3, 4, 5, 6, 7]⟩,
    ⟨some 14, .bsl 5 1 (.int .u8 0) 3 [(0, 1, (.tmp 6)), (1, 1, (.tmp 10)), (2, 1, (.tmp 13))], none, []⟩,
    ⟨some 2, .mov (.tmp 14), none, []⟩] false)
  .ret))
def a53 : AFunc := ⟨15, c53, [.tmp 2], 1⟩

/-- blindstamp/blindstampref03.Of -/
def c54 : ACode :=
  (.seq (.region [⟨some 2, .mov (.const (.int .u32 0)), none, []⟩] false)
  (.seq (.region [⟨some 3, .mov (.const (.int .i64 11994318)), none, []⟩] false)
  (.seq (.seq (.region [⟨some 4, .mov (.const (.int .i64 0)), none, []⟩] false)
  (.block 0 (.loop (.seq (.seq (.region [⟨some 9, .mov (.tmp 4), none, [1, 2]⟩,
        ⟨some 10, .mov (.tmp 0), none, [0]⟩,
        ⟨some 11, .len (.tmp 10), none, [0]⟩,
        ⟨some 12, .pur (mkO (.binOp .lss 3 (.tmp 9) (.tmp 11) 3) 4), none, []⟩] false)
      (.cond (.tmp 12)
        .skip
        (.exit 0)))
      (.seq (.block 1 (.seq (.region [⟨some 15, .mov (.tmp 0), none, [1]⟩,
          ⟨some 16, .mov (.tmp 4), none, [0]⟩,
          ⟨some 17, .iad 1 (.tmp 15) (.tmp 16), none, []⟩,
          ⟨some 18, .load 1 false (.tmp 17), none, []⟩,
          ⟨some 19, .pur (mkO (.convert 5 3 (.tmp 18)) 3), none, []⟩,
          ⟨some 5, .mov (.tmp 19), none, []⟩] false)
        (.seq (.region [⟨some 6, .mov (.const (.int .i64 0)), none, []⟩] false)
        (.block 2 (.loop (.seq (.seq (.region [⟨some 20, .mov (.tmp 6), none, []⟩,
              ⟨some 21, .pur (mkO (.binOp .lss 3 (.tmp 20) (.const (.int .i64 8)) 3) 4), none, []⟩] false)
            (.cond (.tmp 21)
              .skip
              (.exit 2)))
            (.seq (.block 3 (.seq (.region [⟨some 24, .mov (.tmp 3), none, []⟩,
                ⟨some 25, .pur (mkO (.binOp .quo 3 (.tmp 24) (.const (.int .i64 8388608)) 3) 3), none, []⟩,
                ⟨some 7, .mov (.tmp 25), none, []⟩] false)
              (.seq (.region [⟨some 26, .mov (.tmp 5), none, []⟩,
                ⟨some 27, .pur (mkO (.binOp .quo 3 (.tmp 26) (.const (.int .i64 128)) 3) 3), none, []⟩,
                ⟨some 28, .pur (mkO (.binOp .rem 3 (.tmp 27) (.const (.int .i64 2)) 3) 3), none, []⟩,
                ⟨some 8, .mov (.tmp 28), none, []⟩] false)
              (.seq (.region [⟨some 29, .mov (.tmp 3), none, []⟩,
                ⟨some 30, .pur (mkO (.binOp .rem 3 (.tmp 29) (.const (.int .i64 8388608)) 3) 3), none, []⟩,
                ⟨some 31, .pur (mkO (.binOp .mul 3 (.tmp 30) (.const (.int .i64 2)) 3) 3), none, []⟩,
                ⟨some 3, .mov (.tmp 31), none, []⟩] false)
              (.seq (.region [⟨some 32, .mov (.tmp 5), none, []⟩,
                ⟨some 33, .pur (mkO (.binOp .mul 3 (.tmp 32) (.const (.int .i64 2)) 3) 3), none, []⟩,
                ⟨some 5, .mov (.tmp 33), none, []⟩] false)
              (.seq (.region [⟨some 34, .mov (.tmp 7), none, [1]⟩,
                ⟨some 35, .mov (.tmp 8), none, [0]⟩,
                ⟨some 36, .pur (mkO (.binOp .neq 3 (.tmp 34) (.tmp 35) 3) 4), none, []⟩] false)
              (.cond (.tmp 36)
                (.region [⟨some 37, .mov (.tmp 3), none, []⟩,
                  ⟨some 38, .pur (mkO (.binOp .xor 3 (.tmp 37) (.const (.int .i64 8801531)) 3) 3), none, []⟩,
                  ⟨some 3, .mov (.tmp 38), none, []⟩] false)
                .skip)))))))
            (.region [⟨some 22, .mov (.tmp 6), none, []⟩,
              ⟨some 23, .pur (mkO (.binOp .add 3 (.tmp 22) (.const (.int .i64 1)) 3) 3), none, []⟩,
              ⟨some 6, .mov (.tmp 23), none, []⟩] false))))))))
      (.region [⟨some 13, .mov (.tmp 4), none, []⟩,
        ⟨some 14, .pur (mkO (.binOp .add 3 (.tmp 13) (.const (.int .i64 1)) 3) 3), none, []⟩,
        ⟨some 4, .mov (.tmp 14), none, []⟩] false))))))
  (.seq (.region [⟨some 39, .mov (.tmp 3), none, []⟩,
    ⟨some 40, .pur (mkO (.convert 3 93 (.tmp 39)) 93), none, []⟩,
    ⟨some 2, .mov (.tmp 40), none, []⟩] false)
  .ret))))
def a54 : AFunc := ⟨41, c54, [.tmp 2], 0⟩

/-- blindstamp/sum.Right -/
def c55 : ACode :=
  (.seq (.region [⟨some 2, .mov (.const (.bool false)), none, []⟩] false)
  (.seq (.region [⟨some 4, .mov (.tmp 0), none, []⟩,
    ⟨some 5, .len (.tmp 4), none, []⟩,
    ⟨some 6, .pur (mkO (.binOp .sub 3 (.tmp 5) (.const (.int .i64 3)) 3) 3), none, []⟩,
    ⟨some 3, .mov (.tmp 6), none, []⟩] false)
  (.seq (.region [⟨some 7, .mov (.tmp 3), none, []⟩,
    ⟨some 8, .pur (mkO (.binOp .geq 3 (.tmp 7) (.const (.int .i64 0)) 3) 4), none, []⟩,
    ⟨some 9, .mov (.tmp 8), none, []⟩,
    ⟨some 10, .mov (.tmp 0), some (9, true), [4, 5, 7, 8, 9, 10, 11, 13]⟩,
    ⟨some 11, .mov (.tmp 3), some (9, true), [3, 5, 7, 8, 9, 10, 11, 13]⟩,
    ⟨some 12, .mov (.tmp 3), some (9, true), [3, 4, 7, 8, 9, 10, 11, 13]⟩,
    ⟨some 13, .slc 1 (.tmp 10) none (some (.tmp 11)) (some (.tmp 12)), some (9, true), [7, 8, 9, 10, 11, 13]⟩,
    ⟨some 14, .mov (.tmp 0), some (9, true), [3, 4, 5, 6, 8, 13]⟩,
    ⟨some 15, .mov (.tmp 3), some (9, true), [3, 4, 5, 6, 7, 13]⟩,
    ⟨some 16, .slc 1 (.tmp 14) none (some (.tmp 15)) none, some (9, true), [3, 4, 5, 6, 13]⟩,
    ⟨some 17, .call (.func 49) [(.tmp 16)], some (9, true), [3, 4, 5, 6, 13]⟩,
    ⟨some 18, .call (.func 48) [(.tmp 17)], some (9, true), [3, 4, 5, 6, 13]⟩,
    ⟨some 19, .app 5 1 1 (.int .u8 0) (.tmp 13) (.tmp 18), some (9, true), [13]⟩,
    ⟨some 20, .mov (.tmp 0), some (9, true), [3, 4, 5, 6, 7, 8, 9, 10, 11, 12]⟩,
    ⟨some 21, .call (.func 57) [(.tmp 19), (.tmp 20)], some (9, true), []⟩,
    ⟨some 22, .pick (.tmp 9) (.tmp 21) (.const (.bool false)), none, []⟩,
    ⟨some 2, .mov (.tmp 22), none, []⟩] true)
  .ret)))
def a55 : AFunc := ⟨23, c55, [.tmp 2], 1⟩

/-- blindstamp/num.Get -/
def c56 : ACode :=
  (.seq (.region [⟨some 2, .mov (.const (.int .i64 0)), none, []⟩,
    ⟨some 3, .mov (.const (.int .i64 0)), none, []⟩,
    ⟨some 4, .mov (.const (.int .i64 0)), none, []⟩] false)
  (.seq (.seq (.region [⟨some 8, .mov (.tmp 0), none, []⟩,
    ⟨some 9, .len (.tmp 8), none, []⟩,
    ⟨some 10, .pur (mkO (.binOp .eql 3 (.tmp 9) (.const (.int .i64 0)) 3) 4), none, []⟩] false)
  (.cond (.tmp 10)
    (.seq (.region [⟨some 2, .mov (.const (.int .i64 0)), none, []⟩,
      ⟨some 3, .mov (.const (.int .i64 0)), none, []⟩,
      ⟨some 4, .mov (.const (.int .i64 8)), none, []⟩] false)
    .ret)
    .skip))
  (.seq (.region [⟨some 11, .mov (.tmp 0), none, []⟩,
    ⟨some 12, .iad 1 (.tmp 11) (.const (.int .i64 0)), none, []⟩,
    ⟨some 13, .load 1 false (.tmp 12), none, []⟩,
    ⟨some 14, .pur (mkO (.convert 5 3 (.tmp 13)) 3), none, []⟩,
    ⟨some 15, .pur (mkO (.binOp .sub 3 (.tmp 14) (.const (.int .i64 248)) 3) 3), none, []⟩,
    ⟨some 16, .pur (mkO (.binOp .add 3 (.tmp 15) (.const (.int .i64 1)) 3) 3), none, []⟩,
    ⟨some 17, .pur (mkO (.call ⟨.builtin .max, #[(.const (.int .i64 0)), (.tmp 16)], #[3, 3]⟩) 3), none, []⟩,
    ⟨some 5, .mov (.tmp 17), none, []⟩] false)
  (.seq (.seq (.region [⟨some 18, .mov (.tmp 5), none, []⟩,
    ⟨some 19, .pur (mkO (.binOp .eql 3 (.tmp 18) (.const (.int .i64 0)) 3) 4), none, []⟩] false)
  (.cond (.tmp 19)
    (.seq (.region [⟨some 20, .mov (.tmp 0), none, []⟩,
      ⟨some 21, .iad 1 (.tmp 20) (.const (.int .i64 0)), none, []⟩,
      ⟨some 22, .load 1 false (.tmp 21), none, []⟩,
      ⟨some 23, .pur (mkO (.convert 5 3 (.tmp 22)) 3), none, []⟩,
      ⟨some 2, .mov (.tmp 23), none, []⟩,
      ⟨some 3, .mov (.const (.int .i64 1)), none, []⟩,
      ⟨some 4, .mov (.const (.int .i64 0)), none, []⟩] false)
    .ret)
    .skip))
  (.seq (.seq (.region [⟨some 24, .mov (.tmp 5), none, []⟩,
    ⟨some 25, .pur (mkO (.binOp .gtr 3 (.tmp 24) (.const (.int .i64 7)) 3) 4), none, []⟩,
    ⟨some 26, .mov (.tmp 25), none, []⟩,
    ⟨some 27, .mov (.tmp 0), some (26, false), [5]⟩,
    ⟨some 28, .len (.tmp 27), some (26, false), [5]⟩,
    ⟨some 29, .mov (.tmp 5), some (26, false), [3, 4]⟩,
    ⟨some 30, .pur (mkO (.binOp .leq 3 (.tmp 28) (.tmp 29) 3) 4), some (26, false), []⟩,
    ⟨some 31, .pick (.tmp 26) (.const (.bool true)) (.tmp 30), none, []⟩] false)
  (.cond (.tmp 31)
    (.seq (.region [⟨some 2, .mov (.const (.int .i64 0)), none, []⟩,
      ⟨some 3, .mov (.const (.int .i64 0)), none, []⟩,
      ⟨some 4, .mov (.const (.int .i64 8)), none, []⟩] false)
    .ret)
    .skip))
  (.seq (.seq (.region [⟨some 32, .mov (.tmp 0), none, [1, 2, 5]⟩,
    ⟨some 33, .mov (.tmp 5), none, [0, 5]⟩,
    ⟨some 34, .pur (mkO (.binOp .add 3 (.const (.int .i64 1)) (.tmp 33) 3) 3), none, [0, 5]⟩,
    ⟨some 35, .slc 1 (.tmp 32) (some (.const (.int .i64 1))) (some (.tmp 34)) none, none, [5]⟩,
    ⟨some 36, .len (.tmp 35), none, [5]⟩,
    ⟨some 37, .mov (.const (.int .i64 0)), none, [0, 1, 2, 3, 4]⟩] false)
  (.block 0 (.loop (.seq (.region [⟨some 38, .pur (mkO (.binOp .lss 3 (.tmp 37) (.tmp 36) 3) 0), none, []⟩] false)
      (.seq (.cond (.tmp 38)
        .skip
        (.exit 0))
      (.seq (.block 1 (.seq (.region [⟨some 39, .iad 1 (.tmp 35) (.tmp 37), none, []⟩,
          ⟨some 40, .load 1 false (.tmp 39), none, []⟩,
          ⟨some 7, .mov (.tmp 40), none, []⟩] false)
        (.region [⟨some 41, .mov (.tmp 2), none, [2, 3]⟩,
          ⟨some 42, .pur (mkO (.binOp .shl 3 (.tmp 41) (.const (.int .u64 8)) 102) 3), none, [2, 3]⟩,
          ⟨some 43, .mov (.tmp 7), none, [0, 1]⟩,
          ⟨some 44, .pur (mkO (.convert 5 3 (.tmp 43)) 3), none, [0, 1]⟩,
          ⟨some 45, .pur (mkO (.binOp .or 3 (.tmp 42) (.tmp 44) 3) 3), none, []⟩,
          ⟨some 2, .mov (.tmp 45), none, []⟩] false)))
      (.region [⟨some 46, .pur (mkO (.binOp .add 3 (.tmp 37) (.const (.int .i64 1)) 3) 3), none, []⟩,
        ⟨some 37, .mov (.tmp 46), none, []⟩] false)))))))
  (.seq (.seq (.region [⟨some 47, .mov (.tmp 2), none, [2, 3]⟩,
    ⟨some 48, .call (.func 64) [(.tmp 47)], none, [2, 3]⟩,
    ⟨some 49, .mov (.tmp 5), none, [0, 1]⟩,
    ⟨some 50, .pur (mkO (.binOp .add 3 (.const (.int .i64 1)) (.tmp 49) 3) 3), none, [0, 1]⟩,
    ⟨some 51, .pur (mkO (.binOp .neq 3 (.tmp 48) (.tmp 50) 3) 4), none, []⟩] false)
  (.cond (.tmp 51)
    (.seq (.region [⟨some 2, .mov (.const (.int .i64 0)), none, []⟩,
      ⟨some 3, .mov (.const (.int .i64 0)), none, []⟩,
      ⟨some 4, .mov (.const (.int .i64 8)), none, []⟩] false)
    .ret)
    .skip))
  (.seq (.region [⟨some 52, .mov (.tmp 2), none, [1, 2]⟩,
    ⟨some 53, .mov (.tmp 5), none, [0, 3]⟩,
    ⟨some 54, .pur (mkO (.binOp .add 3 (.const (.int .i64 1)) (.tmp 53) 3) 3), none, [0, 3]⟩,
    ⟨some 2, .mov (.tmp 52), none, [1, 2]⟩,
    ⟨some 3, .mov (.tmp 54), none, []⟩,
    ⟨some 4, .mov (.const (.int .i64 0)), none, []⟩] false)
  .ret))))))))
def a56 : AFunc := ⟨55, c56, [.tmp 2, .tmp 3, .tmp 4], 1⟩

/-- bytes.Equal -/
def c57 : ACode :=
  (.seq (.region [⟨some 4, .mov (.const (.bool false)), none, []⟩] false)
  (.seq (.region [⟨some 5, .mov (.tmp 0), none, [2, 3]⟩,
    ⟨some 6, .b2s (.tmp 5), none, [2, 3]⟩,
    ⟨some 7, .mov (.tmp 1), none, [0, 1]⟩,
    ⟨some 8, .b2s (.tmp 7), none, [0, 1]⟩,
    ⟨some 9, .pur (mkO (.binOp .eql 9 (.tmp 6) (.tmp 8) 9) 4), none, []⟩,
    ⟨some 4, .mov (.tmp 9), none, []⟩] false)
  .ret))
def a57 : AFunc := ⟨10, c57, [.tmp 4], 1⟩

/-- blindstamp/blindstampref02.Get -/
def c58 : ACode :=
  (.seq (.region [⟨some 2, .mov (.const (.int .i64 0)), none, []⟩,
    ⟨some 3, .mov (.const (.int .i64 0)), none, []⟩,
    ⟨some 4, .mov (.const (.int .i64 0)), none, []⟩] false)
  (.seq (.seq (.region [⟨some 5, .mov (.const (.int .i64 1)), none, []⟩] false)
  (.block 0 (.loop (.seq (.seq (.region [⟨some 8, .mov (.tmp 5), none, []⟩,
        ⟨some 9, .pur (mkO (.binOp .leq 3 (.tmp 8) (.const (.int .i64 8)) 3) 4), none, []⟩,
        ⟨some 10, .mov (.tmp 9), none, []⟩,
        ⟨some 11, .mov (.tmp 5), some (10, true), [4, 5]⟩,
        ⟨some 12, .mov (.tmp 0), some (10, true), [3]⟩,
        ⟨some 13, .len (.tmp 12), some (10, true), [3]⟩,
        ⟨some 14, .pur (mkO (.binOp .leq 3 (.tmp 11) (.tmp 13) 3) 4), some (10, true), []⟩,
        ⟨some 15, .pick (.tmp 10) (.tmp 14) (.const (.bool false)), none, []⟩] false)
      (.cond (.tmp 15)
        .skip
        (.exit 0)))
      (.seq (.block 1 (.seq (.region [⟨some 18, .mov (.tmp 0), none, []⟩,
          ⟨some 19, .iad 1 (.tmp 18) (.const (.int .i64 0)), none, []⟩,
          ⟨some 20, .load 1 false (.tmp 19), none, []⟩,
          ⟨some 21, .pur (mkO (.convert 5 3 (.tmp 20)) 3), none, []⟩,
          ⟨some 6, .mov (.tmp 21), none, []⟩] false)
        (.seq (.seq (.region [⟨some 22, .mov (.tmp 5), none, []⟩,
          ⟨some 23, .pur (mkO (.binOp .gtr 3 (.tmp 22) (.const (.int .i64 1)) 3) 4), none, []⟩] false)
        (.cond (.tmp 23)
          (.region [⟨some 6, .mov (.const (.int .i64 0)), none, []⟩] false)
          .skip))
        (.seq (.seq (.region [⟨some 7, .mov (.const (.int .i64 1)), none, []⟩] false)
        (.block 2 (.loop (.seq (.seq (.region [⟨some 24, .mov (.tmp 7), none, [1]⟩,
              ⟨some 25, .mov (.tmp 5), none, [0]⟩,
              ⟨some 26, .pur (mkO (.binOp .lss 3 (.tmp 24) (.tmp 25) 3) 4), none, []⟩] false)
            (.cond (.tmp 26)
              .skip
              (.exit 2)))
            (.seq (.block 3 (.region [⟨some 29, .mov (.tmp 6), none, [2, 3, 4, 5, 6]⟩,
                ⟨some 30, .pur (mkO (.binOp .mul 3 (.tmp 29) (.const (.int .i64 256)) 3) 3), none, [2, 3, 4, 5, 6]⟩,
                ⟨some 31, .mov (.tmp 0), none, [0, 1, 3]⟩,
                ⟨some 32, .mov (.tmp 7), none, [0, 1, 2]⟩,
                ⟨some 33, .iad 1 (.tmp 31) (.tmp 32), none, [0, 1]⟩,
                ⟨some 34, .load 1 false (.tmp 33), none, [0, 1]⟩,
                ⟨some 35, .pur (mkO (.convert 5 3 (.tmp 34)) 3), none, [0, 1]⟩,
                ⟨some 36, .pur (mkO (.binOp .add 3 (.tmp 30) (.tmp 35) 3) 3), none, []⟩,
                ⟨some 6, .mov (.tmp 36), none, []⟩] false))
            (.region [⟨some 27, .mov (.tmp 7), none, []⟩,
              ⟨some 28, .pur (mkO (.binOp .add 3 (.tmp 27) (.const (.int .i64 1)) 3) 3), none, []⟩,
              ⟨some 7, .mov (.tmp 28), none, []⟩] false))))))
        (.seq (.region [⟨some 37, .mov (.tmp 6), none, []⟩,
          ⟨some 38, .pur (mkO (.binOp .lss 3 (.tmp 37) (.const (.int .i64 72057594037927936)) 3) 4), none, []⟩,
          ⟨some 39, .mov (.tmp 38), none, []⟩,
          ⟨some 40, .mov (.tmp 6), some (39, true), [6, 7, 8, 9]⟩,
          ⟨some 41, .call (.func 51) [(.tmp 40)], some (39, true), [6, 7, 8, 9]⟩,
          ⟨some 42, .b2s (.tmp 41), some (39, true), [6, 7, 8, 9]⟩,
          ⟨some 43, .mov (.tmp 0), some (39, true), [3, 4, 5, 7]⟩,
          ⟨some 44, .mov (.tmp 5), some (39, true), [3, 4, 5, 6]⟩,
          ⟨some 45, .slc 1 (.tmp 43) none (some (.tmp 44)) none, some (39, true), [3, 4, 5]⟩,
          ⟨some 46, .b2s (.tmp 45), some (39, true), [3, 4, 5]⟩,
          ⟨some 47, .pur (mkO (.binOp .eql 9 (.tmp 42) (.tmp 46) 9) 4), some (39, true), []⟩,
          ⟨some 48, .pick (.tmp 39) (.tmp 47) (.const (.bool false)), none, []⟩] true)
        (.cond (.tmp 48)
          (.seq (.region [⟨some 49, .mov (.tmp 6), none, [1]⟩,
            ⟨some 50, .mov (.tmp 5), none, [0, 2]⟩,
            ⟨some 2, .mov (.tmp 49), none, [1]⟩,
            ⟨some 3, .mov (.tmp 50), none, []⟩,
            ⟨some 4, .mov (.const (.int .i64 0)), none, []⟩] false)
          .ret)
          .skip))))))
      (.region [⟨some 16, .mov (.tmp 5), none, []⟩,
        ⟨some 17, .pur (mkO (.binOp .add 3 (.tmp 16) (.const (.int .i64 1)) 3) 3), none, []⟩,
        ⟨some 5, .mov (.tmp 17), none, []⟩] false))))))
  (.seq (.region [⟨some 2, .mov (.const (.int .i64 0)), none, []⟩,
    ⟨some 3, .mov (.const (.int .i64 0)), none, []⟩,
    ⟨some 4, .mov (.const (.int .i64 8)), none, []⟩] false)
  .ret)))
def a58 : AFunc := ⟨51, c58, [.tmp 2, .tmp 3, .tmp 4], 1⟩

/-- (*blindstamp/link.under).acked$1 -/
def c59 : ACode :=
  (.seq (.region [⟨some 2, .box 34 (.tmp 0), none, [1]⟩,
    ⟨some 3, .mov (.const (.bool false)), none, [0]⟩] false)
  (.seq (.region [⟨some 4, .fad 0 (.tmp 2), none, [2]⟩,
    ⟨some 5, .load 1 false (.tmp 4), none, [2]⟩,
    ⟨some 6, .load 1 false (.tmp 1), none, [0, 1]⟩,
    ⟨some 7, .pur (mkO (.binOp .leq 3 (.tmp 5) (.tmp 6) 3) 4), none, []⟩,
    ⟨some 3, .mov (.tmp 7), none, []⟩] false)
  .ret))
def a59 : AFunc := ⟨8, c59, [.tmp 3], 0⟩

/-- slices.ContainsFunc[[]blindstamp/api.Item,blindstamp/api.Item] -/
def c60 : ACode :=
  (.seq (.region [⟨some 4, .mov (.const (.bool false)), none, []⟩] false)
  (.seq (.region [⟨some 5, .mov (.tmp 0), none, [1]⟩,
    ⟨some 6, .mov (.tmp 1), none, [0]⟩,
    ⟨some 7, .call (.func 66) [(.tmp 5), (.tmp 6)], none, []⟩,
    ⟨some 8, .pur (mkO (.binOp .geq 3 (.tmp 7) (.const (.int .i64 0)) 3) 4), none, []⟩,
    ⟨some 4, .mov (.tmp 8), none, []⟩] false)
  .ret))
def a60 : AFunc := ⟨9, c60, [.tmp 4], 0⟩

/-- slices.DeleteFunc[[]blindstamp/api.Item,blindstamp/api.Item] -/
def c61 : ACode :=
  (.seq (.region [⟨some 4, .mov (.const (.slice none 0 0)), none, []⟩] false)
  (.seq (.region [⟨some 8, .mov (.tmp 0), none, [1]⟩,
    ⟨some 9, .mov (.tmp 1), none, [0]⟩,
    ⟨some 10, .call (.func 66) [(.tmp 8), (.tmp 9)], none, []⟩,
    ⟨some 5, .mov (.tmp 10), none, []⟩] false)
  (.seq (.seq (.region [⟨some 11, .mov (.tmp 5), none, []⟩,
    ⟨some 12, .pur (mkO (.binOp .eql 3 (.tmp 11) (.const (.int .i64 (-1))) 3) 4), none, []⟩] false)
  (.cond (.tmp 12)
    (.seq (.region [⟨some 13, .mov (.tmp 0), none, []⟩,
      ⟨some 4, .mov (.tmp 13), none, []⟩] false)
    .ret)
    .skip))
  (.seq (.seq (.region [⟨some 14, .mov (.tmp 5), none, []⟩,
    ⟨some 15, .pur (mkO (.binOp .add 3 (.tmp 14) (.const (.int .i64 1)) 3) 3), none, []⟩,
    ⟨some 6, .mov (.tmp 15), none, []⟩] false)
  (.block 0 (.loop (.seq (.seq (.region [⟨some 16, .mov (.tmp 6), none, [1, 2]⟩,
        ⟨some 17, .mov (.tmp 0), none, [0]⟩,
        ⟨some 18, .len (.tmp 17), none, [0]⟩,
        ⟨some 19, .pur (mkO (.binOp .lss 3 (.tmp 16) (.tmp 18) 3) 4), none, []⟩] false)
      (.cond (.tmp 19)
        .skip
        (.exit 0)))
      (.seq (.block 1 (.seq (.region [⟨some 22, .mov (.tmp 0), none, [1, 4]⟩,
          ⟨some 23, .mov (.tmp 6), none, [0, 4]⟩,
          ⟨some 24, .iad 2 (.tmp 22) (.tmp 23), none, [4]⟩,
          ⟨some 25, .load 2 true (.tmp 24), none, [4]⟩,
          ⟨some 7, .alloc 34 (.agg #[(.int .i64 0), (.slice none 0 0)]), none, [0, 1, 2, 3]⟩,
          ⟨none, .store 2 (.tmp 7) (.tmp 25), none, []⟩] false)
        (.seq (.region [⟨some 26, .mov (.tmp 1), none, [1]⟩,
          ⟨some 27, .load 2 true (.tmp 7), none, [0]⟩,
          ⟨some 28, .call (.tmp 26) [(.tmp 27)], none, []⟩,
          ⟨some 29, .pur (mkO (.unOp .not 4 (.tmp 28)) 4), none, []⟩] false)
        (.cond (.tmp 29)
          (.seq (.region [⟨some 30, .mov (.tmp 0), none, [1, 2]⟩,
            ⟨some 31, .mov (.tmp 5), none, [0, 2]⟩,
            ⟨some 32, .load 2 true (.tmp 7), none, [0, 1]⟩,
            ⟨some 33, .iad 2 (.tmp 30) (.tmp 31), none, []⟩,
            ⟨none, .store 2 (.tmp 33) (.tmp 32), none, []⟩] false)
          (.region [⟨some 34, .mov (.tmp 5), none, []⟩,
            ⟨some 35, .pur (mkO (.binOp .add 3 (.tmp 34) (.const (.int .i64 1)) 3) 3), none, []⟩,
            ⟨some 5, .mov (.tmp 35), none, []⟩] false))
          .skip))))
      (.region [⟨some 20, .mov (.tmp 6), none, []⟩,
        ⟨some 21, .pur (mkO (.binOp .add 3 (.tmp 20) (.const (.int .i64 1)) 3) 3), none, []⟩,
        ⟨some 6, .mov (.tmp 21), none, []⟩] false))))))
  (.seq (.region [⟨some 36, .mov (.tmp 0), none, [1]⟩,
    ⟨some 37, .mov (.tmp 5), none, [0]⟩,
    ⟨some 38, .slc 2 (.tmp 36) (some (.tmp 37)) none none, none, []⟩,
    ⟨none, .clr 2 (.agg #[(.int .i64 0), (.slice none 0 0)]) (.tmp 38), none, []⟩] false)
  (.seq (.region [⟨some 39, .mov (.tmp 0), none, [1]⟩,
    ⟨some 40, .mov (.tmp 5), none, [0]⟩,
    ⟨some 41, .slc 2 (.tmp 39) none (some (.tmp 40)) none, none, []⟩,
    ⟨some 4, .mov (.tmp 41), none, []⟩] false)
  .ret))))))
def a61 : AFunc := ⟨42, c61, [.tmp 4], 0⟩

/-- slices.Clone[[]blindstamp/api.Item,blindstamp/api.Item] -/
def c62 : ACode :=
  (.seq (.region [⟨some 2, .mov (.const (.slice none 0 0)), none, []⟩] false)
  (.seq (.seq (.region [⟨some 3, .mov (.tmp 0), none, []⟩,
    ⟨some 4, .eqnil false 1 (.tmp 3) (mkO (.binOp .eql 22 (.tmp 3) (.const (.slice none 0 0)) 22) 4), none, []⟩] false)
  (.cond (.tmp 4)
    (.seq (.region [⟨some 2, .mov (.const (.slice none 0 0)), none, []⟩] false)
    .ret)
    .skip))
  (.seq (.region [⟨some 5, .bsl 34 2 (.agg #[(.int .i64 0), (.slice none 0 0)]) 0 [], none, [1]⟩,
    ⟨some 6, .mov (.tmp 0), none, [0]⟩,
    ⟨some 7, .app 34 2 32 (.agg #[(.int .i64 0), (.slice none 0 0)]) (.tmp 5) (.tmp 6), none, []⟩,
    ⟨some 2, .mov (.tmp 7), none, []⟩] false)
  .ret)))
def a62 : AFunc := ⟨8, c62, [.tmp 2], 0⟩

/-- blindstamp/frame.classes -/
def c63 : ACode :=
  (.seq (.region [⟨some 0, .alloc 109 (.agg #[(.int .i64 0), (.int .i64 0), (.int .i64 0)]), none, []⟩] false)
  (.seq (.region [⟨some 1, .build (.agg #[(.int .i64 0), (.int .i64 0), (.int .i64 0)]) [(0, 1, (.const (.int .i64 64))), (1, 1, (.const (.int .i64 256))), (2, 1, (.const (.int .i64 1024)))], none, []⟩,
    ⟨none, .store 3 (.tmp 0) (.tmp 1), none, []⟩] false)
  .ret))
def a63 : AFunc := ⟨2, c63, [.cell 0 3 true], 1⟩

/-- blindstamp/num.Size -/
def c64 : ACode :=
  (.seq (.region [⟨some 2, .mov (.const (.int .i64 0)), none, []⟩] false)
  (.seq (.block 0 (.seq (.region [⟨some 4, .mov (.tmp 0), none, []⟩,
      ⟨some 5, .pur (mkO (.binOp .lss 3 (.tmp 4) (.const (.int .i64 0)) 3) 4), none, []⟩,
      ⟨some 6, .mov (.tmp 5), none, []⟩,
      ⟨some 7, .mov (.tmp 0), some (6, false), []⟩,
      ⟨some 8, .pur (mkO (.binOp .geq 3 (.tmp 7) (.const (.int .i64 72057594037927936)) 3) 4), some (6, false), []⟩,
      ⟨some 9, .pick (.tmp 6) (.const (.bool true)) (.tmp 8), none, []⟩,
      ⟨some 3, .mov (.tmp 9), none, []⟩] false)
    (.cond (.tmp 3)
      (.seq (.region [⟨some 2, .mov (.const (.int .i64 0)), none, []⟩] false)
      .ret)
      (.seq (.region [⟨some 11, .mov (.tmp 0), none, []⟩,
        ⟨some 12, .pur (mkO (.binOp .lss 3 (.tmp 11) (.const (.int .i64 248)) 3) 4), none, []⟩,
        ⟨some 10, .mov (.tmp 12), none, []⟩] false)
      (.cond (.tmp 10)
        (.seq (.region [⟨some 2, .mov (.const (.int .i64 1)), none, []⟩] false)
        .ret)
        .skip)))))
  (.seq (.region [⟨some 13, .mov (.tmp 0), none, []⟩,
    ⟨some 14, .call (.func 67) [(.tmp 13)], none, []⟩,
    ⟨some 15, .pur (mkO (.binOp .add 3 (.const (.int .i64 1)) (.tmp 14) 3) 3), none, []⟩,
    ⟨some 2, .mov (.tmp 15), none, []⟩] false)
  .ret)))
def a64 : AFunc := ⟨16, c64, [.tmp 2], 1⟩

/-- blindstamp/num.join -/
def c65 : ACode :=
  (.seq (.region [⟨some 2, .mov (.const (.slice none 0 0)), none, []⟩] false)
  (.seq (.seq (.region [⟨some 5, .mov (.tmp 0), none, [2]⟩,
    ⟨some 6, .len (.tmp 5), none, [2]⟩,
    ⟨some 7, .mov (.const (.int .i64 0)), none, [0, 1]⟩] false)
  (.block 0 (.loop (.seq (.region [⟨some 8, .pur (mkO (.binOp .lss 3 (.tmp 7) (.tmp 6) 3) 0), none, []⟩] false)
      (.seq (.cond (.tmp 8)
        .skip
        (.exit 0))
      (.seq (.block 1 (.seq (.region [⟨some 9, .iad 1 (.tmp 5) (.tmp 7), none, []⟩,
          ⟨some 10, .load 1 false (.tmp 9), none, []⟩,
          ⟨some 4, .mov (.tmp 10), none, []⟩] false)
        (.region [⟨some 11, .mov (.tmp 2), none, [1]⟩,
          ⟨some 12, .mov (.tmp 4), none, [0]⟩,
          ⟨some 13, .app 5 1 1 (.int .u8 0) (.tmp 11) (.tmp 12), none, []⟩,
          ⟨some 2, .mov (.tmp 13), none, []⟩] false)))
      (.region [⟨some 14, .pur (mkO (.binOp .add 3 (.tmp 7) (.const (.int .i64 1)) 3) 3), none, []⟩,
        ⟨some 7, .mov (.tmp 14), none, []⟩] false)))))))
  (.seq (.region [⟨some 15, .mov (.tmp 2), none, []⟩,
    ⟨some 2, .mov (.tmp 15), none, []⟩] false)
  .ret)))
def a65 : AFunc := ⟨16, c65, [.tmp 2], 1⟩

/-- slices.IndexFunc[[]blindstamp/api.Item,blindstamp/api.Item] -/
def c66 : ACode :=
  (.seq (.region [⟨some 4, .mov (.const (.int .i64 0)), none, []⟩] false)
  (.seq (.seq (.region [⟨some 6, .mov (.tmp 0), none, [2]⟩,
    ⟨some 7, .len (.tmp 6), none, [2]⟩,
    ⟨some 8, .mov (.const (.int .i64 0)), none, [0, 1]⟩] false)
  (.block 0 (.loop (.seq (.region [⟨some 9, .pur (mkO (.binOp .lss 3 (.tmp 8) (.tmp 7) 3) 0), none, []⟩] false)
      (.seq (.cond (.tmp 9)
        .skip
        (.exit 0))
      (.seq (.block 1 (.seq (.region [⟨some 10, .mov (.tmp 8), none, []⟩,
          ⟨some 5, .mov (.tmp 10), none, []⟩] false)
        (.seq (.region [⟨some 11, .mov (.tmp 1), none, [1, 2, 3, 4]⟩,
          ⟨some 12, .mov (.tmp 0), none, [0, 2]⟩,
          ⟨some 13, .mov (.tmp 5), none, [0, 1]⟩,
          ⟨some 14, .iad 2 (.tmp 12) (.tmp 13), none, [0]⟩,
          ⟨some 15, .load 2 true (.tmp 14), none, [0]⟩,
          ⟨some 16, .call (.tmp 11) [(.tmp 15)], none, []⟩] false)
        (.cond (.tmp 16)
          (.seq (.region [⟨some 17, .mov (.tmp 5), none, []⟩,
            ⟨some 4, .mov (.tmp 17), none, []⟩] false)
          .ret)
          .skip))))
      (.region [⟨some 18, .pur (mkO (.binOp .add 3 (.tmp 8) (.const (.int .i64 1)) 3) 3), none, []⟩,
        ⟨some 8, .mov (.tmp 18), none, []⟩] false)))))))
  (.seq (.region [⟨some 4, .mov (.const (.int .i64 (-1))), none, []⟩] false)
  .ret)))
def a66 : AFunc := ⟨19, c66, [.tmp 4], 0⟩

/-- blindstamp/num.follow -/
def c67 : ACode :=
  (.seq (.region [⟨some 2, .mov (.const (.int .i64 0)), none, []⟩] false)
  (.scope (.seq .label
  (.seq (.block 0 (.loop (.block 1 (.seq (.region [⟨some 3, .mov (.tmp 2), none, []⟩,
          ⟨some 4, .pur (mkO (.binOp .add 3 (.tmp 3) (.const (.int .i64 1)) 3) 3), none, []⟩,
          ⟨some 2, .mov (.tmp 4), none, []⟩] false)
        (.seq (.region [⟨some 5, .mov (.tmp 0), none, []⟩,
          ⟨some 6, .pur (mkO (.binOp .shr 3 (.tmp 5) (.const (.int .u64 8)) 102) 3), none, []⟩,
          ⟨some 0, .mov (.tmp 6), none, []⟩] false)
        (.seq (.region [⟨some 7, .mov (.tmp 0), none, []⟩,
          ⟨some 8, .pur (mkO (.binOp .eql 3 (.tmp 7) (.const (.int .i64 0)) 3) 4), none, []⟩] false)
        (.cond (.tmp 8)
          (.exit 0)
          .skip)))))))
  (.seq (.region [⟨some 9, .mov (.tmp 2), none, []⟩,
    ⟨some 2, .mov (.tmp 9), none, []⟩] false)
  .ret)))))
def a67 : AFunc := ⟨10, c67, [.tmp 2], 1⟩

def tbl : List (Option AFunc) := [none, none, some a2, some a3, some a4, some a5, some a6, some a7, some a8, some a9, some a10, some a11, some a12, some a13, some a14, some a15, some a16, some a17, some a18, some a19, some a20, some a21, some a22, some a23, some a24, some a25, some a26, some a27, some a28, some a29, some a30, some a31, some a32, some a33, some a34, some a35, some a36, some a37, some a38, some a39, some a40, some a41, some a42, some a43, some a44, some a45, some a46, some a47, some a48, some a49, some a50, some a51, some a52, some a53, some a54, some a55, some a56, some a57, some a58, some a59, some a60, some a61, some a62, some a63, some a64, some a65, some a66, some a67]
theorem tf2 : fsT tbl 2 = some a2 := rfl
theorem tf3 : fsT tbl 3 = some a3 := rfl
theorem tf4 : fsT tbl 4 = some a4 := rfl
theorem tf5 : fsT tbl 5 = some a5 := rfl
theorem tf6 : fsT tbl 6 = some a6 := rfl
theorem tf7 : fsT tbl 7 = some a7 := rfl
theorem tf8 : fsT tbl 8 = some a8 := rfl
theorem tf9 : fsT tbl 9 = some a9 := rfl
theorem tf10 : fsT tbl 10 = some a10 := rfl
theorem tf11 : fsT tbl 11 = some a11 := rfl
theorem tf12 : fsT tbl 12 = some a12 := rfl
theorem tf13 : fsT tbl 13 = some a13 := rfl
theorem tf14 : fsT tbl 14 = some a14 := rfl
theorem tf15 : fsT tbl 15 = some a15 := rfl
theorem tf16 : fsT tbl 16 = some a16 := rfl
theorem tf17 : fsT tbl 17 = some a17 := rfl
theorem tf18 : fsT tbl 18 = some a18 := rfl
theorem tf19 : fsT tbl 19 = some a19 := rfl
theorem tf20 : fsT tbl 20 = some a20 := rfl
theorem tf21 : fsT tbl 21 = some a21 := rfl
theorem tf22 : fsT tbl 22 = some a22 := rfl
theorem tf23 : fsT tbl 23 = some a23 := rfl
theorem tf24 : fsT tbl 24 = some a24 := rfl
theorem tf25 : fsT tbl 25 = some a25 := rfl
theorem tf26 : fsT tbl 26 = some a26 := rfl
theorem tf27 : fsT tbl 27 = some a27 := rfl
theorem tf28 : fsT tbl 28 = some a28 := rfl
theorem tf29 : fsT tbl 29 = some a29 := rfl
theorem tf30 : fsT tbl 30 = some a30 := rfl
theorem tf31 : fsT tbl 31 = some a31 := rfl
theorem tf32 : fsT tbl 32 = some a32 := rfl
theorem tf33 : fsT tbl 33 = some a33 := rfl
theorem tf34 : fsT tbl 34 = some a34 := rfl
theorem tf35 : fsT tbl 35 = some a35 := rfl
theorem tf36 : fsT tbl 36 = some a36 := rfl
theorem tf37 : fsT tbl 37 = some a37 := rfl
theorem tf38 : fsT tbl 38 = some a38 := rfl
theorem tf39 : fsT tbl 39 = some a39 := rfl
theorem tf40 : fsT tbl 40 = some a40 := rfl
theorem tf41 : fsT tbl 41 = some a41 := rfl
theorem tf42 : fsT tbl 42 = some a42 := rfl
theorem tf43 : fsT tbl 43 = some a43 := rfl
theorem tf44 : fsT tbl 44 = some a44 := rfl
theorem tf45 : fsT tbl 45 = some a45 := rfl
theorem tf46 : fsT tbl 46 = some a46 := rfl
theorem tf47 : fsT tbl 47 = some a47 := rfl
theorem tf48 : fsT tbl 48 = some a48 := rfl
theorem tf49 : fsT tbl 49 = some a49 := rfl
theorem tf50 : fsT tbl 50 = some a50 := rfl
theorem tf51 : fsT tbl 51 = some a51 := rfl
theorem tf52 : fsT tbl 52 = some a52 := rfl
theorem tf53 : fsT tbl 53 = some a53 := rfl
theorem tf54 : fsT tbl 54 = some a54 := rfl
theorem tf55 : fsT tbl 55 = some a55 := rfl
theorem tf56 : fsT tbl 56 = some a56 := rfl
theorem tf57 : fsT tbl 57 = some a57 := rfl
theorem tf58 : fsT tbl 58 = some a58 := rfl
theorem tf59 : fsT tbl 59 = some a59 := rfl
theorem tf60 : fsT tbl 60 = some a60 := rfl
theorem tf61 : fsT tbl 61 = some a61 := rfl
theorem tf62 : fsT tbl 62 = some a62 := rfl
theorem tf63 : fsT tbl 63 = some a63 := rfl
theorem tf64 : fsT tbl 64 = some a64 := rfl
theorem tf65 : fsT tbl 65 = some a65 := rfl
theorem tf66 : fsT tbl 66 = some a66 := rfl
theorem tf67 : fsT tbl 67 = some a67 := rfl
end Go.Proofs.Ytbemomagabjbnaa
