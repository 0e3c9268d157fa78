/-
  The program's functions, as the executor has them: the table.
-/
import Derived.Test.YtggbpfdbcibifaaRows
import Derived.Test.YtggbpfdbcibifaaEe
set_option linter.unusedSimpArgs false
set_option linter.unusedVariables false
set_option maxRecDepth 100000
namespace Go.Proofs.Ytggbpfdbcibifaa
open Go Go.Ax
/-- blindstamp/blindstamplaw21.StreamHides -/
def c4 : ACode :=
  (.seq (.region [⟨some 5, .box 29 (.tmp 1), none, [1]⟩,
    ⟨some 8, .mov (.const (.bool false)), none, [0]⟩] false)
  (.seq (.region [⟨some 26, .call (.func 9) [], none, []⟩,
    ⟨some 9, .mov (.tmp 26), none, []⟩] false)
  (.seq (.seq (.region [⟨some 27, .mov (.tmp 0), none, []⟩,
    ⟨some 28, .call (.func 10) [(.tmp 27), (.const (.int .i64 20))], none, []⟩,
    ⟨some 29, .mov (.tmp 28), none, []⟩,
    ⟨some 30, .mov (.tmp 3), some (29, false), []⟩,
    ⟨some 31, .len (.tmp 30), some (29, false), []⟩,
    ⟨some 32, .pur (mkO (.binOp .lss 3 (.tmp 31) (.const (.int .i64 64)) 3) 4), some (29, false), []⟩,
    ⟨some 33, .pick (.tmp 29) (.const (.bool true)) (.tmp 32), none, []⟩,
    ⟨some 34, .mov (.tmp 33), none, []⟩,
    ⟨some 35, .mov (.tmp 9), some (34, false), []⟩,
    ⟨some 36, .pur (mkO (.unOp .not 4 (.tmp 35)) 4), some (34, false), []⟩,
    ⟨some 37, .pick (.tmp 34) (.const (.bool true)) (.tmp 36), none, []⟩] false)
  (.cond (.tmp 37)
    (.seq (.region [⟨some 38, .mov (.tmp 9), none, []⟩,
      ⟨some 8, .mov (.tmp 38), none, []⟩] false)
    .ret)
    .skip))
  (.seq (.region [⟨some 40, .mov (.tmp 0), none, [1, 2]⟩,
    ⟨some 41, .load 2 true (.tmp 5), none, [0, 2]⟩,
    ⟨some 42, .mov (.tmp 2), none, [0, 1]⟩,
    ⟨some 43, .call (.func 5) [(.tmp 40), (.tmp 41), (.tmp 42)], none, []⟩,
    ⟨some 39, .mov (.tmp 43), none, []⟩,
    ⟨some 44, .ext (.tmp 39) 0, none, [6, 7]⟩,
    ⟨some 45, .ext (.tmp 39) 1, none, [5, 7, 8]⟩,
    ⟨some 46, .ext (.tmp 39) 2, none, [5, 6, 8, 9]⟩,
    ⟨some 10, .mov (.tmp 44), none, [6, 7]⟩,
    ⟨some 11, .mov (.tmp 45), none, [7]⟩,
    ⟨some 12, .mov (.tmp 46), none, []⟩] false)
  (.seq (.region [⟨some 48, .mov (.tmp 0), none, [1]⟩,
    ⟨some 49, .load 2 true (.tmp 5), none, [0]⟩,
    ⟨some 50, .call (.func 11) [(.tmp 48), (.tmp 49)], none, []⟩,
    ⟨some 47, .mov (.tmp 50), none, []⟩,
    ⟨some 51, .ext (.tmp 47) 0, none, [5]⟩,
    ⟨some 52, .ext (.tmp 47) 1, none, [4, 6]⟩,
    ⟨some 13, .mov (.tmp 51), none, [5]⟩,
    ⟨some 14, .mov (.tmp 52), none, []⟩] false)
  (.seq (.seq (.region [⟨some 53, .mov (.tmp 12), none, []⟩,
    ⟨some 54, .pur (mkO (.binOp .neq 23 (.tmp 53) (.const (.int .i64 0)) 23) 4), none, []⟩,
    ⟨some 55, .mov (.tmp 54), none, []⟩,
    ⟨some 56, .mov (.tmp 14), some (55, false), []⟩,
    ⟨some 57, .pur (mkO (.binOp .neq 23 (.tmp 56) (.const (.int .i64 0)) 23) 4), some (55, false), []⟩,
    ⟨some 58, .pick (.tmp 55) (.const (.bool true)) (.tmp 57), none, []⟩] false)
  (.cond (.tmp 58)
    (.seq (.region [⟨some 59, .mov (.tmp 9), none, []⟩,
      ⟨some 60, .mov (.tmp 59), none, []⟩,
      ⟨some 61, .mov (.tmp 10), some (60, true), []⟩,
      ⟨some 62, .len (.tmp 61), some (60, true), []⟩,
      ⟨some 63, .pur (mkO (.binOp .eql 3 (.tmp 62) (.const (.int .i64 0)) 3) 4), some (60, true), []⟩,
      ⟨some 64, .pick (.tmp 60) (.tmp 63) (.const (.bool false)), none, []⟩,
      ⟨some 8, .mov (.tmp 64), none, []⟩] false)
    .ret)
    .skip))
  (.seq (.region [⟨some 66, .mov (.tmp 13), none, [1, 2]⟩,
    ⟨some 67, .load 2 true (.tmp 5), none, [0, 2]⟩,
    ⟨some 68, .mov (.tmp 2), none, [0, 1]⟩,
    ⟨some 69, .call (.func 5) [(.tmp 66), (.tmp 67), (.tmp 68)], none, []⟩,
    ⟨some 65, .mov (.tmp 69), none, []⟩,
    ⟨some 70, .ext (.tmp 65) 0, none, [6, 7]⟩,
    ⟨some 71, .ext (.tmp 65) 1, none, [5, 7, 8]⟩,
    ⟨some 72, .ext (.tmp 65) 2, none, [5, 6, 8, 9]⟩,
    ⟨some 15, .mov (.tmp 70), none, [6, 7]⟩,
    ⟨some 16, .mov (.tmp 71), none, [7]⟩,
    ⟨some 17, .mov (.tmp 72), none, []⟩] false)
  (.seq (.seq (.region [⟨some 73, .mov (.tmp 17), none, []⟩,
    ⟨some 74, .pur (mkO (.binOp .neq 23 (.tmp 73) (.const (.int .i64 0)) 23) 4), none, []⟩,
    ⟨some 75, .mov (.tmp 74), none, []⟩,
    ⟨some 76, .mov (.tmp 11), some (75, false), [4]⟩,
    ⟨some 77, .mov (.tmp 16), some (75, false), [3]⟩,
    ⟨some 78, .pur (mkO (.binOp .neq 3 (.tmp 76) (.tmp 77) 3) 4), some (75, false), []⟩,
    ⟨some 79, .pick (.tmp 75) (.const (.bool true)) (.tmp 78), none, []⟩,
    ⟨some 80, .mov (.tmp 79), none, []⟩,
    ⟨some 81, .mov (.tmp 10), some (80, false), [9]⟩,
    ⟨some 82, .mov (.tmp 15), some (80, false), [8]⟩,
    ⟨some 83, .call (.func 12) [(.tmp 81), (.tmp 82)], some (80, false), []⟩,
    ⟨some 84, .pur (mkO (.unOp .not 4 (.tmp 83)) 4), some (80, false), []⟩,
    ⟨some 85, .pick (.tmp 80) (.const (.bool true)) (.tmp 84), none, []⟩] false)
  (.cond (.tmp 85)
    (.seq (.region [⟨some 8, .mov (.const (.bool false)), none, []⟩] false)
    .ret)
    .skip))
  (.seq (.region [⟨some 86, .mov (.tmp 0), none, []⟩,
    ⟨some 87, .call (.func 13) [(.tmp 86)], none, []⟩,
    ⟨some 18, .mov (.tmp 87), none, []⟩] false)
  (.seq (.seq (.region [⟨some 19, .mov (.const (.int .i64 0)), none, []⟩] false)
  (.block 0 (.loop (.seq (.seq (.region [⟨some 88, .mov (.tmp 19), none, [1, 2]⟩,
        ⟨some 89, .mov (.tmp 18), none, [0]⟩,
        ⟨some 90, .len (.tmp 89), none, [0]⟩,
        ⟨some 91, .pur (mkO (.binOp .lss 3 (.tmp 88) (.tmp 90) 3) 4), none, []⟩] false)
      (.cond (.tmp 91)
        .skip
        (.exit 0)))
      (.seq (.block 1 (.seq (.region [⟨some 20, .mov (.const (.int .i64 0)), none, []⟩] false)
        (.block 2 (.loop (.seq (.seq (.region [⟨some 94, .mov (.tmp 20), none, [1, 2, 3, 4, 5, 6]⟩,
              ⟨some 95, .mov (.tmp 18), none, [0, 2]⟩,
              ⟨some 96, .mov (.tmp 19), none, [0, 1]⟩,
              ⟨some 97, .iad 17 (.tmp 95) (.tmp 96), none, [0]⟩,
              ⟨some 98, .fad 16 (.tmp 97), none, [0]⟩,
              ⟨some 99, .load 1 false (.tmp 98), none, [0]⟩,
              ⟨some 100, .len (.tmp 99), none, [0]⟩,
              ⟨some 101, .pur (mkO (.binOp .lss 3 (.tmp 94) (.tmp 100) 3) 4), none, []⟩,
              ⟨some 102, .mov (.tmp 101), none, []⟩,
              ⟨some 103, .mov (.tmp 20), some (102, true), [10, 11]⟩,
              ⟨some 104, .mov (.tmp 3), some (102, true), [9]⟩,
              ⟨some 105, .len (.tmp 104), some (102, true), [9]⟩,
              ⟨some 106, .pur (mkO (.binOp .lss 3 (.tmp 103) (.tmp 105) 3) 4), some (102, true), []⟩,
              ⟨some 107, .pick (.tmp 102) (.tmp 106) (.const (.bool false)), none, []⟩] false)
            (.cond (.tmp 107)
              .skip
              (.exit 2)))
            (.seq (.block 3 (.seq (.region [⟨some 111, .mov (.tmp 0), none, [1, 2, 3, 4, 5, 6, 7, 8, 9, 10, 11, 12, 13, 14, 15, 16]⟩,
                ⟨some 112, .mov (.tmp 18), none, [0, 2, 6, 7, 8, 9, 10, 11, 12, 13, 14, 16]⟩,
                ⟨some 113, .mov (.tmp 19), none, [0, 1, 6, 7, 8, 9, 10, 11, 12, 13, 14, 16]⟩,
                ⟨some 114, .iad 17 (.tmp 112) (.tmp 113), none, [0, 6, 7, 8, 9, 10, 11, 12, 13, 14, 16]⟩,
                ⟨some 115, .fad 1 (.tmp 114), none, [0, 6, 7, 8, 9, 10, 11, 12, 13, 14, 16]⟩,
                ⟨some 116, .load 3 true (.tmp 115), none, [0, 6, 7, 8, 9, 10, 11, 12, 13, 14, 16]⟩,
                ⟨some 117, .mov (.tmp 18), none, [0, 1, 2, 3, 4, 5, 7, 13, 16]⟩,
                ⟨some 118, .mov (.tmp 19), none, [0, 1, 2, 3, 4, 5, 6, 13, 16]⟩,
                ⟨some 119, .iad 17 (.tmp 117) (.tmp 118), none, [0, 1, 2, 3, 4, 5, 13, 16]⟩,
                ⟨some 120, .fad 5 (.tmp 119), none, [0, 1, 2, 3, 4, 5, 13, 16]⟩,
                ⟨some 121, .fad 0 (.tmp 120), none, [0, 1, 2, 3, 4, 5, 13, 16]⟩,
                ⟨some 122, .fad 3 (.tmp 121), none, [0, 1, 2, 3, 4, 5, 13, 16]⟩,
                ⟨some 123, .load 1 false (.tmp 122), none, [0, 1, 2, 3, 4, 5, 13, 16]⟩,
                ⟨some 124, .mov (.tmp 20), none, [0, 1, 2, 3, 4, 5, 6, 7, 8, 9, 10, 11, 12, 16]⟩,
                ⟨some 125, .pur (mkO (.binOp .add 3 (.tmp 123) (.tmp 124) 3) 3), none, [0, 1, 2, 3, 4, 5, 16]⟩,
                ⟨some 126, .build (.agg #[(.int .u8 0), (.int .u32 0), (.int .u8 0), (.int .i64 0)]) [(0, 3, (.tmp 116)), (3, 1, (.tmp 125))], none, [0, 16]⟩,
                ⟨some 127, .load 2 true (.tmp 5), none, [0, 1, 2, 3, 4, 5, 6, 7, 8, 9, 10, 11, 12, 13, 14, 15]⟩,
                ⟨some 128, .call (.func 14) [(.tmp 111), (.tmp 126), (.tmp 127)], none, []⟩,
                ⟨some 110, .mov (.tmp 128), none, []⟩,
                ⟨some 129, .ext (.tmp 110) 0, none, [20]⟩,
                ⟨some 130, .ext (.tmp 110) 1, none, [19, 21]⟩,
                ⟨some 21, .mov (.tmp 129), none, [20]⟩,
                ⟨some 22, .mov (.tmp 130), none, []⟩] true)
              (.seq (.region [⟨some 131, .mov (.tmp 22), none, []⟩,
                ⟨some 132, .pur (mkO (.binOp .eql 23 (.tmp 131) (.const (.int .i64 0)) 23) 4), none, []⟩,
                ⟨some 133, .mov (.tmp 132), none, []⟩,
                ⟨some 134, .mov (.tmp 21), some (133, true), []⟩,
                ⟨some 135, .pur (mkO (.unOp .not 4 (.tmp 134)) 4), some (133, true), []⟩,
                ⟨some 136, .pick (.tmp 133) (.tmp 135) (.const (.bool false)), none, []⟩] false)
              (.cond (.tmp 136)
                (.region [⟨some 137, .mov (.tmp 18), none, [1, 5, 6, 7, 8, 9]⟩,
                  ⟨some 138, .mov (.tmp 19), none, [0, 5, 6, 7, 8, 9]⟩,
                  ⟨some 139, .iad 17 (.tmp 137) (.tmp 138), none, [5, 6, 7, 8, 9]⟩,
                  ⟨some 140, .fad 16 (.tmp 139), none, [5, 6, 7, 8, 9]⟩,
                  ⟨some 141, .load 1 false (.tmp 140), none, [5, 6, 7, 8, 9]⟩,
                  ⟨some 142, .mov (.tmp 20), none, [0, 1, 2, 3, 4, 6, 7, 8, 9]⟩,
                  ⟨some 143, .mov (.tmp 3), none, [0, 1, 2, 3, 4, 5, 7]⟩,
                  ⟨some 144, .mov (.tmp 20), none, [0, 1, 2, 3, 4, 5, 6]⟩,
                  ⟨some 145, .iad 1 (.tmp 143) (.tmp 144), none, [0, 1, 2, 3, 4, 5]⟩,
                  ⟨some 146, .load 1 false (.tmp 145), none, [0, 1, 2, 3, 4, 5]⟩,
                  ⟨some 147, .iad 1 (.tmp 141) (.tmp 142), none, []⟩,
                  ⟨none, .store 1 (.tmp 147) (.tmp 146), none, []⟩] true)
                .skip))))
            (.region [⟨some 108, .mov (.tmp 20), none, []⟩,
              ⟨some 109, .pur (mkO (.binOp .add 3 (.tmp 108) (.const (.int .i64 1)) 3) 3), none, []⟩,
              ⟨some 20, .mov (.tmp 109), none, []⟩] false)))))))
      (.region [⟨some 92, .mov (.tmp 19), none, []⟩,
        ⟨some 93, .pur (mkO (.binOp .add 3 (.tmp 92) (.const (.int .i64 1)) 3) 3), none, []⟩,
        ⟨some 19, .mov (.tmp 93), none, []⟩] false))))))
  (.seq (.seq (.region [⟨some 148, .mov (.tmp 18), none, []⟩,
    ⟨some 149, .call (.func 15) [(.tmp 148)], none, []⟩,
    ⟨some 150, .pur (mkO (.binOp .neq 23 (.tmp 149) (.const (.int .i64 0)) 23) 4), none, []⟩] false)
  (.cond (.tmp 150)
    (.seq (.region [⟨some 151, .mov (.tmp 9), none, []⟩,
      ⟨some 8, .mov (.tmp 151), none, []⟩] false)
    .ret)
    .skip))
  (.seq (.region [⟨some 153, .mov (.tmp 18), none, [1, 2]⟩,
    ⟨some 154, .load 2 true (.tmp 5), none, [0, 2]⟩,
    ⟨some 155, .mov (.tmp 2), none, [0, 1]⟩,
    ⟨some 156, .call (.func 5) [(.tmp 153), (.tmp 154), (.tmp 155)], none, []⟩,
    ⟨some 152, .mov (.tmp 156), none, []⟩,
    ⟨some 157, .ext (.tmp 152) 0, none, [6, 7]⟩,
    ⟨some 158, .ext (.tmp 152) 1, none, [5, 7, 8]⟩,
    ⟨some 159, .ext (.tmp 152) 2, none, [5, 6, 8, 9]⟩,
    ⟨some 23, .mov (.tmp 157), none, [6, 7]⟩,
    ⟨some 24, .mov (.tmp 158), none, [7]⟩,
    ⟨some 25, .mov (.tmp 159), none, []⟩] false)
  (.seq (.region [⟨some 160, .mov (.tmp 9), none, []⟩,
    ⟨some 161, .mov (.tmp 160), none, []⟩,
    ⟨some 162, .mov (.tmp 25), some (161, true), []⟩,
    ⟨some 163, .pur (mkO (.binOp .eql 23 (.tmp 162) (.const (.int .i64 0)) 23) 4), some (161, true), []⟩,
    ⟨some 164, .pick (.tmp 161) (.tmp 163) (.const (.bool false)), none, []⟩,
    ⟨some 165, .mov (.tmp 164), none, []⟩,
    ⟨some 166, .mov (.tmp 24), some (165, true), [7]⟩,
    ⟨some 167, .mov (.tmp 11), some (165, true), [6]⟩,
    ⟨some 168, .pur (mkO (.binOp .eql 3 (.tmp 166) (.tmp 167) 3) 4), some (165, true), []⟩,
    ⟨some 169, .pick (.tmp 165) (.tmp 168) (.const (.bool false)), none, []⟩,
    ⟨some 170, .mov (.tmp 169), none, []⟩,
    ⟨some 171, .mov (.tmp 10), some (170, true), [12]⟩,
    ⟨some 172, .mov (.tmp 23), some (170, true), [11]⟩,
    ⟨some 173, .call (.func 12) [(.tmp 171), (.tmp 172)], some (170, true), []⟩,
    ⟨some 174, .pick (.tmp 170) (.tmp 173) (.const (.bool false)), none, []⟩,
    ⟨some 8, .mov (.tmp 174), none, []⟩] false)
  .ret)))))))))))))
def a4 : AFunc := ⟨175, c4, [.tmp 8], 1⟩

/-- blindstamp/stream.Page -/
def c5 : ACode :=
  (.seq (.region [⟨some 4, .box 29 (.tmp 1), none, [1, 2, 3]⟩,
    ⟨some 6, .mov (.const (.slice none 0 0)), none, [0]⟩,
    ⟨some 7, .mov (.const (.int .i64 0)), none, [0]⟩,
    ⟨some 8, .mov (.const (.int .i64 0)), none, [0]⟩] false)
  (.seq (.region [⟨some 14, .mov (.tmp 0), none, [1]⟩,
    ⟨some 15, .load 2 true (.tmp 4), none, [0]⟩,
    ⟨some 16, .call (.func 11) [(.tmp 14), (.tmp 15)], none, []⟩,
    ⟨some 13, .mov (.tmp 16), none, []⟩,
    ⟨some 17, .ext (.tmp 13) 0, none, [5]⟩,
    ⟨some 18, .ext (.tmp 13) 1, none, [4, 6]⟩,
    ⟨some 9, .mov (.tmp 17), none, [5]⟩,
    ⟨some 8, .mov (.tmp 18), none, []⟩] false)
  (.seq (.seq (.region [⟨some 19, .mov (.tmp 8), none, []⟩,
    ⟨some 20, .pur (mkO (.binOp .neq 23 (.tmp 19) (.const (.int .i64 0)) 23) 4), none, []⟩] false)
  (.cond (.tmp 20)
    (.seq (.region [⟨some 21, .mov (.tmp 8), none, [1, 2]⟩,
      ⟨some 6, .mov (.const (.slice none 0 0)), none, [0]⟩,
      ⟨some 7, .mov (.const (.int .i64 0)), none, [0]⟩,
      ⟨some 8, .mov (.tmp 21), none, []⟩] false)
    .ret)
    .skip))
  (.seq (.seq (.region [⟨some 22, .mov (.tmp 9), none, []⟩,
    ⟨some 23, .len (.tmp 22), none, []⟩,
    ⟨some 7, .mov (.tmp 23), none, []⟩] false)
  (.seq (.region [⟨some 24, .mov (.tmp 2), none, []⟩,
    ⟨some 25, .pur (mkO (.binOp .lss 3 (.tmp 24) (.const (.int .i64 0)) 3) 4), none, []⟩,
    ⟨some 26, .mov (.tmp 25), none, []⟩,
    ⟨some 27, .mov (.tmp 2), some (26, false), [4]⟩,
    ⟨some 28, .mov (.tmp 7), some (26, false), [3]⟩,
    ⟨some 29, .pur (mkO (.binOp .gtr 3 (.tmp 27) (.tmp 28) 3) 4), some (26, false), []⟩,
    ⟨some 30, .pick (.tmp 26) (.const (.bool true)) (.tmp 29), none, []⟩] false)
  (.cond (.tmp 30)
    (.seq (.region [⟨some 6, .mov (.const (.slice none 0 0)), none, []⟩,
      ⟨some 7, .mov (.const (.int .i64 0)), none, []⟩,
      ⟨some 8, .mov (.const (.int .i64 2)), none, []⟩] false)
    .ret)
    .skip)))
  (.seq (.region [⟨some 31, .mov (.tmp 2), none, [2]⟩,
    ⟨some 32, .pur (mkO (.binOp .add 3 (.tmp 31) (.const (.int .i64 3)) 3) 3), none, [2]⟩,
    ⟨some 33, .mov (.tmp 7), none, [0, 1]⟩,
    ⟨some 34, .pur (mkO (.call ⟨.builtin .min, #[(.tmp 32), (.tmp 33)], #[3, 3]⟩) 3), none, []⟩,
    ⟨some 10, .mov (.tmp 34), none, []⟩] false)
  (.seq (.seq (.region [⟨some 35, .mov (.tmp 9), none, [1, 2, 3, 6]⟩,
    ⟨some 36, .mov (.tmp 2), none, [0, 2, 3, 6]⟩,
    ⟨some 37, .mov (.tmp 10), none, [0, 1, 3, 6]⟩,
    ⟨some 38, .mov (.tmp 10), none, [0, 1, 2, 6]⟩,
    ⟨some 39, .slc 17 (.tmp 35) (some (.tmp 36)) (some (.tmp 37)) (some (.tmp 38)), none, [6]⟩,
    ⟨some 40, .len (.tmp 39), none, [6]⟩,
    ⟨some 41, .mov (.const (.int .i64 0)), none, [0, 1, 2, 3, 4, 5]⟩] false)
  (.block 0 (.loop (.seq (.region [⟨some 42, .pur (mkO (.binOp .lss 3 (.tmp 41) (.tmp 40) 3) 0), none, []⟩] false)
      (.seq (.cond (.tmp 42)
        .skip
        (.exit 0))
      (.seq (.block 1 (.seq (.region [⟨some 43, .iad 17 (.tmp 39) (.tmp 41), none, [2]⟩,
          ⟨some 44, .load 17 true (.tmp 43), none, [2]⟩,
          ⟨some 12, .alloc 46 (.agg #[(.int .u8 0), (.int .u8 0), (.int .u32 0), (.int .u8 0), (.int .i64 0), (.int .u8 0), (.int .u32 0), (.int .u8 0), (.int .i64 0), (.int .i64 0), (.int .u8 0), (.int .u32 0), (.int .u8 0), (.int .i64 0), (.int .u8 0), (.int .u32 0), (.slice none 0 0)]), none, [0, 1]⟩,
          ⟨none, .store 17 (.tmp 12) (.tmp 44), none, []⟩] false)
        (.region [⟨some 45, .mov (.tmp 6), none, [1, 2, 3, 4, 5]⟩,
          ⟨some 46, .mov (.tmp 0), none, [0, 2, 3]⟩,
          ⟨some 47, .load 17 true (.tmp 12), none, [0, 1, 3]⟩,
          ⟨some 48, .load 2 true (.tmp 4), none, [0, 1, 2]⟩,
          ⟨some 49, .call (.func 16) [(.tmp 46), (.tmp 47), (.tmp 48)], none, [0]⟩,
          ⟨some 50, .bsl 46 17 (.agg #[(.int .u8 0), (.int .u8 0), (.int .u32 0), (.int .u8 0), (.int .i64 0), (.int .u8 0), (.int .u32 0), (.int .u8 0), (.int .i64 0), (.int .i64 0), (.int .u8 0), (.int .u32 0), (.int .u8 0), (.int .i64 0), (.int .u8 0), (.int .u32 0), (.slice none 0 0)]) 1 [(0, 17, (.tmp 49))], none, [0]⟩,
          ⟨some 51, .app 46 17 112 (.agg #[(.int .u8 0), (.int .u8 0), (.int .u32 0), (.int .u8 0), (.int .i64 0), (.int .u8 0), (.int .u32 0), (.int .u8 0), (.int .i64 0), (.int .i64 0), (.int .u8 0), (.int .u32 0), (.int .u8 0), (.int .i64 0), (.int .u8 0), (.int .u32 0), (.slice none 0 0)]) (.tmp 45) (.tmp 50), none, []⟩,
          ⟨some 6, .mov (.tmp 51), none, []⟩] false)))
      (.region [⟨some 52, .pur (mkO (.binOp .add 3 (.tmp 41) (.const (.int .i64 1)) 3) 3), none, []⟩,
        ⟨some 41, .mov (.tmp 52), none, []⟩] false)))))))
  (.seq (.region [⟨some 53, .mov (.tmp 6), none, [1]⟩,
    ⟨some 54, .mov (.tmp 7), none, [0, 2]⟩,
    ⟨some 6, .mov (.tmp 53), none, [1]⟩,
    ⟨some 7, .mov (.tmp 54), none, []⟩,
    ⟨some 8, .mov (.const (.int .i64 0)), none, []⟩] false)
  .ret)))))))
def a5 : AFunc := ⟨55, c5, [.tmp 6, .tmp 7, .tmp 8], 1⟩

/-- blindstamp/blindstamplaw21.three -/
def c6 : ACode :=
  (.seq (.region [⟨some 0, .mov (.const (.slice none 0 0)), none, []⟩] false)
  (.seq (.region [⟨some 4, .call (.func 17) [(.const (.int .u8 1)), (.const (.int .i64 1))], none, [4, 6]⟩,
    ⟨some 5, .fld 0 3 true (.tmp 4), none, [2, 3, 4, 6]⟩,
    ⟨some 6, .call (.func 17) [(.const (.int .u8 1)), (.const (.int .i64 1))], none, [1, 4, 6]⟩,
    ⟨some 7, .build (.agg #[(.int .u8 0), (.int .u32 0), (.int .u8 0), (.int .i64 0), (.int .i64 0)]) [(0, 4, (.tmp 6)), (4, 1, (.const (.int .i64 3)))], none, [1, 4, 6]⟩,
    ⟨some 8, .bsl 21 1 (.int .i32 0) 3 [(0, 1, (.const (.int .i32 97))), (1, 1, (.const (.int .i32 98))), (2, 1, (.const (.int .i32 99)))], none, [0, 1, 2, 3, 6]⟩,
    ⟨some 9, .build (.agg #[(.int .u8 0), (.int .u8 0), (.int .u32 0), (.int .u8 0), (.int .i64 0), (.int .u8 0), (.int .u32 0), (.int .u8 0), (.int .i64 0), (.int .i64 0), (.int .u8 0), (.int .u32 0), (.int .u8 0), (.int .i64 0), (.int .u8 0), (.int .u32 0), (.slice none 0 0)]) [(0, 1, (.const (.int .u8 1))), (1, 3, (.tmp 5)), (4, 1, (.const (.int .i64 1))), (5, 5, (.tmp 7)), (16, 1, (.tmp 8))], none, [6]⟩,
    ⟨some 1, .alloc 46 (.agg #[(.int .u8 0), (.int .u8 0), (.int .u32 0), (.int .u8 0), (.int .i64 0), (.int .u8 0), (.int .u32 0), (.int .u8 0), (.int .i64 0), (.int .i64 0), (.int .u8 0), (.int .u32 0), (.int .u8 0), (.int .i64 0), (.int .u8 0), (.int .u32 0), (.slice none 0 0)]), none, [0, 1, 2, 3, 4, 5]⟩,
    ⟨none, .store 17 (.tmp 1) (.tmp 9), none, []⟩] false)
  (.seq (.region [⟨some 10, .call (.func 17) [(.const (.int .u8 2)), (.const (.int .i64 1))], none, [5, 7]⟩,
    ⟨some 11, .fld 0 3 true (.tmp 10), none, [2, 3, 4, 5, 7]⟩,
    ⟨some 12, .call (.func 17) [(.const (.int .u8 2)), (.const (.int .i64 5))], none, [1, 5, 7]⟩,
    ⟨some 13, .build (.agg #[(.int .u8 0), (.int .u32 0), (.int .u8 0), (.int .i64 0), (.int .i64 0)]) [(0, 4, (.tmp 12)), (4, 1, (.const (.int .i64 1)))], none, [1, 4, 5, 7]⟩,
    ⟨some 14, .call (.func 17) [(.const (.int .u8 1)), (.const (.int .i64 2))], none, [1, 3, 5, 7]⟩,
    ⟨some 15, .bsl 21 1 (.int .i32 0) 1 [(0, 1, (.const (.int .i32 100)))], none, [0, 1, 2, 3, 4, 7]⟩,
    ⟨some 16, .build (.agg #[(.int .u8 0), (.int .u8 0), (.int .u32 0), (.int .u8 0), (.int .i64 0), (.int .u8 0), (.int .u32 0), (.int .u8 0), (.int .i64 0), (.int .i64 0), (.int .u8 0), (.int .u32 0), (.int .u8 0), (.int .i64 0), (.int .u8 0), (.int .u32 0), (.slice none 0 0)]) [(0, 1, (.const (.int .u8 1))), (1, 3, (.tmp 11)), (4, 1, (.const (.int .i64 1))), (5, 5, (.tmp 13)), (10, 4, (.tmp 14)), (16, 1, (.tmp 15))], none, [7]⟩,
    ⟨some 2, .alloc 46 (.agg #[(.int .u8 0), (.int .u8 0), (.int .u32 0), (.int .u8 0), (.int .i64 0), (.int .u8 0), (.int .u32 0), (.int .u8 0), (.int .i64 0), (.int .i64 0), (.int .u8 0), (.int .u32 0), (.int .u8 0), (.int .i64 0), (.int .u8 0), (.int .u32 0), (.slice none 0 0)]), none, [0, 1, 2, 3, 4, 5, 6]⟩,
    ⟨none, .store 17 (.tmp 2) (.tmp 16), none, []⟩] false)
  (.seq (.region [⟨some 17, .call (.func 17) [(.const (.int .u8 1)), (.const (.int .i64 1))], none, [6]⟩,
    ⟨some 18, .fld 0 3 true (.tmp 17), none, [2, 3, 4, 6]⟩,
    ⟨some 19, .call (.func 17) [(.const (.int .u8 1)), (.const (.int .i64 1))], none, [1, 6]⟩,
    ⟨some 20, .build (.agg #[(.int .u8 0), (.int .u32 0), (.int .u8 0), (.int .i64 0), (.int .i64 0)]) [(0, 4, (.tmp 19)), (4, 1, (.const (.int .i64 1)))], none, [1, 4, 6]⟩,
    ⟨some 21, .call (.func 7) [(.const (.int .u8 2))], none, [1, 3, 6]⟩,
    ⟨some 22, .build (.agg #[(.int .u8 0), (.int .u8 0), (.int .u32 0), (.int .u8 0), (.int .i64 0), (.int .u8 0), (.int .u32 0), (.int .u8 0), (.int .i64 0), (.int .i64 0), (.int .u8 0), (.int .u32 0), (.int .u8 0), (.int .i64 0), (.int .u8 0), (.int .u32 0), (.slice none 0 0)]) [(0, 1, (.const (.int .u8 3))), (1, 3, (.tmp 18)), (4, 1, (.const (.int .i64 2))), (5, 5, (.tmp 20)), (14, 2, (.tmp 21))], none, [6]⟩,
    ⟨some 3, .alloc 46 (.agg #[(.int .u8 0), (.int .u8 0), (.int .u32 0), (.int .u8 0), (.int .i64 0), (.int .u8 0), (.int .u32 0), (.int .u8 0), (.int .i64 0), (.int .i64 0), (.int .u8 0), (.int .u32 0), (.int .u8 0), (.int .i64 0), (.int .u8 0), (.int .u32 0), (.slice none 0 0)]), none, [0, 1, 2, 3, 4, 5]⟩,
    ⟨none, .store 17 (.tmp 3) (.tmp 22), none, []⟩] false)
  (.seq (.region [⟨some 23, .load 17 true (.tmp 1), none, [1, 2]⟩,
    ⟨some 24, .load 17 true (.tmp 2), none, [0, 2]⟩,
    ⟨some 25, .load 17 true (.tmp 3), none, [0, 1]⟩,
    ⟨some 26, .bsl 46 17 (.agg #[(.int .u8 0), (.int .u8 0), (.int .u32 0), (.int .u8 0), (.int .i64 0), (.int .u8 0), (.int .u32 0), (.int .u8 0), (.int .i64 0), (.int .i64 0), (.int .u8 0), (.int .u32 0), (.int .u8 0), (.int .i64 0), (.int .u8 0), (.int .u32 0), (.slice none 0 0)]) 3 [(0, 17, (.tmp 23)), (17, 17, (.tmp 24)), (34, 17, (.tmp 25))], none, []⟩,
    ⟨some 0, .mov (.tmp 26), none, []⟩] false)
  .ret)))))
def a6 : AFunc := ⟨27, c6, [.tmp 0], 1⟩

/-- blindstamp/blindstamplaw21.at -/
def c7 : ACode :=
  (.seq (.region [⟨some 2, .alloc 29 (.agg #[(.int .u8 0), (.int .u32 0)]), none, []⟩] false)
  (.seq (.region [⟨some 3, .mov (.tmp 0), none, []⟩,
    ⟨some 4, .build (.agg #[(.int .u8 0), (.int .u32 0)]) [(0, 1, (.tmp 3))], none, []⟩,
    ⟨none, .store 2 (.tmp 2) (.tmp 4), none, []⟩] false)
  .ret))
def a7 : AFunc := ⟨5, c7, [.cell 2 2 true], 1⟩

/-- blindstamp/stream.Take -/
def c8 : ACode :=
  (.seq (.region [⟨some 5, .box 29 (.tmp 1), none, [1, 2]⟩,
    ⟨some 8, .mov (.const (.slice none 0 0)), none, [0]⟩,
    ⟨some 9, .mov (.const (.int .i64 0)), none, [0]⟩] false)
  (.seq (.seq (.region [⟨some 14, .mov (.tmp 0), none, [2]⟩,
    ⟨some 15, .call (.func 15) [(.tmp 14)], none, [2]⟩,
    ⟨some 16, .load 2 true (.tmp 5), none, [0, 1]⟩,
    ⟨some 17, .call (.func 18) [(.tmp 16)], none, []⟩,
    ⟨some 18, .pur (mkO (.call ⟨.builtin .max, #[(.tmp 15), (.tmp 17)], #[23, 23]⟩) 23), none, []⟩,
    ⟨some 10, .mov (.tmp 18), none, []⟩] true)
  (.block 0 (.seq (.region [⟨some 20, .mov (.tmp 10), none, []⟩,
      ⟨some 21, .pur (mkO (.binOp .neq 23 (.tmp 20) (.const (.int .i64 0)) 23) 4), none, []⟩,
      ⟨some 19, .mov (.tmp 21), none, []⟩] false)
    (.cond (.tmp 19)
      (.seq (.region [⟨some 22, .mov (.tmp 10), none, [1]⟩,
        ⟨some 8, .mov (.const (.slice none 0 0)), none, [0]⟩,
        ⟨some 9, .mov (.tmp 22), none, []⟩] false)
      .ret)
      (.seq (.region [⟨some 24, .mov (.tmp 3), none, []⟩,
        ⟨some 25, .len (.tmp 24), none, []⟩,
        ⟨some 26, .pur (mkO (.binOp .gtr 3 (.tmp 25) (.const (.int .i64 3)) 3) 4), none, []⟩,
        ⟨some 23, .mov (.tmp 26), none, []⟩] false)
      (.cond (.tmp 23)
        (.seq (.region [⟨some 8, .mov (.const (.slice none 0 0)), none, []⟩,
          ⟨some 9, .mov (.const (.int .i64 4)), none, []⟩] false)
        .ret)
        (.seq (.region [⟨some 28, .mov (.tmp 2), none, [1, 2]⟩,
          ⟨some 29, .mov (.tmp 0), none, [0]⟩,
          ⟨some 30, .len (.tmp 29), none, [0]⟩,
          ⟨some 31, .pur (mkO (.binOp .neq 3 (.tmp 28) (.tmp 30) 3) 4), none, []⟩,
          ⟨some 27, .mov (.tmp 31), none, []⟩] false)
        (.cond (.tmp 27)
          (.seq (.region [⟨some 8, .mov (.const (.slice none 0 0)), none, []⟩,
            ⟨some 9, .mov (.const (.int .i64 6)), none, []⟩] false)
          .ret)
          .skip))))))))
  (.seq (.region [⟨some 32, .mkfn 19 [] [(.tmp 5)], none, []⟩,
    ⟨some 11, .mov (.tmp 32), none, []⟩] false)
  (.seq (.seq (.region [⟨some 33, .mov (.tmp 0), none, [1, 5]⟩,
    ⟨some 34, .mov (.tmp 3), none, [0, 5]⟩,
    ⟨some 35, .bsl 22 1 (.slice none 0 0) 2 [(0, 1, (.tmp 33)), (1, 1, (.tmp 34))], none, [5]⟩,
    ⟨some 36, .call (.func 21) [(.tmp 35)], none, [5]⟩,
    ⟨some 37, .len (.tmp 36), none, [5]⟩,
    ⟨some 38, .mov (.const (.int .i64 0)), none, [0, 1, 2, 3, 4]⟩] false)
  (.block 1 (.loop (.seq (.region [⟨some 39, .pur (mkO (.binOp .lss 3 (.tmp 38) (.tmp 37) 3) 0), none, []⟩] false)
      (.seq (.cond (.tmp 39)
        .skip
        (.exit 1))
      (.seq (.block 2 (.seq (.region [⟨some 40, .iad 17 (.tmp 36) (.tmp 38), none, [2]⟩,
          ⟨some 41, .load 17 true (.tmp 40), none, [2]⟩,
          ⟨some 13, .alloc 46 (.agg #[(.int .u8 0), (.int .u8 0), (.int .u32 0), (.int .u8 0), (.int .i64 0), (.int .u8 0), (.int .u32 0), (.int .u8 0), (.int .i64 0), (.int .i64 0), (.int .u8 0), (.int .u32 0), (.int .u8 0), (.int .i64 0), (.int .u8 0), (.int .u32 0), (.slice none 0 0)]), none, [0, 1]⟩,
          ⟨none, .store 17 (.tmp 13) (.tmp 41), none, []⟩] false)
        (.region [⟨some 42, .mov (.tmp 8), none, [1, 2, 3]⟩,
          ⟨some 43, .load 17 true (.tmp 13), none, [0]⟩,
          ⟨some 44, .call (.func 22) [(.tmp 43)], none, [0]⟩,
          ⟨some 45, .bsl 46 17 (.agg #[(.int .u8 0), (.int .u8 0), (.int .u32 0), (.int .u8 0), (.int .i64 0), (.int .u8 0), (.int .u32 0), (.int .u8 0), (.int .i64 0), (.int .i64 0), (.int .u8 0), (.int .u32 0), (.int .u8 0), (.int .i64 0), (.int .u8 0), (.int .u32 0), (.slice none 0 0)]) 1 [(0, 17, (.tmp 44))], none, [0]⟩,
          ⟨some 46, .app 46 17 112 (.agg #[(.int .u8 0), (.int .u8 0), (.int .u32 0), (.int .u8 0), (.int .i64 0), (.int .u8 0), (.int .u32 0), (.int .u8 0), (.int .i64 0), (.int .i64 0), (.int .u8 0), (.int .u32 0), (.int .u8 0), (.int .i64 0), (.int .u8 0), (.int .u32 0), (.slice none 0 0)]) (.tmp 42) (.tmp 45), none, []⟩,
          ⟨some 8, .mov (.tmp 46), none, []⟩] false)))
      (.region [⟨some 47, .pur (mkO (.binOp .add 3 (.tmp 38) (.const (.int .i64 1)) 3) 3), none, []⟩,
        ⟨some 38, .mov (.tmp 47), none, []⟩] false)))))))
  (.seq (.seq (.region [⟨some 48, .mov (.tmp 3), none, [1]⟩,
    ⟨some 49, .mov (.tmp 11), none, [0]⟩,
    ⟨some 50, .call (.func 23) [(.tmp 48), (.tmp 49)], none, []⟩,
    ⟨some 51, .mov (.tmp 50), none, []⟩,
    ⟨some 52, .mov (.tmp 8), some (51, false), []⟩,
    ⟨some 53, .call (.func 15) [(.tmp 52)], some (51, false), []⟩,
    ⟨some 54, .pur (mkO (.binOp .neq 23 (.tmp 53) (.const (.int .i64 0)) 23) 4), some (51, false), []⟩,
    ⟨some 55, .pick (.tmp 51) (.const (.bool true)) (.tmp 54), none, []⟩] false)
  (.cond (.tmp 55)
    (.seq (.region [⟨some 8, .mov (.const (.slice none 0 0)), none, []⟩,
      ⟨some 9, .mov (.const (.int .i64 8)), none, []⟩] false)
    .ret)
    .skip))
  (.seq (.region [⟨some 56, .mov (.tmp 8), none, []⟩,
    ⟨some 8, .mov (.tmp 56), none, []⟩,
    ⟨some 9, .mov (.const (.int .i64 0)), none, []⟩] false)
  .ret))))))
def a8 : AFunc := ⟨57, c8, [.tmp 8, .tmp 9], 1⟩

/-- blindstamp/blindstamplaw21.alive -/
def c9 : ACode :=
  (.seq (.region [⟨some 0, .mov (.const (.bool false)), none, []⟩] false)
  (.seq (.region [⟨some 11, .call (.func 6) [], none, []⟩,
    ⟨some 1, .mov (.tmp 11), none, []⟩] false)
  (.seq (.region [⟨some 12, .mov (.tmp 1), none, [4]⟩,
    ⟨some 13, .iad 17 (.tmp 12) (.const (.int .i64 0)), none, [4]⟩,
    ⟨some 14, .load 17 true (.tmp 13), none, [4]⟩,
    ⟨some 15, .call (.func 24) [(.tmp 14)], none, [4]⟩,
    ⟨some 2, .alloc 46 (.agg #[(.int .u8 0), (.int .u8 0), (.int .u32 0), (.int .u8 0), (.int .i64 0), (.int .u8 0), (.int .u32 0), (.int .u8 0), (.int .i64 0), (.int .i64 0), (.int .u8 0), (.int .u32 0), (.int .u8 0), (.int .i64 0), (.int .u8 0), (.int .u32 0), (.slice none 0 0)]), none, [0, 1, 2, 3]⟩,
    ⟨none, .store 17 (.tmp 2) (.tmp 15), none, []⟩] false)
  (.seq (.region [⟨some 16, .fad 16 (.tmp 2), none, []⟩,
    ⟨some 17, .load 1 false (.tmp 16), none, []⟩,
    ⟨some 18, .iad 1 (.tmp 17) (.const (.int .i64 0)), none, []⟩,
    ⟨none, .store 1 (.tmp 18) (.const (.int .i32 (-1))), none, []⟩] false)
  (.seq (.region [⟨some 20, .mov (.tmp 1), none, [1]⟩,
    ⟨some 21, .call (.func 7) [(.const (.int .u8 1))], none, [0]⟩,
    ⟨some 22, .call (.func 5) [(.tmp 20), (.tmp 21), (.const (.int .i64 0))], none, []⟩,
    ⟨some 19, .mov (.tmp 22), none, []⟩,
    ⟨some 23, .ext (.tmp 19) 0, none, [5, 6]⟩,
    ⟨some 24, .ext (.tmp 19) 1, none, [4, 6, 7]⟩,
    ⟨some 25, .ext (.tmp 19) 2, none, [4, 5, 7, 8]⟩,
    ⟨some 3, .mov (.tmp 23), none, [5, 6]⟩,
    ⟨some 4, .mov (.tmp 24), none, [6]⟩,
    ⟨some 5, .mov (.tmp 25), none, []⟩] false)
  (.seq (.region [⟨some 27, .mov (.tmp 1), none, [1]⟩,
    ⟨some 28, .call (.func 7) [(.const (.int .u8 2))], none, [0]⟩,
    ⟨some 29, .call (.func 5) [(.tmp 27), (.tmp 28), (.const (.int .i64 2))], none, []⟩,
    ⟨some 26, .mov (.tmp 29), none, []⟩,
    ⟨some 30, .ext (.tmp 26) 0, none, [5, 6]⟩,
    ⟨some 31, .ext (.tmp 26) 1, none, [4, 6, 7]⟩,
    ⟨some 32, .ext (.tmp 26) 2, none, [4, 5, 7, 8]⟩,
    ⟨some 6, .mov (.tmp 30), none, [5, 6]⟩,
    ⟨some 7, .mov (.tmp 31), none, [6]⟩,
    ⟨some 8, .mov (.tmp 32), none, []⟩] false)
  (.seq (.region [⟨some 34, .call (.func 7) [(.const (.int .u8 1))], none, [1]⟩,
    ⟨some 35, .mov (.tmp 3), none, [0]⟩,
    ⟨some 36, .call (.func 8) [(.const (.slice none 0 0)), (.tmp 34), (.const (.int .i64 0)), (.tmp 35)], none, []⟩,
    ⟨some 33, .mov (.tmp 36), none, []⟩,
    ⟨some 37, .ext (.tmp 33) 0, none, [5]⟩,
    ⟨some 38, .ext (.tmp 33) 1, none, [4, 6]⟩,
    ⟨some 9, .mov (.tmp 37), none, [5]⟩,
    ⟨some 10, .mov (.tmp 38), none, []⟩] false)
  (.seq (.region [⟨some 39, .mov (.tmp 5), none, []⟩,
    ⟨some 40, .pur (mkO (.binOp .eql 23 (.tmp 39) (.const (.int .i64 0)) 23) 4), none, []⟩,
    ⟨some 41, .mov (.tmp 40), none, []⟩,
    ⟨some 42, .mov (.tmp 4), some (41, true), []⟩,
    ⟨some 43, .pur (mkO (.binOp .eql 3 (.tmp 42) (.const (.int .i64 2)) 3) 4), some (41, true), []⟩,
    ⟨some 44, .pick (.tmp 41) (.tmp 43) (.const (.bool false)), none, []⟩,
    ⟨some 45, .mov (.tmp 44), none, []⟩,
    ⟨some 46, .mov (.tmp 3), some (45, true), [8, 9, 10, 11, 12]⟩,
    ⟨some 47, .load 17 true (.tmp 2), some (45, true), [7, 9, 10, 11]⟩,
    ⟨some 48, .mov (.tmp 1), some (45, true), [7, 8]⟩,
    ⟨some 49, .iad 17 (.tmp 48) (.const (.int .i64 2)), some (45, true), [7, 8]⟩,
    ⟨some 50, .load 17 true (.tmp 49), some (45, true), [7, 8]⟩,
    ⟨some 51, .bsl 46 17 (.agg #[(.int .u8 0), (.int .u8 0), (.int .u32 0), (.int .u8 0), (.int .i64 0), (.int .u8 0), (.int .u32 0), (.int .u8 0), (.int .i64 0), (.int .i64 0), (.int .u8 0), (.int .u32 0), (.int .u8 0), (.int .i64 0), (.int .u8 0), (.int .u32 0), (.slice none 0 0)]) 2 [(0, 17, (.tmp 47)), (17, 17, (.tmp 50))], some (45, true), [7]⟩,
    ⟨some 52, .call (.func 12) [(.tmp 46), (.tmp 51)], some (45, true), []⟩,
    ⟨some 53, .pick (.tmp 45) (.tmp 52) (.const (.bool false)), none, []⟩,
    ⟨some 54, .mov (.tmp 53), none, []⟩,
    ⟨some 55, .mov (.tmp 8), some (54, true), []⟩,
    ⟨some 56, .pur (mkO (.binOp .eql 23 (.tmp 55) (.const (.int .i64 0)) 23) 4), some (54, true), []⟩,
    ⟨some 57, .pick (.tmp 54) (.tmp 56) (.const (.bool false)), none, []⟩,
    ⟨some 58, .mov (.tmp 57), none, []⟩,
    ⟨some 59, .mov (.tmp 7), some (58, true), []⟩,
    ⟨some 60, .pur (mkO (.binOp .eql 3 (.tmp 59) (.const (.int .i64 3)) 3) 4), some (58, true), []⟩,
    ⟨some 61, .pick (.tmp 58) (.tmp 60) (.const (.bool false)), none, []⟩,
    ⟨some 62, .mov (.tmp 61), none, []⟩,
    ⟨some 63, .mov (.tmp 6), some (62, true), [25, 26]⟩,
    ⟨some 64, .mov (.tmp 1), some (62, true), [24]⟩,
    ⟨some 65, .slc 17 (.tmp 64) (some (.const (.int .i64 2))) none none, some (62, true), [24]⟩,
    ⟨some 66, .call (.func 12) [(.tmp 63), (.tmp 65)], some (62, true), []⟩,
    ⟨some 67, .pick (.tmp 62) (.tmp 66) (.const (.bool false)), none, []⟩,
    ⟨some 68, .mov (.tmp 67), none, []⟩,
    ⟨some 69, .mov (.tmp 10), some (68, true), []⟩,
    ⟨some 70, .pur (mkO (.binOp .eql 23 (.tmp 69) (.const (.int .i64 0)) 23) 4), some (68, true), []⟩,
    ⟨some 71, .pick (.tmp 68) (.tmp 70) (.const (.bool false)), none, []⟩,
    ⟨some 72, .mov (.tmp 71), none, []⟩,
    ⟨some 73, .mov (.tmp 9), some (72, true), [35]⟩,
    ⟨some 74, .mov (.tmp 3), some (72, true), [34]⟩,
    ⟨some 75, .call (.func 12) [(.tmp 73), (.tmp 74)], some (72, true), []⟩,
    ⟨some 76, .pick (.tmp 72) (.tmp 75) (.const (.bool false)), none, []⟩,
    ⟨some 0, .mov (.tmp 76), none, []⟩] true)
  .ret))))))))
def a9 : AFunc := ⟨77, c9, [.tmp 0], 1⟩

/-- blindstamp/blindstampref18.Great -/
def c10 : ACode :=
  (.seq (.region [⟨some 4, .mov (.const (.bool false)), none, []⟩] false)
  (.seq (.region [⟨some 5, .mov (.const (.int .i64 0)), none, []⟩] false)
  (.seq (.seq (.region [⟨some 6, .mov (.const (.int .i64 0)), none, []⟩] false)
  (.block 0 (.loop (.seq (.seq (.region [⟨some 7, .mov (.tmp 6), none, [1, 2]⟩,
        ⟨some 8, .mov (.tmp 0), none, [0]⟩,
        ⟨some 9, .len (.tmp 8), none, [0]⟩,
        ⟨some 10, .pur (mkO (.binOp .lss 3 (.tmp 7) (.tmp 9) 3) 4), none, []⟩,
        ⟨some 11, .mov (.tmp 10), none, []⟩,
        ⟨some 12, .mov (.tmp 6), some (11, true), []⟩,
        ⟨some 13, .pur (mkO (.binOp .lss 3 (.tmp 12) (.const (.int .i64 300)) 3) 4), some (11, true), []⟩,
        ⟨some 14, .pick (.tmp 11) (.tmp 13) (.const (.bool false)), none, []⟩] false)
      (.cond (.tmp 14)
        .skip
        (.exit 0)))
      (.seq (.block 1 (.region [⟨some 17, .mov (.tmp 5), none, [1, 2, 3, 4, 5, 6, 7, 8, 9, 10, 11, 12, 13, 14, 15, 16]⟩,
          ⟨some 18, .mov (.tmp 0), none, [0, 2, 9, 10, 11, 12, 13, 14, 15]⟩,
          ⟨some 19, .mov (.tmp 6), none, [0, 1, 9, 10, 11, 12, 13, 14, 15]⟩,
          ⟨some 20, .iad 17 (.tmp 18) (.tmp 19), none, [0, 9, 10, 11, 12, 13, 14, 15]⟩,
          ⟨some 21, .fad 5 (.tmp 20), none, [0, 9, 10, 11, 12, 13, 14, 15]⟩,
          ⟨some 22, .fad 4 (.tmp 21), none, [0, 9, 10, 11, 12, 13, 14, 15]⟩,
          ⟨some 23, .load 1 false (.tmp 22), none, [0, 9, 10, 11, 12, 13, 14, 15]⟩,
          ⟨some 24, .pur (mkO (.call ⟨.builtin .max, #[(.tmp 23), (.const (.int .i64 0))], #[3, 3]⟩) 3), none, [0, 9, 10, 11, 12, 13, 14, 15]⟩,
          ⟨some 25, .pur (mkO (.call ⟨.builtin .min, #[(.tmp 24), (.const (.int .i64 100))], #[3, 3]⟩) 3), none, [0, 9, 10, 11, 12, 13, 14, 15]⟩,
          ⟨some 26, .mov (.tmp 0), none, [0, 1, 2, 3, 4, 5, 6, 7, 8, 10]⟩,
          ⟨some 27, .mov (.tmp 6), none, [0, 1, 2, 3, 4, 5, 6, 7, 8, 9]⟩,
          ⟨some 28, .iad 17 (.tmp 26) (.tmp 27), none, [0, 1, 2, 3, 4, 5, 6, 7, 8]⟩,
          ⟨some 29, .fad 16 (.tmp 28), none, [0, 1, 2, 3, 4, 5, 6, 7, 8]⟩,
          ⟨some 30, .load 1 false (.tmp 29), none, [0, 1, 2, 3, 4, 5, 6, 7, 8]⟩,
          ⟨some 31, .len (.tmp 30), none, [0, 1, 2, 3, 4, 5, 6, 7, 8]⟩,
          ⟨some 32, .pur (mkO (.call ⟨.builtin .min, #[(.tmp 31), (.const (.int .i64 1000))], #[3, 3]⟩) 3), none, [0, 1, 2, 3, 4, 5, 6, 7, 8]⟩,
          ⟨some 33, .pur (mkO (.call ⟨.builtin .max, #[(.tmp 25), (.tmp 32)], #[3, 3]⟩) 3), none, [0]⟩,
          ⟨some 34, .pur (mkO (.binOp .add 3 (.tmp 17) (.tmp 33) 3) 3), none, []⟩,
          ⟨some 5, .mov (.tmp 34), none, []⟩] true))
      (.region [⟨some 15, .mov (.tmp 6), none, []⟩,
        ⟨some 16, .pur (mkO (.binOp .add 3 (.tmp 15) (.const (.int .i64 1)) 3) 3), none, []⟩,
        ⟨some 6, .mov (.tmp 16), none, []⟩] false))))))
  (.seq (.region [⟨some 35, .mov (.tmp 0), none, [2]⟩,
    ⟨some 36, .len (.tmp 35), none, [2]⟩,
    ⟨some 37, .mov (.tmp 1), none, [0, 1]⟩,
    ⟨some 38, .pur (mkO (.binOp .gtr 3 (.tmp 36) (.tmp 37) 3) 4), none, []⟩,
    ⟨some 39, .mov (.tmp 38), none, []⟩,
    ⟨some 40, .mov (.tmp 5), some (39, false), []⟩,
    ⟨some 41, .pur (mkO (.binOp .gtr 3 (.tmp 40) (.const (.int .i64 300)) 3) 4), some (39, false), []⟩,
    ⟨some 42, .pick (.tmp 39) (.const (.bool true)) (.tmp 41), none, []⟩,
    ⟨some 4, .mov (.tmp 42), none, []⟩] false)
  .ret))))
def a10 : AFunc := ⟨43, c10, [.tmp 4], 1⟩

/-- blindstamp/doc.Only -/
def c11 : ACode :=
  (.seq (.region [⟨some 3, .box 29 (.tmp 1), none, [1, 2]⟩,
    ⟨some 4, .mov (.const (.slice none 0 0)), none, [0]⟩,
    ⟨some 5, .mov (.const (.int .i64 0)), none, [0]⟩] false)
  (.seq (.seq (.region [⟨some 9, .mov (.tmp 0), none, [2]⟩,
    ⟨some 10, .call (.func 15) [(.tmp 9)], none, [2]⟩,
    ⟨some 11, .load 2 true (.tmp 3), none, [0, 1]⟩,
    ⟨some 12, .call (.func 18) [(.tmp 11)], none, []⟩,
    ⟨some 13, .pur (mkO (.call ⟨.builtin .max, #[(.tmp 10), (.tmp 12)], #[23, 23]⟩) 23), none, []⟩,
    ⟨some 6, .mov (.tmp 13), none, []⟩] true)
  (.seq (.region [⟨some 14, .mov (.tmp 6), none, []⟩,
    ⟨some 15, .pur (mkO (.binOp .neq 23 (.tmp 14) (.const (.int .i64 0)) 23) 4), none, []⟩] false)
  (.cond (.tmp 15)
    (.seq (.region [⟨some 16, .mov (.tmp 6), none, [1]⟩,
      ⟨some 4, .mov (.const (.slice none 0 0)), none, [0]⟩,
      ⟨some 5, .mov (.tmp 16), none, []⟩] false)
    .ret)
    .skip)))
  (.seq (.seq (.region [⟨some 17, .mov (.tmp 0), none, [2]⟩,
    ⟨some 18, .len (.tmp 17), none, [2]⟩,
    ⟨some 19, .mov (.const (.int .i64 0)), none, [0, 1]⟩] false)
  (.block 0 (.loop (.seq (.region [⟨some 20, .pur (mkO (.binOp .lss 3 (.tmp 19) (.tmp 18) 3) 0), none, []⟩] false)
      (.seq (.cond (.tmp 20)
        .skip
        (.exit 0))
      (.seq (.block 1 (.seq (.region [⟨some 21, .iad 17 (.tmp 17) (.tmp 19), none, [2]⟩,
          ⟨some 22, .load 17 true (.tmp 21), none, [2]⟩,
          ⟨some 8, .alloc 46 (.agg #[(.int .u8 0), (.int .u8 0), (.int .u32 0), (.int .u8 0), (.int .i64 0), (.int .u8 0), (.int .u32 0), (.int .u8 0), (.int .i64 0), (.int .i64 0), (.int .u8 0), (.int .u32 0), (.int .u8 0), (.int .i64 0), (.int .u8 0), (.int .u32 0), (.slice none 0 0)]), none, [0, 1]⟩,
          ⟨none, .store 17 (.tmp 8) (.tmp 22), none, []⟩] false)
        (.seq (.region [⟨some 23, .fad 1 (.tmp 8), none, [3]⟩,
          ⟨some 24, .fad 0 (.tmp 23), none, [3]⟩,
          ⟨some 25, .load 2 true (.tmp 24), none, [3]⟩,
          ⟨some 26, .load 2 true (.tmp 3), none, [0, 1, 2]⟩,
          ⟨some 27, .call (.func 20) [(.tmp 25), (.tmp 26)], none, []⟩] false)
        (.cond (.tmp 27)
          (.region [⟨some 28, .mov (.tmp 4), none, [1, 2, 3]⟩,
            ⟨some 29, .load 17 true (.tmp 8), none, [0]⟩,
            ⟨some 30, .call (.func 22) [(.tmp 29)], none, [0]⟩,
            ⟨some 31, .bsl 46 17 (.agg #[(.int .u8 0), (.int .u8 0), (.int .u32 0), (.int .u8 0), (.int .i64 0), (.int .u8 0), (.int .u32 0), (.int .u8 0), (.int .i64 0), (.int .i64 0), (.int .u8 0), (.int .u32 0), (.int .u8 0), (.int .i64 0), (.int .u8 0), (.int .u32 0), (.slice none 0 0)]) 1 [(0, 17, (.tmp 30))], none, [0]⟩,
            ⟨some 32, .app 46 17 112 (.agg #[(.int .u8 0), (.int .u8 0), (.int .u32 0), (.int .u8 0), (.int .i64 0), (.int .u8 0), (.int .u32 0), (.int .u8 0), (.int .i64 0), (.int .i64 0), (.int .u8 0), (.int .u32 0), (.int .u8 0), (.int .i64 0), (.int .u8 0), (.int .u32 0), (.slice none 0 0)]) (.tmp 28) (.tmp 31), none, []⟩,
            ⟨some 4, .mov (.tmp 32), none, []⟩] false)
          .skip))))
      (.region [⟨some 33, .pur (mkO (.binOp .add 3 (.tmp 19) (.const (.int .i64 1)) 3) 3), none, []⟩,
        ⟨some 19, .mov (.tmp 33), none, []⟩] false)))))))
  (.seq (.region [⟨some 34, .mov (.tmp 4), none, []⟩,
    ⟨some 4, .mov (.tmp 34), none, []⟩,
    ⟨some 5, .mov (.const (.int .i64 0)), none, []⟩] false)
  .ret))))
def a11 : AFunc := ⟨35, c11, [.tmp 4, .tmp 5], 1⟩

/-- blindstamp/blindstampref18.SameOps -/
def c12 : ACode :=
  (.seq (.region [⟨some 4, .mov (.const (.bool false)), none, []⟩] false)
  (.seq (.seq (.region [⟨some 6, .mov (.tmp 0), none, [2, 3]⟩,
    ⟨some 7, .len (.tmp 6), none, [2, 3]⟩,
    ⟨some 8, .mov (.tmp 1), none, [0, 1]⟩,
    ⟨some 9, .len (.tmp 8), none, [0, 1]⟩,
    ⟨some 10, .pur (mkO (.binOp .neq 3 (.tmp 7) (.tmp 9) 3) 4), none, []⟩] false)
  (.cond (.tmp 10)
    (.seq (.region [⟨some 4, .mov (.const (.bool false)), none, []⟩] false)
    .ret)
    .skip))
  (.seq (.seq (.region [⟨some 5, .mov (.const (.int .i64 0)), none, []⟩] false)
  (.block 0 (.loop (.seq (.seq (.region [⟨some 11, .mov (.tmp 5), none, [1, 2]⟩,
        ⟨some 12, .mov (.tmp 0), none, [0]⟩,
        ⟨some 13, .len (.tmp 12), none, [0]⟩,
        ⟨some 14, .pur (mkO (.binOp .lss 3 (.tmp 11) (.tmp 13) 3) 4), none, []⟩] false)
      (.cond (.tmp 14)
        .skip
        (.exit 0)))
      (.seq (.block 1 (.seq (.region [⟨some 17, .mov (.tmp 0), none, [1, 4, 5, 6, 7]⟩,
          ⟨some 18, .mov (.tmp 5), none, [0, 4, 5, 6, 7]⟩,
          ⟨some 19, .iad 17 (.tmp 17) (.tmp 18), none, [4, 5, 6, 7]⟩,
          ⟨some 20, .load 17 true (.tmp 19), none, [4, 5, 6, 7]⟩,
          ⟨some 21, .mov (.tmp 1), none, [0, 1, 2, 3, 5]⟩,
          ⟨some 22, .mov (.tmp 5), none, [0, 1, 2, 3, 4]⟩,
          ⟨some 23, .iad 17 (.tmp 21) (.tmp 22), none, [0, 1, 2, 3]⟩,
          ⟨some 24, .load 17 true (.tmp 23), none, [0, 1, 2, 3]⟩,
          ⟨some 25, .call (.func 25) [(.tmp 20), (.tmp 24)], none, []⟩,
          ⟨some 26, .pur (mkO (.unOp .not 4 (.tmp 25)) 4), none, []⟩] true)
        (.cond (.tmp 26)
          (.seq (.region [⟨some 4, .mov (.const (.bool false)), none, []⟩] false)
          .ret)
          .skip)))
      (.region [⟨some 15, .mov (.tmp 5), none, []⟩,
        ⟨some 16, .pur (mkO (.binOp .add 3 (.tmp 15) (.const (.int .i64 1)) 3) 3), none, []⟩,
        ⟨some 5, .mov (.tmp 16), none, []⟩] false))))))
  (.seq (.region [⟨some 4, .mov (.const (.bool true)), none, []⟩] false)
  .ret))))
def a12 : AFunc := ⟨27, c12, [.tmp 4], 1⟩

/-- blindstamp/blindstampref18.TwinOps -/
def c13 : ACode :=
  (.seq (.region [⟨some 2, .mov (.const (.slice none 0 0)), none, []⟩] false)
  (.seq (.region [⟨some 3, .mov (.const (.slice none 0 0)), none, []⟩] false)
  (.seq (.seq (.region [⟨some 4, .mov (.const (.int .i64 0)), none, []⟩] false)
  (.block 0 (.loop (.seq (.seq (.region [⟨some 5, .mov (.tmp 4), none, [1, 2]⟩,
        ⟨some 6, .mov (.tmp 0), none, [0]⟩,
        ⟨some 7, .len (.tmp 6), none, [0]⟩,
        ⟨some 8, .pur (mkO (.binOp .lss 3 (.tmp 5) (.tmp 7) 3) 4), none, []⟩] false)
      (.cond (.tmp 8)
        .skip
        (.exit 0)))
      (.seq (.block 1 (.region [⟨some 11, .mov (.tmp 3), none, [1, 2, 3, 4, 5, 6]⟩,
          ⟨some 12, .mov (.tmp 0), none, [0, 2]⟩,
          ⟨some 13, .mov (.tmp 4), none, [0, 1]⟩,
          ⟨some 14, .iad 17 (.tmp 12) (.tmp 13), none, [0]⟩,
          ⟨some 15, .load 17 true (.tmp 14), none, [0]⟩,
          ⟨some 16, .call (.func 24) [(.tmp 15)], none, [0]⟩,
          ⟨some 17, .bsl 46 17 (.agg #[(.int .u8 0), (.int .u8 0), (.int .u32 0), (.int .u8 0), (.int .i64 0), (.int .u8 0), (.int .u32 0), (.int .u8 0), (.int .i64 0), (.int .i64 0), (.int .u8 0), (.int .u32 0), (.int .u8 0), (.int .i64 0), (.int .u8 0), (.int .u32 0), (.slice none 0 0)]) 1 [(0, 17, (.tmp 16))], none, [0]⟩,
          ⟨some 18, .app 46 17 112 (.agg #[(.int .u8 0), (.int .u8 0), (.int .u32 0), (.int .u8 0), (.int .i64 0), (.int .u8 0), (.int .u32 0), (.int .u8 0), (.int .i64 0), (.int .i64 0), (.int .u8 0), (.int .u32 0), (.int .u8 0), (.int .i64 0), (.int .u8 0), (.int .u32 0), (.slice none 0 0)]) (.tmp 11) (.tmp 17), none, []⟩,
          ⟨some 3, .mov (.tmp 18), none, []⟩] false))
      (.region [⟨some 9, .mov (.tmp 4), none, []⟩,
        ⟨some 10, .pur (mkO (.binOp .add 3 (.tmp 9) (.const (.int .i64 1)) 3) 3), none, []⟩,
        ⟨some 4, .mov (.tmp 10), none, []⟩] false))))))
  (.seq (.region [⟨some 19, .mov (.tmp 3), none, []⟩,
    ⟨some 2, .mov (.tmp 19), none, []⟩] false)
  .ret))))
def a13 : AFunc := ⟨20, c13, [.tmp 2], 0⟩

/-- blindstamp/chain.Shown -/
def c14 : ACode :=
  (.seq (.region [⟨some 4, .box 42 (.tmp 1), none, [1, 2, 3]⟩,
    ⟨some 5, .box 29 (.tmp 2), none, [0, 2, 3]⟩,
    ⟨some 6, .mov (.const (.bool false)), none, [0, 1]⟩,
    ⟨some 7, .mov (.const (.int .i64 0)), none, [0, 1]⟩] false)
  (.seq (.seq (.region [⟨some 10, .mov (.tmp 0), none, [1, 2]⟩,
    ⟨some 11, .load 4 true (.tmp 4), none, [0, 2]⟩,
    ⟨some 12, .load 2 true (.tmp 5), none, [0, 1]⟩,
    ⟨some 13, .call (.func 26) [(.tmp 10), (.tmp 11), (.tmp 12)], none, []⟩,
    ⟨some 8, .mov (.tmp 13), none, []⟩] false)
  (.seq (.region [⟨some 14, .mov (.tmp 8), none, []⟩,
    ⟨some 15, .pur (mkO (.binOp .neq 23 (.tmp 14) (.const (.int .i64 0)) 23) 4), none, []⟩] false)
  (.cond (.tmp 15)
    (.seq (.region [⟨some 16, .mov (.tmp 8), none, [1]⟩,
      ⟨some 6, .mov (.const (.bool false)), none, [0]⟩,
      ⟨some 7, .mov (.tmp 16), none, []⟩] false)
    .ret)
    .skip)))
  (.seq (.region [⟨some 17, .mkfn 27 [] [(.tmp 5)], none, []⟩,
    ⟨some 9, .mov (.tmp 17), none, []⟩] false)
  (.seq (.region [⟨some 18, .mov (.tmp 0), none, [1, 2, 4]⟩,
    ⟨some 19, .load 4 true (.tmp 4), none, [0, 2, 4]⟩,
    ⟨some 20, .load 2 true (.tmp 5), none, [0, 1, 4]⟩,
    ⟨some 21, .call (.func 29) [(.tmp 18), (.tmp 19), (.tmp 20)], none, [4]⟩,
    ⟨some 22, .mov (.tmp 9), none, [0, 1, 2, 3]⟩,
    ⟨some 23, .call (.func 28) [(.tmp 21), (.tmp 22)], none, []⟩,
    ⟨some 24, .pur (mkO (.unOp .not 4 (.tmp 23)) 4), none, []⟩,
    ⟨some 6, .mov (.tmp 24), none, []⟩,
    ⟨some 7, .mov (.const (.int .i64 0)), none, []⟩] false)
  .ret))))
def a14 : AFunc := ⟨25, c14, [.tmp 6, .tmp 7], 1⟩

/-- blindstamp/doc.Check -/
def c15 : ACode :=
  (.seq (.region [⟨some 2, .mov (.const (.int .i64 0)), none, []⟩] false)
  (.seq (.seq (.region [⟨some 6, .mov (.tmp 0), none, []⟩,
    ⟨some 7, .call (.func 30) [(.tmp 6)], none, []⟩,
    ⟨some 5, .mov (.tmp 7), none, []⟩,
    ⟨some 8, .ext (.tmp 5) 0, none, [4]⟩,
    ⟨some 9, .ext (.tmp 5) 1, none, [3, 5]⟩,
    ⟨some 3, .mov (.tmp 8), none, [4]⟩,
    ⟨some 4, .mov (.tmp 9), none, []⟩] false)
  (.seq (.region [⟨some 10, .mov (.tmp 4), none, []⟩,
    ⟨some 11, .pur (mkO (.unOp .not 4 (.tmp 10)) 4), none, []⟩] false)
  (.cond (.tmp 11)
    (.seq (.region [⟨some 2, .mov (.const (.int .i64 8)), none, []⟩] false)
    .ret)
    .skip)))
  (.seq (.region [⟨some 2, .mov (.const (.int .i64 0)), none, []⟩] false)
  .ret)))
def a15 : AFunc := ⟨12, c15, [.tmp 2], 1⟩

/-- blindstamp/stream.hide -/
def c16 : ACode :=
  (.seq (.region [⟨some 3, .box 22 (.tmp 0), none, [1, 2, 3]⟩,
    ⟨some 4, .box 46 (.tmp 1), none, [0, 2, 3]⟩,
    ⟨some 5, .box 29 (.tmp 2), none, [0, 1, 3]⟩,
    ⟨some 6, .alloc 46 (.agg #[(.int .u8 0), (.int .u8 0), (.int .u32 0), (.int .u8 0), (.int .i64 0), (.int .u8 0), (.int .u32 0), (.int .u8 0), (.int .i64 0), (.int .i64 0), (.int .u8 0), (.int .u32 0), (.int .u8 0), (.int .i64 0), (.int .u8 0), (.int .u32 0), (.slice none 0 0)]), none, [0, 1, 2]⟩] false)
  (.seq (.region [⟨some 9, .load 17 true (.tmp 4), none, []⟩,
    ⟨some 10, .call (.func 22) [(.tmp 9)], none, []⟩,
    ⟨none, .store 17 (.tmp 4) (.tmp 10), none, []⟩] false)
  (.seq (.region [⟨some 11, .mkfn 31 [] [(.tmp 4), (.tmp 3), (.tmp 5)], none, []⟩,
    ⟨some 7, .mov (.tmp 11), none, []⟩] false)
  (.seq (.seq (.region [⟨some 12, .fad 16 (.tmp 4), none, [3]⟩,
    ⟨some 13, .load 1 false (.tmp 12), none, [3]⟩,
    ⟨some 14, .len (.tmp 13), none, [3]⟩,
    ⟨some 15, .mov (.const (.int .i64 0)), none, [0, 1, 2]⟩] false)
  (.block 0 (.loop (.seq (.region [⟨some 16, .pur (mkO (.binOp .lss 3 (.tmp 15) (.tmp 14) 3) 0), none, []⟩] false)
      (.seq (.cond (.tmp 16)
        .skip
        (.exit 0))
      (.seq (.block 1 (.seq (.region [⟨some 17, .mov (.tmp 15), none, []⟩,
          ⟨some 8, .mov (.tmp 17), none, []⟩] false)
        (.region [⟨some 18, .mov (.tmp 7), none, [1]⟩,
          ⟨some 19, .mov (.tmp 8), none, [0]⟩,
          ⟨some 20, .call (.tmp 18) [(.tmp 19)], none, []⟩] false)))
      (.region [⟨some 21, .pur (mkO (.binOp .add 3 (.tmp 15) (.const (.int .i64 1)) 3) 3), none, []⟩,
        ⟨some 15, .mov (.tmp 21), none, []⟩] false)))))))
  (.seq (.region [⟨some 22, .load 17 true (.tmp 4), none, []⟩,
    ⟨none, .store 17 (.tmp 6) (.tmp 22), none, []⟩] false)
  .ret)))))
def a16 : AFunc := ⟨23, c16, [.cell 6 17 true], 0⟩

/-- blindstamp/blindstamplaw21.of -/
def c17 : ACode :=
  (.seq (.region [⟨some 4, .alloc 42 (.agg #[(.int .u8 0), (.int .u32 0), (.int .u8 0), (.int .i64 0)]), none, []⟩] false)
  (.seq (.region [⟨some 5, .mov (.tmp 0), none, [3]⟩,
    ⟨some 6, .build (.agg #[(.int .u8 0), (.int .u32 0)]) [(0, 1, (.tmp 5))], none, [3]⟩,
    ⟨some 7, .build (.agg #[(.int .u8 0), (.int .u32 0), (.int .u8 0)]) [(0, 2, (.tmp 6))], none, [3]⟩,
    ⟨some 8, .mov (.tmp 1), none, [0, 1, 2]⟩,
    ⟨some 9, .build (.agg #[(.int .u8 0), (.int .u32 0), (.int .u8 0), (.int .i64 0)]) [(0, 3, (.tmp 7)), (3, 1, (.tmp 8))], none, []⟩,
    ⟨none, .store 4 (.tmp 4) (.tmp 9), none, []⟩] false)
  .ret))
def a17 : AFunc := ⟨10, c17, [.cell 4 4 true], 1⟩

/-- blindstamp/label.Check -/
def c18 : ACode :=
  (.seq (.region [⟨some 1, .box 29 (.tmp 0), none, [1]⟩,
    ⟨some 2, .mov (.const (.int .i64 0)), none, [0]⟩] false)
  (.seq (.seq (.region [⟨some 3, .fad 0 (.tmp 1), none, []⟩,
    ⟨some 4, .load 1 false (.tmp 3), none, []⟩,
    ⟨some 5, .pur (mkO (.binOp .gtr 5 (.tmp 4) (.const (.int .u8 15)) 5) 4), none, []⟩] false)
  (.cond (.tmp 5)
    (.seq (.region [⟨some 2, .mov (.const (.int .i64 8)), none, []⟩] false)
    .ret)
    .skip))
  (.seq (.region [⟨some 2, .mov (.const (.int .i64 0)), none, []⟩] false)
  .ret)))
def a18 : AFunc := ⟨6, c18, [.tmp 2], 1⟩

/-- blindstamp/stream.Take$1 -/
def c19 : ACode :=
  (.seq (.region [⟨some 2, .box 46 (.tmp 0), none, [1]⟩,
    ⟨some 3, .mov (.const (.bool false)), none, [0]⟩] false)
  (.seq (.region [⟨some 4, .fad 1 (.tmp 2), none, [3]⟩,
    ⟨some 5, .fad 0 (.tmp 4), none, [3]⟩,
    ⟨some 6, .load 2 true (.tmp 5), none, [3]⟩,
    ⟨some 7, .load 2 true (.tmp 1), none, [0, 1, 2]⟩,
    ⟨some 8, .call (.func 20) [(.tmp 6), (.tmp 7)], none, []⟩,
    ⟨some 9, .pur (mkO (.unOp .not 4 (.tmp 8)) 4), none, []⟩,
    ⟨some 3, .mov (.tmp 9), none, []⟩] false)
  .ret))
def a19 : AFunc := ⟨10, c19, [.tmp 3], 0⟩

/-- blindstamp/label.Leq -/
def c20 : ACode :=
  (.seq (.region [⟨some 2, .box 29 (.tmp 0), none, [1, 2]⟩,
    ⟨some 3, .box 29 (.tmp 1), none, [0, 2]⟩,
    ⟨some 4, .mov (.const (.bool false)), none, [0, 1]⟩] false)
  (.seq (.region [⟨some 5, .fad 0 (.tmp 2), none, [2, 3]⟩,
    ⟨some 6, .load 1 false (.tmp 5), none, [2, 3]⟩,
    ⟨some 7, .fad 0 (.tmp 3), none, [0, 1]⟩,
    ⟨some 8, .load 1 false (.tmp 7), none, [0, 1]⟩,
    ⟨some 9, .pur (mkO (.binOp .leq 5 (.tmp 6) (.tmp 8) 5) 4), none, []⟩,
    ⟨some 10, .mov (.tmp 9), none, []⟩,
    ⟨some 11, .fad 1 (.tmp 2), some (10, true), [8, 9]⟩,
    ⟨some 12, .load 1 false (.tmp 11), some (10, true), [8, 9]⟩,
    ⟨some 13, .fad 1 (.tmp 3), some (10, true), [6, 7]⟩,
    ⟨some 14, .load 1 false (.tmp 13), some (10, true), [6, 7]⟩,
    ⟨some 15, .pur (mkO (.binOp .andNot 27 (.tmp 12) (.tmp 14) 27) 27), some (10, true), []⟩,
    ⟨some 16, .pur (mkO (.binOp .eql 27 (.tmp 15) (.const (.int .u32 0)) 27) 4), some (10, true), []⟩,
    ⟨some 17, .pick (.tmp 10) (.tmp 16) (.const (.bool false)), none, []⟩,
    ⟨some 4, .mov (.tmp 17), none, []⟩] false)
  .ret))
def a20 : AFunc := ⟨18, c20, [.tmp 4], 1⟩

/-- slices.Concat[[]blindstamp/api.Op,blindstamp/api.Op] -/
def c21 : ACode :=
  (.seq (.region [⟨some 2, .mov (.const (.slice none 0 0)), none, []⟩] false)
  (.seq (.region [⟨some 3, .mov (.const (.int .i64 0)), none, []⟩] false)
  (.seq (.seq (.region [⟨some 9, .mov (.tmp 0), none, [2]⟩,
    ⟨some 10, .len (.tmp 9), none, [2]⟩,
    ⟨some 11, .mov (.const (.int .i64 0)), none, [0, 1]⟩] false)
  (.block 0 (.loop (.seq (.region [⟨some 12, .pur (mkO (.binOp .lss 3 (.tmp 11) (.tmp 10) 3) 0), none, []⟩] false)
      (.seq (.cond (.tmp 12)
        .skip
        (.exit 0))
      (.seq (.block 1 (.seq (.region [⟨some 13, .iad 1 (.tmp 9) (.tmp 11), none, []⟩,
          ⟨some 14, .load 1 false (.tmp 13), none, []⟩,
          ⟨some 5, .mov (.tmp 14), none, []⟩] false)
        (.seq (.region [⟨some 15, .mov (.tmp 3), none, [1, 2]⟩,
          ⟨some 16, .mov (.tmp 5), none, [0]⟩,
          ⟨some 17, .len (.tmp 16), none, [0]⟩,
          ⟨some 18, .pur (mkO (.binOp .add 3 (.tmp 15) (.tmp 17) 3) 3), none, []⟩,
          ⟨some 3, .mov (.tmp 18), none, []⟩] false)
        (.seq (.region [⟨some 19, .mov (.tmp 3), none, []⟩,
          ⟨some 20, .pur (mkO (.binOp .lss 3 (.tmp 19) (.const (.int .i64 0)) 3) 4), none, []⟩] false)
        (.cond (.tmp 20)
          (.region [⟨some 21, .bad "op", none, []⟩,
            ⟨none, .bad "op", none, []⟩] false)
          .skip)))))
      (.region [⟨some 22, .pur (mkO (.binOp .add 3 (.tmp 11) (.const (.int .i64 1)) 3) 3), none, []⟩,
        ⟨some 11, .mov (.tmp 22), none, []⟩] false)))))))
  (.seq (.region [⟨some 23, .mov (.tmp 3), none, []⟩,
    ⟨some 24, .call (.func 32) [(.const (.slice none 0 0)), (.tmp 23)], none, []⟩,
    ⟨some 6, .mov (.tmp 24), none, []⟩] false)
  (.seq (.seq (.region [⟨some 25, .mov (.tmp 0), none, [2]⟩,
    ⟨some 26, .len (.tmp 25), none, [2]⟩,
    ⟨some 27, .mov (.const (.int .i64 0)), none, [0, 1]⟩] false)
  (.block 2 (.loop (.seq (.region [⟨some 28, .pur (mkO (.binOp .lss 3 (.tmp 27) (.tmp 26) 3) 0), none, []⟩] false)
      (.seq (.cond (.tmp 28)
        .skip
        (.exit 2))
      (.seq (.block 3 (.seq (.region [⟨some 29, .iad 1 (.tmp 25) (.tmp 27), none, []⟩,
          ⟨some 30, .load 1 false (.tmp 29), none, []⟩,
          ⟨some 8, .mov (.tmp 30), none, []⟩] false)
        (.region [⟨some 31, .mov (.tmp 6), none, [1]⟩,
          ⟨some 32, .mov (.tmp 8), none, [0]⟩,
          ⟨some 33, .app 46 17 112 (.agg #[(.int .u8 0), (.int .u8 0), (.int .u32 0), (.int .u8 0), (.int .i64 0), (.int .u8 0), (.int .u32 0), (.int .u8 0), (.int .i64 0), (.int .i64 0), (.int .u8 0), (.int .u32 0), (.int .u8 0), (.int .i64 0), (.int .u8 0), (.int .u32 0), (.slice none 0 0)]) (.tmp 31) (.tmp 32), none, []⟩,
          ⟨some 6, .mov (.tmp 33), none, []⟩] false)))
      (.region [⟨some 34, .pur (mkO (.binOp .add 3 (.tmp 27) (.const (.int .i64 1)) 3) 3), none, []⟩,
        ⟨some 27, .mov (.tmp 34), none, []⟩] false)))))))
  (.seq (.region [⟨some 35, .mov (.tmp 6), none, []⟩,
    ⟨some 2, .mov (.tmp 35), none, []⟩] false)
  .ret))))))
def a21 : AFunc := ⟨36, c21, [.tmp 2], 1⟩

/-- blindstamp/op.Twin -/
def c22 : ACode :=
  (.seq (.region [⟨some 1, .box 46 (.tmp 0), none, [1]⟩,
    ⟨some 2, .alloc 46 (.agg #[(.int .u8 0), (.int .u8 0), (.int .u32 0), (.int .u8 0), (.int .i64 0), (.int .u8 0), (.int .u32 0), (.int .u8 0), (.int .i64 0), (.int .i64 0), (.int .u8 0), (.int .u32 0), (.int .u8 0), (.int .i64 0), (.int .u8 0), (.int .u32 0), (.slice none 0 0)]), none, [0]⟩] false)
  (.seq (.region [⟨some 3, .fad 16 (.tmp 1), none, []⟩,
    ⟨some 4, .load 1 false (.tmp 3), none, []⟩,
    ⟨some 5, .call (.func 33) [(.tmp 4)], none, []⟩,
    ⟨some 6, .fad 16 (.tmp 1), none, []⟩,
    ⟨none, .store 1 (.tmp 6) (.tmp 5), none, []⟩] false)
  (.seq (.region [⟨some 7, .load 17 true (.tmp 1), none, []⟩,
    ⟨none, .store 17 (.tmp 2) (.tmp 7), none, []⟩] false)
  .ret)))
def a22 : AFunc := ⟨8, c22, [.cell 2 17 true], 0⟩

/-- slices.ContainsFunc[[]blindstamp/api.Op,blindstamp/api.Op] -/
def c23 : ACode :=
  (.seq (.region [⟨some 4, .mov (.const (.bool false)), none, []⟩] false)
  (.seq (.region [⟨some 5, .mov (.tmp 0), none, [1]⟩,
    ⟨some 6, .mov (.tmp 1), none, [0]⟩,
    ⟨some 7, .call (.func 34) [(.tmp 5), (.tmp 6)], none, []⟩,
    ⟨some 8, .pur (mkO (.binOp .geq 3 (.tmp 7) (.const (.int .i64 0)) 3) 4), none, []⟩,
    ⟨some 4, .mov (.tmp 8), none, []⟩] false)
  .ret))
def a23 : AFunc := ⟨9, c23, [.tmp 4], 0⟩

/-- blindstamp/blindstampref09.Twin -/
def c24 : ACode :=
  (.seq (.region [⟨some 1, .box 46 (.tmp 0), none, [1]⟩,
    ⟨some 2, .alloc 46 (.agg #[(.int .u8 0), (.int .u8 0), (.int .u32 0), (.int .u8 0), (.int .i64 0), (.int .u8 0), (.int .u32 0), (.int .u8 0), (.int .i64 0), (.int .i64 0), (.int .u8 0), (.int .u32 0), (.int .u8 0), (.int .i64 0), (.int .u8 0), (.int .u32 0), (.slice none 0 0)]), none, [0]⟩] false)
  (.seq (.region [⟨some 3, .fad 16 (.tmp 1), none, []⟩,
    ⟨some 4, .load 1 false (.tmp 3), none, []⟩,
    ⟨some 5, .app 21 1 4 (.int .i32 0) (.const (.slice none 0 0)) (.tmp 4), none, []⟩,
    ⟨some 6, .fad 16 (.tmp 1), none, []⟩,
    ⟨none, .store 1 (.tmp 6) (.tmp 5), none, []⟩] false)
  (.seq (.region [⟨some 7, .load 17 true (.tmp 1), none, []⟩,
    ⟨none, .store 17 (.tmp 2) (.tmp 7), none, []⟩] false)
  .ret)))
def a24 : AFunc := ⟨8, c24, [.cell 2 17 true], 0⟩

/-- blindstamp/blindstampref09.Same -/
def c25 : ACode :=
  (.seq (.region [⟨some 2, .box 46 (.tmp 0), none, [1, 2]⟩,
    ⟨some 3, .box 46 (.tmp 1), none, [0, 2]⟩,
    ⟨some 4, .mov (.const (.bool false)), none, [0, 1]⟩] false)
  (.seq (.region [⟨some 5, .fad 0 (.tmp 2), none, [2, 3]⟩,
    ⟨some 6, .load 1 false (.tmp 5), none, [2, 3]⟩,
    ⟨some 7, .fad 0 (.tmp 3), none, [0, 1]⟩,
    ⟨some 8, .load 1 false (.tmp 7), none, [0, 1]⟩,
    ⟨some 9, .pur (mkO (.binOp .eql 5 (.tmp 6) (.tmp 8) 5) 4), none, []⟩,
    ⟨some 10, .mov (.tmp 9), none, []⟩,
    ⟨some 11, .fad 1 (.tmp 2), some (10, true), [8, 9]⟩,
    ⟨some 12, .load 3 true (.tmp 11), some (10, true), [8, 9]⟩,
    ⟨some 13, .fad 1 (.tmp 3), some (10, true), [6, 7]⟩,
    ⟨some 14, .load 3 true (.tmp 13), some (10, true), [6, 7]⟩,
    ⟨some 15, .pur (mkO (.binOp .eql 40 (.tmp 12) (.tmp 14) 40) 4), some (10, true), []⟩,
    ⟨some 16, .pick (.tmp 10) (.tmp 15) (.const (.bool false)), none, []⟩,
    ⟨some 17, .mov (.tmp 16), none, []⟩,
    ⟨some 18, .fad 4 (.tmp 2), some (17, true), [15, 16]⟩,
    ⟨some 19, .load 1 false (.tmp 18), some (17, true), [15, 16]⟩,
    ⟨some 20, .fad 4 (.tmp 3), some (17, true), [13, 14]⟩,
    ⟨some 21, .load 1 false (.tmp 20), some (17, true), [13, 14]⟩,
    ⟨some 22, .pur (mkO (.binOp .eql 3 (.tmp 19) (.tmp 21) 3) 4), some (17, true), []⟩,
    ⟨some 23, .pick (.tmp 17) (.tmp 22) (.const (.bool false)), none, []⟩,
    ⟨some 24, .mov (.tmp 23), none, []⟩,
    ⟨some 25, .fad 5 (.tmp 2), some (24, true), [22, 23]⟩,
    ⟨some 26, .load 5 true (.tmp 25), some (24, true), [22, 23]⟩,
    ⟨some 27, .fad 5 (.tmp 3), some (24, true), [20, 21]⟩,
    ⟨some 28, .load 5 true (.tmp 27), some (24, true), [20, 21]⟩,
    ⟨some 29, .pur (mkO (.binOp .eql 44 (.tmp 26) (.tmp 28) 44) 4), some (24, true), []⟩,
    ⟨some 30, .pick (.tmp 24) (.tmp 29) (.const (.bool false)), none, []⟩,
    ⟨some 31, .mov (.tmp 30), none, []⟩,
    ⟨some 32, .fad 10 (.tmp 2), some (31, true), [29, 30]⟩,
    ⟨some 33, .load 4 true (.tmp 32), some (31, true), [29, 30]⟩,
    ⟨some 34, .fad 10 (.tmp 3), some (31, true), [27, 28]⟩,
    ⟨some 35, .load 4 true (.tmp 34), some (31, true), [27, 28]⟩,
    ⟨some 36, .pur (mkO (.binOp .eql 42 (.tmp 33) (.tmp 35) 42) 4), some (31, true), []⟩,
    ⟨some 37, .pick (.tmp 31) (.tmp 36) (.const (.bool false)), none, []⟩,
    ⟨some 38, .mov (.tmp 37), none, []⟩,
    ⟨some 39, .fad 14 (.tmp 2), some (38, true), [36, 37]⟩,
    ⟨some 40, .load 2 true (.tmp 39), some (38, true), [36, 37]⟩,
    ⟨some 41, .fad 14 (.tmp 3), some (38, true), [34, 35]⟩,
    ⟨some 42, .load 2 true (.tmp 41), some (38, true), [34, 35]⟩,
    ⟨some 43, .pur (mkO (.binOp .eql 29 (.tmp 40) (.tmp 42) 29) 4), some (38, true), []⟩,
    ⟨some 44, .pick (.tmp 38) (.tmp 43) (.const (.bool false)), none, []⟩,
    ⟨some 45, .mov (.tmp 44), none, []⟩,
    ⟨some 46, .fad 16 (.tmp 2), some (45, true), [43, 44]⟩,
    ⟨some 47, .load 1 false (.tmp 46), some (45, true), [43, 44]⟩,
    ⟨some 48, .fad 16 (.tmp 3), some (45, true), [41, 42]⟩,
    ⟨some 49, .load 1 false (.tmp 48), some (45, true), [41, 42]⟩,
    ⟨some 50, .call (.func 35) [(.tmp 47), (.tmp 49)], some (45, true), []⟩,
    ⟨some 51, .pick (.tmp 45) (.tmp 50) (.const (.bool false)), none, []⟩,
    ⟨some 4, .mov (.tmp 51), none, []⟩] false)
  .ret))
def a25 : AFunc := ⟨52, c25, [.tmp 4], 1⟩

/-- blindstamp/chain.asked -/
def c26 : ACode :=
  (.seq (.region [⟨some 4, .box 42 (.tmp 1), none, [1, 2]⟩,
    ⟨some 5, .box 29 (.tmp 2), none, [0, 2]⟩,
    ⟨some 6, .mov (.const (.int .i64 0)), none, [0, 1]⟩] false)
  (.seq (.seq (.region [⟨some 8, .mov (.tmp 0), none, []⟩,
    ⟨some 9, .call (.func 36) [(.tmp 8)], none, []⟩,
    ⟨some 7, .mov (.tmp 9), none, []⟩] false)
  (.seq (.region [⟨some 10, .mov (.tmp 7), none, []⟩,
    ⟨some 11, .pur (mkO (.binOp .neq 23 (.tmp 10) (.const (.int .i64 0)) 23) 4), none, []⟩] false)
  (.cond (.tmp 11)
    (.seq (.region [⟨some 12, .mov (.tmp 7), none, []⟩,
      ⟨some 6, .mov (.tmp 12), none, []⟩] false)
    .ret)
    .skip)))
  (.seq (.region [⟨some 13, .load 4 true (.tmp 4), none, [2]⟩,
    ⟨some 14, .call (.func 37) [(.tmp 13)], none, [2]⟩,
    ⟨some 15, .load 2 true (.tmp 5), none, [0, 1]⟩,
    ⟨some 16, .call (.func 18) [(.tmp 15)], none, []⟩,
    ⟨some 17, .pur (mkO (.call ⟨.builtin .max, #[(.tmp 14), (.tmp 16)], #[23, 23]⟩) 23), none, []⟩,
    ⟨some 6, .mov (.tmp 17), none, []⟩] true)
  .ret)))
def a26 : AFunc := ⟨18, c26, [.tmp 6], 1⟩

/-- blindstamp/chain.Shown$1 -/
def c27 : ACode :=
  (.seq (.region [⟨some 2, .box 29 (.tmp 0), none, [1]⟩,
    ⟨some 3, .mov (.const (.bool false)), none, [0]⟩] false)
  (.seq (.region [⟨some 4, .load 2 true (.tmp 2), none, [1]⟩,
    ⟨some 5, .load 2 true (.tmp 1), none, [0]⟩,
    ⟨some 6, .call (.func 20) [(.tmp 4), (.tmp 5)], none, []⟩,
    ⟨some 7, .pur (mkO (.unOp .not 4 (.tmp 6)) 4), none, []⟩,
    ⟨some 3, .mov (.tmp 7), none, []⟩] false)
  .ret))
def a27 : AFunc := ⟨8, c27, [.tmp 3], 0⟩

/-- slices.ContainsFunc[[]blindstamp/api.Label,blindstamp/api.Label] -/
def c28 : ACode :=
  (.seq (.region [⟨some 4, .mov (.const (.bool false)), none, []⟩] false)
  (.seq (.region [⟨some 5, .mov (.tmp 0), none, [1]⟩,
    ⟨some 6, .mov (.tmp 1), none, [0]⟩,
    ⟨some 7, .call (.func 38) [(.tmp 5), (.tmp 6)], none, []⟩,
    ⟨some 8, .pur (mkO (.binOp .geq 3 (.tmp 7) (.const (.int .i64 0)) 3) 4), none, []⟩,
    ⟨some 4, .mov (.tmp 8), none, []⟩] false)
  .ret))
def a28 : AFunc := ⟨9, c28, [.tmp 4], 0⟩

/-- blindstamp/chain.made -/
def c29 : ACode :=
  (.seq (.region [⟨some 4, .box 42 (.tmp 1), none, [1, 2]⟩,
    ⟨some 5, .box 29 (.tmp 2), none, [0, 2]⟩,
    ⟨some 6, .mov (.const (.slice none 0 0)), none, [0, 1]⟩] false)
  (.seq (.region [⟨some 9, .fad 0 (.tmp 4), none, [4]⟩,
    ⟨some 10, .fad 0 (.tmp 9), none, [4]⟩,
    ⟨some 11, .load 2 true (.tmp 10), none, [4]⟩,
    ⟨some 12, .bsl 29 2 (.agg #[(.int .u8 0), (.int .u32 0)]) 1 [(0, 2, (.tmp 11))], none, [4]⟩,
    ⟨some 7, .alloc 63 (.slice none 0 0), none, [0, 1, 2, 3]⟩,
    ⟨none, .store 1 (.tmp 7) (.tmp 12), none, []⟩] false)
  (.seq (.seq (.region [⟨some 13, .mov (.tmp 0), none, [1, 2]⟩,
    ⟨some 14, .load 4 true (.tmp 4), none, [0, 2]⟩,
    ⟨some 15, .load 2 true (.tmp 5), none, [0, 1]⟩,
    ⟨some 16, .call (.func 39) [(.tmp 13), (.tmp 14), (.tmp 15)], none, []⟩] false)
  (.block 0 (.rangeFunc (.tmp 16) [17] (.region [⟨some 8, .alloc 29 (.agg #[(.int .u8 0), (.int .u32 0)]), none, []⟩,
        ⟨none, .store 2 (.tmp 8) (.tmp 17), none, []⟩] false) (.block 1 (.seq (.region [⟨some 18, .load 1 false (.tmp 7), none, [1]⟩,
          ⟨some 19, .load 2 true (.tmp 8), none, [0]⟩,
          ⟨some 20, .call (.func 40) [(.tmp 18), (.tmp 19)], none, []⟩,
          ⟨some 21, .pur (mkO (.unOp .not 4 (.tmp 20)) 4), none, []⟩] false)
        (.cond (.tmp 21)
          (.region [⟨some 22, .load 1 false (.tmp 7), none, [1, 2]⟩,
            ⟨some 23, .load 2 true (.tmp 8), none, [0]⟩,
            ⟨some 24, .bsl 29 2 (.agg #[(.int .u8 0), (.int .u32 0)]) 1 [(0, 2, (.tmp 23))], none, [0]⟩,
            ⟨some 25, .app 29 2 8 (.agg #[(.int .u8 0), (.int .u32 0)]) (.tmp 22) (.tmp 24), none, []⟩,
            ⟨none, .store 1 (.tmp 7) (.tmp 25), none, []⟩] false)
          .skip))))))
  (.seq (.region [⟨some 26, .load 1 false (.tmp 7), none, []⟩,
    ⟨some 6, .mov (.tmp 26), none, []⟩] false)
  .ret))))
def a29 : AFunc := ⟨27, c29, [.tmp 6], 1⟩

/-- blindstamp/doc.of -/
def c30 : ACode :=
  (.seq (.region [⟨some 2, .mov (.const (.pointer none)), none, []⟩,
    ⟨some 3, .mov (.const (.bool false)), none, []⟩] false)
  (.seq (.region [⟨some 9, .mkmap, none, []⟩,
    ⟨some 10, .build (.agg #[(.slice none 0 0), (.map none)]) [(1, 1, (.tmp 9))], none, []⟩,
    ⟨some 11, .box 82 (.tmp 10), none, []⟩,
    ⟨some 4, .mov (.tmp 11), none, []⟩] false)
  (.seq (.seq (.region [⟨some 12, .mov (.tmp 0), none, [2]⟩,
    ⟨some 13, .len (.tmp 12), none, [2]⟩,
    ⟨some 14, .mov (.const (.int .i64 0)), none, [0, 1]⟩] false)
  (.block 0 (.loop (.seq (.region [⟨some 15, .pur (mkO (.binOp .lss 3 (.tmp 14) (.tmp 13) 3) 0), none, []⟩] false)
      (.seq (.cond (.tmp 15)
        .skip
        (.exit 0))
      (.seq (.block 1 (.seq (.region [⟨some 16, .iad 17 (.tmp 12) (.tmp 14), none, [2]⟩,
          ⟨some 17, .load 17 true (.tmp 16), none, [2]⟩,
          ⟨some 6, .alloc 46 (.agg #[(.int .u8 0), (.int .u8 0), (.int .u32 0), (.int .u8 0), (.int .i64 0), (.int .u8 0), (.int .u32 0), (.int .u8 0), (.int .i64 0), (.int .i64 0), (.int .u8 0), (.int .u32 0), (.int .u8 0), (.int .i64 0), (.int .u8 0), (.int .u32 0), (.slice none 0 0)]), none, [0, 1]⟩,
          ⟨none, .store 17 (.tmp 6) (.tmp 17), none, []⟩] false)
        (.seq (.seq (.region [⟨some 18, .load 17 true (.tmp 6), none, []⟩,
          ⟨some 19, .call (.func 41) [(.tmp 18)], none, []⟩,
          ⟨some 20, .pur (mkO (.binOp .neq 23 (.tmp 19) (.const (.int .i64 0)) 23) 4), none, []⟩,
          ⟨some 21, .mov (.tmp 20), none, []⟩,
          ⟨some 22, .mov (.tmp 4), some (21, false), [5]⟩,
          ⟨some 23, .load 17 true (.tmp 6), some (21, false), [4]⟩,
          ⟨some 24, .call (.func 42) [(.tmp 22), (.tmp 23)], some (21, false), []⟩,
          ⟨some 25, .pur (mkO (.binOp .neq 23 (.tmp 24) (.const (.int .i64 0)) 23) 4), some (21, false), []⟩,
          ⟨some 26, .pick (.tmp 21) (.const (.bool true)) (.tmp 25), none, []⟩] false)
        (.cond (.tmp 26)
          (.seq (.region [⟨some 2, .mov (.const (.pointer none)), none, []⟩,
            ⟨some 3, .mov (.const (.bool false)), none, []⟩] false)
          .ret)
          .skip))
        (.seq (.region [⟨some 27, .mov (.tmp 4), none, [1, 2, 3, 4, 5, 6, 7]⟩,
          ⟨some 28, .mov (.tmp 4), none, [0, 5, 6]⟩,
          ⟨some 29, .nilck (.tmp 28), none, [0, 5, 6]⟩,
          ⟨some 30, .fad 0 (.tmp 29), none, [0, 5, 6]⟩,
          ⟨some 31, .load 1 false (.tmp 30), none, [0, 5, 6]⟩,
          ⟨some 32, .load 17 true (.tmp 6), none, [0, 1, 2, 3, 4]⟩,
          ⟨some 33, .bsl 46 17 (.agg #[(.int .u8 0), (.int .u8 0), (.int .u32 0), (.int .u8 0), (.int .i64 0), (.int .u8 0), (.int .u32 0), (.int .u8 0), (.int .i64 0), (.int .i64 0), (.int .u8 0), (.int .u32 0), (.int .u8 0), (.int .i64 0), (.int .u8 0), (.int .u32 0), (.slice none 0 0)]) 1 [(0, 17, (.tmp 32))], none, [0, 1, 2, 3, 4]⟩,
          ⟨some 34, .app 46 17 112 (.agg #[(.int .u8 0), (.int .u8 0), (.int .u32 0), (.int .u8 0), (.int .i64 0), (.int .u8 0), (.int .u32 0), (.int .u8 0), (.int .i64 0), (.int .i64 0), (.int .u8 0), (.int .u32 0), (.int .u8 0), (.int .i64 0), (.int .u8 0), (.int .u32 0), (.slice none 0 0)]) (.tmp 31) (.tmp 33), none, [0]⟩,
          ⟨some 35, .nilck (.tmp 27), none, []⟩,
          ⟨some 36, .fad 0 (.tmp 35), none, []⟩,
          ⟨none, .store 1 (.tmp 36) (.tmp 34), none, []⟩] true)
        (.seq (.region [⟨some 37, .fad 0 (.tmp 6), none, []⟩,
          ⟨some 38, .load 1 false (.tmp 37), none, []⟩,
          ⟨some 39, .pur (mkO (.binOp .eql 5 (.tmp 38) (.const (.int .u8 1)) 5) 4), none, []⟩] false)
        (.cond (.tmp 39)
          (.seq (.region [⟨some 40, .fad 5 (.tmp 6), none, [4]⟩,
            ⟨some 41, .load 5 true (.tmp 40), none, [4]⟩,
            ⟨some 42, .call (.func 43) [(.tmp 41)], none, [4]⟩,
            ⟨some 43, .len (.tmp 42), none, [4]⟩,
            ⟨some 44, .mov (.const (.int .i64 0)), none, [0, 1, 2, 3]⟩] false)
          (.block 2 (.loop (.seq (.region [⟨some 45, .pur (mkO (.binOp .lss 3 (.tmp 44) (.tmp 43) 3) 0), none, []⟩] false)
              (.seq (.cond (.tmp 45)
                .skip
                (.exit 2))
              (.seq (.block 3 (.seq (.region [⟨some 46, .iad 4 (.tmp 42) (.tmp 44), none, [2]⟩,
                  ⟨some 47, .load 4 true (.tmp 46), none, [2]⟩,
                  ⟨some 8, .alloc 42 (.agg #[(.int .u8 0), (.int .u32 0), (.int .u8 0), (.int .i64 0)]), none, [0, 1]⟩,
                  ⟨none, .store 4 (.tmp 8) (.tmp 47), none, []⟩] false)
                (.region [⟨some 48, .mov (.tmp 4), none, [4]⟩,
                  ⟨some 49, .nilck (.tmp 48), none, [4]⟩,
                  ⟨some 50, .fad 1 (.tmp 49), none, [4]⟩,
                  ⟨some 51, .load 1 false (.tmp 50), none, [4]⟩,
                  ⟨some 52, .load 4 true (.tmp 8), none, [0, 1, 2, 3]⟩,
                  ⟨none, .mupd 42 (.tmp 51) (.tmp 52) (.const (.bool true)), none, []⟩] true)))
              (.region [⟨some 53, .pur (mkO (.binOp .add 3 (.tmp 44) (.const (.int .i64 1)) 3) 3), none, []⟩,
                ⟨some 44, .mov (.tmp 53), none, []⟩] false)))))))
          .skip))))))
      (.region [⟨some 54, .pur (mkO (.binOp .add 3 (.tmp 14) (.const (.int .i64 1)) 3) 3), none, []⟩,
        ⟨some 14, .mov (.tmp 54), none, []⟩] false)))))))
  (.seq (.region [⟨some 55, .mov (.tmp 4), none, []⟩,
    ⟨some 2, .mov (.tmp 55), none, []⟩,
    ⟨some 3, .mov (.const (.bool true)), none, []⟩] false)
  .ret))))
def a30 : AFunc := ⟨56, c30, [.tmp 2, .tmp 3], 0⟩

/-- blindstamp/stream.hide$1 -/
def c31 : ACode :=
  (.seq (.region [⟨some 8, .fad 5 (.tmp 1), none, [4, 5, 6, 7, 8, 9, 11]⟩,
    ⟨some 9, .fad 0 (.tmp 8), none, [4, 5, 6, 7, 8, 9, 11]⟩,
    ⟨some 10, .fad 0 (.tmp 9), none, [4, 5, 6, 7, 8, 9, 11]⟩,
    ⟨some 11, .load 3 true (.tmp 10), none, [4, 5, 6, 7, 8, 9, 11]⟩,
    ⟨some 12, .fad 5 (.tmp 1), none, [0, 1, 2, 3, 8, 11]⟩,
    ⟨some 13, .fad 0 (.tmp 12), none, [0, 1, 2, 3, 8, 11]⟩,
    ⟨some 14, .fad 3 (.tmp 13), none, [0, 1, 2, 3, 8, 11]⟩,
    ⟨some 15, .load 1 false (.tmp 14), none, [0, 1, 2, 3, 8, 11]⟩,
    ⟨some 16, .mov (.tmp 0), none, [0, 1, 2, 3, 4, 5, 6, 7, 11]⟩,
    ⟨some 17, .pur (mkO (.binOp .add 3 (.tmp 15) (.tmp 16) 3) 3), none, [0, 1, 2, 3, 11]⟩,
    ⟨some 18, .build (.agg #[(.int .u8 0), (.int .u32 0), (.int .u8 0), (.int .i64 0)]) [(0, 3, (.tmp 11)), (3, 1, (.tmp 17))], none, [11]⟩,
    ⟨some 5, .alloc 42 (.agg #[(.int .u8 0), (.int .u32 0), (.int .u8 0), (.int .i64 0)]), none, [0, 1, 2, 3, 4, 5, 6, 7, 8, 9, 10]⟩,
    ⟨none, .store 4 (.tmp 5) (.tmp 18), none, []⟩] false)
  (.seq (.region [⟨some 20, .load 1 false (.tmp 2), none, [1, 2]⟩,
    ⟨some 21, .load 4 true (.tmp 5), none, [0, 2]⟩,
    ⟨some 22, .load 2 true (.tmp 3), none, [0, 1]⟩,
    ⟨some 23, .call (.func 14) [(.tmp 20), (.tmp 21), (.tmp 22)], none, []⟩,
    ⟨some 19, .mov (.tmp 23), none, []⟩,
    ⟨some 24, .ext (.tmp 19) 0, none, [6]⟩,
    ⟨some 25, .ext (.tmp 19) 1, none, [5, 7]⟩,
    ⟨some 6, .mov (.tmp 24), none, [6]⟩,
    ⟨some 7, .mov (.tmp 25), none, []⟩] false)
  (.seq (.region [⟨some 26, .mov (.tmp 6), none, []⟩,
    ⟨some 27, .pur (mkO (.unOp .not 4 (.tmp 26)) 4), none, []⟩] false)
  (.cond (.tmp 27)
    (.region [⟨some 28, .fad 16 (.tmp 1), none, [2]⟩,
      ⟨some 29, .load 1 false (.tmp 28), none, [2]⟩,
      ⟨some 30, .mov (.tmp 0), none, [0, 1]⟩,
      ⟨some 31, .iad 1 (.tmp 29) (.tmp 30), none, []⟩,
      ⟨none, .store 1 (.tmp 31) (.const (.int .i32 (-1))), none, []⟩] false)
    .skip))))
def a31 : AFunc := ⟨32, c31, [], 0⟩

/-- slices.Grow[[]blindstamp/api.Op,blindstamp/api.Op] -/
def c32 : ACode :=
  (.seq (.region [⟨some 4, .mov (.const (.slice none 0 0)), none, []⟩] false)
  (.seq (.seq (.region [⟨some 5, .mov (.tmp 1), none, []⟩,
    ⟨some 6, .pur (mkO (.binOp .lss 3 (.tmp 5) (.const (.int .i64 0)) 3) 4), none, []⟩] false)
  (.cond (.tmp 6)
    (.region [⟨some 7, .bad "op", none, []⟩,
      ⟨none, .bad "op", none, []⟩] false)
    .skip))
  (.seq (.seq (.region [⟨some 8, .mov (.tmp 1), none, [1, 2, 3, 4, 5]⟩,
    ⟨some 9, .mov (.tmp 0), none, [0, 3, 4]⟩,
    ⟨some 10, .cap (.tmp 9), none, [0, 3, 4]⟩,
    ⟨some 11, .mov (.tmp 0), none, [0, 1, 2]⟩,
    ⟨some 12, .len (.tmp 11), none, [0, 1, 2]⟩,
    ⟨some 13, .pur (mkO (.binOp .sub 3 (.tmp 10) (.tmp 12) 3) 3), none, [0]⟩,
    ⟨some 14, .pur (mkO (.binOp .sub 3 (.tmp 8) (.tmp 13) 3) 3), none, []⟩,
    ⟨some 1, .mov (.tmp 14), none, []⟩] false)
  (.seq (.region [⟨some 15, .mov (.tmp 1), none, []⟩,
    ⟨some 16, .pur (mkO (.binOp .gtr 3 (.tmp 15) (.const (.int .i64 0)) 3) 4), none, []⟩] false)
  (.cond (.tmp 16)
    (.region [⟨some 17, .mov (.tmp 0), none, [1, 2, 4, 6, 7]⟩,
      ⟨some 18, .mov (.tmp 0), none, [0, 4, 6, 7]⟩,
      ⟨some 19, .cap (.tmp 18), none, [0, 4, 6, 7]⟩,
      ⟨some 20, .slc 17 (.tmp 17) none (some (.tmp 19)) none, none, [4, 6, 7]⟩,
      ⟨some 21, .mov (.tmp 1), none, [0, 1, 2, 3, 6, 7]⟩,
      ⟨some 22, .appz 46 17 112 (.agg #[(.int .u8 0), (.int .u8 0), (.int .u32 0), (.int .u8 0), (.int .i64 0), (.int .u8 0), (.int .u32 0), (.int .u8 0), (.int .i64 0), (.int .i64 0), (.int .u8 0), (.int .u32 0), (.int .u8 0), (.int .i64 0), (.int .u8 0), (.int .u32 0), (.slice none 0 0)]) (.tmp 20) (.tmp 21), none, [6, 7]⟩,
      ⟨some 23, .mov (.tmp 0), none, [0, 1, 2, 3, 4, 5]⟩,
      ⟨some 24, .len (.tmp 23), none, [0, 1, 2, 3, 4, 5]⟩,
      ⟨some 25, .slc 17 (.tmp 22) none (some (.tmp 24)) none, none, []⟩,
      ⟨some 0, .mov (.tmp 25), none, []⟩] false)
    .skip)))
  (.seq (.region [⟨some 26, .mov (.tmp 0), none, []⟩,
    ⟨some 4, .mov (.tmp 26), none, []⟩] false)
  .ret))))
def a32 : AFunc := ⟨27, c32, [.tmp 4], 0⟩

/-- slices.Clone[[]int32,int32] -/
def c33 : ACode :=
  (.seq (.region [⟨some 2, .mov (.const (.slice none 0 0)), none, []⟩] false)
  (.seq (.seq (.region [⟨some 3, .mov (.tmp 0), none, []⟩,
    ⟨some 4, .eqnil false 1 (.tmp 3) (mkO (.binOp .eql 34 (.tmp 3) (.const (.slice none 0 0)) 34) 4), none, []⟩] false)
  (.cond (.tmp 4)
    (.seq (.region [⟨some 2, .mov (.const (.slice none 0 0)), none, []⟩] false)
    .ret)
    .skip))
  (.seq (.region [⟨some 5, .bsl 21 1 (.int .i32 0) 0 [], none, [1]⟩,
    ⟨some 6, .mov (.tmp 0), none, [0]⟩,
    ⟨some 7, .app 21 1 4 (.int .i32 0) (.tmp 5) (.tmp 6), none, []⟩,
    ⟨some 2, .mov (.tmp 7), none, []⟩] false)
  .ret)))
def a33 : AFunc := ⟨8, c33, [.tmp 2], 0⟩

/-- slices.IndexFunc[[]blindstamp/api.Op,blindstamp/api.Op] -/
def c34 : ACode :=
  (.seq (.region [⟨some 4, .mov (.const (.int .i64 0)), none, []⟩] false)
  (.seq (.seq (.region [⟨some 6, .mov (.tmp 0), none, [2]⟩,
    ⟨some 7, .len (.tmp 6), none, [2]⟩,
    ⟨some 8, .mov (.const (.int .i64 0)), none, [0, 1]⟩] false)
  (.block 0 (.loop (.seq (.region [⟨some 9, .pur (mkO (.binOp .lss 3 (.tmp 8) (.tmp 7) 3) 0), none, []⟩] false)
      (.seq (.cond (.tmp 9)
        .skip
        (.exit 0))
      (.seq (.block 1 (.seq (.region [⟨some 10, .mov (.tmp 8), none, []⟩,
          ⟨some 5, .mov (.tmp 10), none, []⟩] false)
        (.seq (.region [⟨some 11, .mov (.tmp 1), none, [1, 2, 3, 4]⟩,
          ⟨some 12, .mov (.tmp 0), none, [0, 2]⟩,
          ⟨some 13, .mov (.tmp 5), none, [0, 1]⟩,
          ⟨some 14, .iad 17 (.tmp 12) (.tmp 13), none, [0]⟩,
          ⟨some 15, .load 17 true (.tmp 14), none, [0]⟩,
          ⟨some 16, .call (.tmp 11) [(.tmp 15)], none, []⟩] false)
        (.cond (.tmp 16)
          (.seq (.region [⟨some 17, .mov (.tmp 5), none, []⟩,
            ⟨some 4, .mov (.tmp 17), none, []⟩] false)
          .ret)
          .skip))))
      (.region [⟨some 18, .pur (mkO (.binOp .add 3 (.tmp 8) (.const (.int .i64 1)) 3) 3), none, []⟩,
        ⟨some 8, .mov (.tmp 18), none, []⟩] false)))))))
  (.seq (.region [⟨some 4, .mov (.const (.int .i64 (-1))), none, []⟩] false)
  .ret)))
def a34 : AFunc := ⟨19, c34, [.tmp 4], 0⟩

/-- blindstamp/blindstampref04.Same -/
def c35 : ACode :=
  (.seq (.region [⟨some 4, .mov (.const (.bool false)), none, []⟩] false)
  (.seq (.seq (.region [⟨some 6, .mov (.tmp 0), none, [2, 3]⟩,
    ⟨some 7, .len (.tmp 6), none, [2, 3]⟩,
    ⟨some 8, .mov (.tmp 1), none, [0, 1]⟩,
    ⟨some 9, .len (.tmp 8), none, [0, 1]⟩,
    ⟨some 10, .pur (mkO (.binOp .neq 3 (.tmp 7) (.tmp 9) 3) 4), none, []⟩] false)
  (.cond (.tmp 10)
    (.seq (.region [⟨some 4, .mov (.const (.bool false)), none, []⟩] false)
    .ret)
    .skip))
  (.seq (.seq (.region [⟨some 5, .mov (.const (.int .i64 0)), none, []⟩] false)
  (.block 0 (.loop (.seq (.seq (.region [⟨some 11, .mov (.tmp 5), none, [1, 2]⟩,
        ⟨some 12, .mov (.tmp 0), none, [0]⟩,
        ⟨some 13, .len (.tmp 12), none, [0]⟩,
        ⟨some 14, .pur (mkO (.binOp .lss 3 (.tmp 11) (.tmp 13) 3) 4), none, []⟩] false)
      (.cond (.tmp 14)
        .skip
        (.exit 0)))
      (.seq (.block 1 (.seq (.region [⟨some 17, .mov (.tmp 0), none, [1, 4, 5, 6, 7]⟩,
          ⟨some 18, .mov (.tmp 5), none, [0, 4, 5, 6, 7]⟩,
          ⟨some 19, .iad 1 (.tmp 17) (.tmp 18), none, [4, 5, 6, 7]⟩,
          ⟨some 20, .load 1 false (.tmp 19), none, [4, 5, 6, 7]⟩,
          ⟨some 21, .mov (.tmp 1), none, [0, 1, 2, 3, 5]⟩,
          ⟨some 22, .mov (.tmp 5), none, [0, 1, 2, 3, 4]⟩,
          ⟨some 23, .iad 1 (.tmp 21) (.tmp 22), none, [0, 1, 2, 3]⟩,
          ⟨some 24, .load 1 false (.tmp 23), none, [0, 1, 2, 3]⟩,
          ⟨some 25, .pur (mkO (.binOp .neq 21 (.tmp 20) (.tmp 24) 21) 4), none, []⟩] true)
        (.cond (.tmp 25)
          (.seq (.region [⟨some 4, .mov (.const (.bool false)), none, []⟩] false)
          .ret)
          .skip)))
      (.region [⟨some 15, .mov (.tmp 5), none, []⟩,
        ⟨some 16, .pur (mkO (.binOp .add 3 (.tmp 15) (.const (.int .i64 1)) 3) 3), none, []⟩,
        ⟨some 5, .mov (.tmp 16), none, []⟩] false))))))
  (.seq (.region [⟨some 4, .mov (.const (.bool true)), none, []⟩] false)
  .ret))))
def a35 : AFunc := ⟨26, c35, [.tmp 4], 1⟩

/-- blindstamp/chain.Check -/
def c36 : ACode :=
  (.seq (.region [⟨some 2, .mov (.const (.int .i64 0)), none, []⟩] false)
  (.seq (.seq (.region [⟨some 5, .mov (.tmp 0), none, []⟩,
    ⟨some 6, .len (.tmp 5), none, []⟩,
    ⟨some 7, .pur (mkO (.binOp .gtr 3 (.tmp 6) (.const (.int .i64 2048)) 3) 4), none, []⟩] false)
  (.cond (.tmp 7)
    (.seq (.region [⟨some 2, .mov (.const (.int .i64 4)), none, []⟩] false)
    .ret)
    .skip))
  (.seq (.seq (.region [⟨some 8, .mov (.tmp 0), none, [2]⟩,
    ⟨some 9, .len (.tmp 8), none, [2]⟩,
    ⟨some 10, .mov (.const (.int .i64 0)), none, [0, 1]⟩] false)
  (.block 0 (.loop (.seq (.region [⟨some 11, .pur (mkO (.binOp .lss 3 (.tmp 10) (.tmp 9) 3) 0), none, []⟩] false)
      (.seq (.cond (.tmp 11)
        .skip
        (.exit 0))
      (.seq (.block 1 (.seq (.region [⟨some 12, .mov (.tmp 10), none, [1, 2, 3]⟩,
          ⟨some 13, .iad 17 (.tmp 8) (.tmp 10), none, [0, 3]⟩,
          ⟨some 14, .load 17 true (.tmp 13), none, [0, 3]⟩,
          ⟨some 4, .alloc 46 (.agg #[(.int .u8 0), (.int .u8 0), (.int .u32 0), (.int .u8 0), (.int .i64 0), (.int .u8 0), (.int .u32 0), (.int .u8 0), (.int .i64 0), (.int .i64 0), (.int .u8 0), (.int .u32 0), (.int .u8 0), (.int .i64 0), (.int .u8 0), (.int .u32 0), (.slice none 0 0)]), none, [0, 1, 2]⟩,
          ⟨some 3, .mov (.tmp 12), none, []⟩,
          ⟨none, .store 17 (.tmp 4) (.tmp 14), none, []⟩] false)
        (.seq (.region [⟨some 15, .load 17 true (.tmp 4), none, []⟩,
          ⟨some 16, .call (.func 41) [(.tmp 15)], none, []⟩,
          ⟨some 17, .pur (mkO (.binOp .neq 23 (.tmp 16) (.const (.int .i64 0)) 23) 4), none, []⟩,
          ⟨some 18, .mov (.tmp 17), none, []⟩,
          ⟨some 19, .mov (.tmp 0), some (18, false), [5, 7]⟩,
          ⟨some 20, .mov (.tmp 3), some (18, false), [4, 7]⟩,
          ⟨some 21, .slc 17 (.tmp 19) none (some (.tmp 20)) none, some (18, false), [7]⟩,
          ⟨some 22, .load 17 true (.tmp 4), some (18, false), [4, 5, 6]⟩,
          ⟨some 23, .call (.func 44) [(.tmp 21), (.tmp 22)], some (18, false), []⟩,
          ⟨some 24, .pur (mkO (.unOp .not 4 (.tmp 23)) 4), some (18, false), []⟩,
          ⟨some 25, .pick (.tmp 18) (.const (.bool true)) (.tmp 24), none, []⟩] true)
        (.cond (.tmp 25)
          (.seq (.region [⟨some 2, .mov (.const (.int .i64 8)), none, []⟩] false)
          .ret)
          .skip))))
      (.region [⟨some 26, .pur (mkO (.binOp .add 3 (.tmp 10) (.const (.int .i64 1)) 3) 3), none, []⟩,
        ⟨some 10, .mov (.tmp 26), none, []⟩] false)))))))
  (.seq (.region [⟨some 2, .mov (.const (.int .i64 0)), none, []⟩] false)
  .ret))))
def a36 : AFunc := ⟨27, c36, [.tmp 2], 2⟩

/-- blindstamp/ids.Check -/
def c37 : ACode :=
  (.seq (.region [⟨some 1, .box 42 (.tmp 0), none, [1]⟩,
    ⟨some 2, .mov (.const (.int .i64 0)), none, [0]⟩] false)
  (.seq (.region [⟨some 3, .fad 0 (.tmp 1), none, []⟩,
    ⟨some 4, .load 3 true (.tmp 3), none, []⟩,
    ⟨some 5, .call (.func 46) [(.tmp 4)], none, []⟩,
    ⟨some 6, .pur (mkO (.binOp .eql 23 (.tmp 5) (.const (.int .i64 0)) 23) 4), none, []⟩,
    ⟨some 7, .mov (.tmp 6), none, []⟩,
    ⟨some 8, .fad 3 (.tmp 1), some (7, true), []⟩,
    ⟨some 9, .load 1 false (.tmp 8), some (7, true), []⟩,
    ⟨some 10, .pur (mkO (.binOp .geq 3 (.tmp 9) (.const (.int .i64 1)) 3) 4), some (7, true), []⟩,
    ⟨some 11, .pick (.tmp 7) (.tmp 10) (.const (.bool false)), none, []⟩,
    ⟨some 12, .mov (.tmp 11), none, []⟩,
    ⟨some 13, .fad 3 (.tmp 1), some (12, true), []⟩,
    ⟨some 14, .load 1 false (.tmp 13), some (12, true), []⟩,
    ⟨some 15, .pur (mkO (.binOp .leq 3 (.tmp 14) (.const (.int .i64 1099511627776)) 3) 4), some (12, true), []⟩,
    ⟨some 16, .pick (.tmp 12) (.tmp 15) (.const (.bool false)), none, []⟩,
    ⟨some 17, .call (.func 45) [(.tmp 16)], none, []⟩,
    ⟨some 2, .mov (.tmp 17), none, []⟩] false)
  .ret))
def a37 : AFunc := ⟨18, c37, [.tmp 2], 1⟩

/-- slices.IndexFunc[[]blindstamp/api.Label,blindstamp/api.Label] -/
def c38 : ACode :=
  (.seq (.region [⟨some 4, .mov (.const (.int .i64 0)), none, []⟩] false)
  (.seq (.seq (.region [⟨some 6, .mov (.tmp 0), none, [2]⟩,
    ⟨some 7, .len (.tmp 6), none, [2]⟩,
    ⟨some 8, .mov (.const (.int .i64 0)), none, [0, 1]⟩] false)
  (.block 0 (.loop (.seq (.region [⟨some 9, .pur (mkO (.binOp .lss 3 (.tmp 8) (.tmp 7) 3) 0), none, []⟩] false)
      (.seq (.cond (.tmp 9)
        .skip
        (.exit 0))
      (.seq (.block 1 (.seq (.region [⟨some 10, .mov (.tmp 8), none, []⟩,
          ⟨some 5, .mov (.tmp 10), none, []⟩] false)
        (.seq (.region [⟨some 11, .mov (.tmp 1), none, [1, 2, 3, 4]⟩,
          ⟨some 12, .mov (.tmp 0), none, [0, 2]⟩,
          ⟨some 13, .mov (.tmp 5), none, [0, 1]⟩,
          ⟨some 14, .iad 2 (.tmp 12) (.tmp 13), none, [0]⟩,
          ⟨some 15, .load 2 true (.tmp 14), none, [0]⟩,
          ⟨some 16, .call (.tmp 11) [(.tmp 15)], none, []⟩] false)
        (.cond (.tmp 16)
          (.seq (.region [⟨some 17, .mov (.tmp 5), none, []⟩,
            ⟨some 4, .mov (.tmp 17), none, []⟩] false)
          .ret)
          .skip))))
      (.region [⟨some 18, .pur (mkO (.binOp .add 3 (.tmp 8) (.const (.int .i64 1)) 3) 3), none, []⟩,
        ⟨some 8, .mov (.tmp 18), none, []⟩] false)))))))
  (.seq (.region [⟨some 4, .mov (.const (.int .i64 (-1))), none, []⟩] false)
  .ret)))
def a38 : AFunc := ⟨19, c38, [.tmp 4], 0⟩

/-- blindstamp/chain.raises -/
def c39 : ACode :=
  (.seq (.region [⟨some 3, .box 22 (.tmp 0), none, [1, 2, 3]⟩,
    ⟨some 4, .box 42 (.tmp 1), none, [0, 2, 3]⟩,
    ⟨some 5, .box 29 (.tmp 2), none, [0, 1, 3]⟩,
    ⟨some 6, .mov (.const .nilFunc), none, [0, 1, 2]⟩] false)
  (.seq (.region [⟨some 7, .mkfn 47 [] [(.tmp 3), (.tmp 4), (.tmp 5)], none, []⟩,
    ⟨some 6, .mov (.tmp 7), none, []⟩] false)
  .ret))
def a39 : AFunc := ⟨8, c39, [.tmp 6], 0⟩

/-- slices.Contains[[]blindstamp/api.Label,blindstamp/api.Label] -/
def c40 : ACode :=
  (.seq (.region [⟨some 3, .box 29 (.tmp 1), none, [1]⟩,
    ⟨some 4, .mov (.const (.bool false)), none, [0]⟩] false)
  (.seq (.region [⟨some 5, .mov (.tmp 0), none, [1]⟩,
    ⟨some 6, .load 2 true (.tmp 3), none, [0]⟩,
    ⟨some 7, .call (.func 49) [(.tmp 5), (.tmp 6)], none, []⟩,
    ⟨some 8, .pur (mkO (.binOp .geq 3 (.tmp 7) (.const (.int .i64 0)) 3) 4), none, []⟩,
    ⟨some 4, .mov (.tmp 8), none, []⟩] false)
  .ret))
def a40 : AFunc := ⟨9, c40, [.tmp 4], 2⟩

/-- blindstamp/op.Check -/
def c41 : ACode :=
  (.seq (.region [⟨some 1, .box 46 (.tmp 0), none, [1]⟩,
    ⟨some 2, .mov (.const (.int .i64 0)), none, [0]⟩] false)
  (.seq (.seq (.region [⟨some 3, .fad 0 (.tmp 1), none, []⟩,
    ⟨some 4, .load 1 false (.tmp 3), none, []⟩,
    ⟨some 5, .pur (mkO (.binOp .eql 5 (.tmp 4) (.const (.int .u8 0)) 5) 4), none, []⟩,
    ⟨some 6, .mov (.tmp 5), none, []⟩,
    ⟨some 7, .fad 0 (.tmp 1), some (6, false), []⟩,
    ⟨some 8, .load 1 false (.tmp 7), some (6, false), []⟩,
    ⟨some 9, .pur (mkO (.binOp .geq 5 (.tmp 8) (.const (.int .u8 4)) 5) 4), some (6, false), []⟩,
    ⟨some 10, .pick (.tmp 6) (.const (.bool true)) (.tmp 9), none, []⟩,
    ⟨some 11, .mov (.tmp 10), none, []⟩,
    ⟨some 12, .fad 1 (.tmp 1), some (11, false), []⟩,
    ⟨some 13, .load 3 true (.tmp 12), some (11, false), []⟩,
    ⟨some 14, .call (.func 46) [(.tmp 13)], some (11, false), []⟩,
    ⟨some 15, .pur (mkO (.binOp .neq 23 (.tmp 14) (.const (.int .i64 0)) 23) 4), some (11, false), []⟩,
    ⟨some 16, .pick (.tmp 11) (.const (.bool true)) (.tmp 15), none, []⟩,
    ⟨some 17, .mov (.tmp 16), none, []⟩,
    ⟨some 18, .fad 4 (.tmp 1), some (17, false), []⟩,
    ⟨some 19, .load 1 false (.tmp 18), some (17, false), []⟩,
    ⟨some 20, .pur (mkO (.binOp .lss 3 (.tmp 19) (.const (.int .i64 1)) 3) 4), some (17, false), []⟩,
    ⟨some 21, .pick (.tmp 17) (.const (.bool true)) (.tmp 20), none, []⟩,
    ⟨some 22, .mov (.tmp 21), none, []⟩,
    ⟨some 23, .fad 4 (.tmp 1), some (22, false), []⟩,
    ⟨some 24, .load 1 false (.tmp 23), some (22, false), []⟩,
    ⟨some 25, .pur (mkO (.binOp .geq 3 (.tmp 24) (.const (.int .i64 16777216)) 3) 4), some (22, false), []⟩,
    ⟨some 26, .pick (.tmp 22) (.const (.bool true)) (.tmp 25), none, []⟩,
    ⟨some 27, .mov (.tmp 26), none, []⟩,
    ⟨some 28, .fad 5 (.tmp 1), some (27, false), []⟩,
    ⟨some 29, .load 5 true (.tmp 28), some (27, false), []⟩,
    ⟨some 30, .call (.func 50) [(.tmp 29)], some (27, false), []⟩,
    ⟨some 31, .pur (mkO (.binOp .neq 23 (.tmp 30) (.const (.int .i64 0)) 23) 4), some (27, false), []⟩,
    ⟨some 32, .pick (.tmp 27) (.const (.bool true)) (.tmp 31), none, []⟩,
    ⟨some 33, .mov (.tmp 32), none, []⟩,
    ⟨some 34, .call (.func 51) [], some (33, false), [32, 33, 36]⟩,
    ⟨some 35, .fad 0 (.tmp 1), some (33, false), [31, 36]⟩,
    ⟨some 36, .load 1 false (.tmp 35), some (33, false), [31, 36]⟩,
    ⟨some 37, .idx 4 2 true (.tmp 34) (.tmp 36), some (33, false), [36]⟩,
    ⟨some 38, .fld 0 1 false (.tmp 37), some (33, false), [36]⟩,
    ⟨some 39, .load 17 true (.tmp 1), some (33, false), [31, 32, 33, 34, 35]⟩,
    ⟨some 40, .call (.tmp 38) [(.tmp 39)], some (33, false), []⟩,
    ⟨some 41, .pur (mkO (.unOp .not 4 (.tmp 40)) 4), some (33, false), []⟩,
    ⟨some 42, .pick (.tmp 33) (.const (.bool true)) (.tmp 41), none, []⟩] true)
  (.cond (.tmp 42)
    (.seq (.region [⟨some 2, .mov (.const (.int .i64 8)), none, []⟩] false)
    .ret)
    .skip))
  (.seq (.region [⟨some 2, .mov (.const (.int .i64 0)), none, []⟩] false)
  .ret)))
def a41 : AFunc := ⟨43, c41, [.tmp 2], 1⟩

/-- (*blindstamp/doc.history).fits -/
def c42 : ACode :=
  (.seq (.region [⟨some 3, .box 46 (.tmp 1), none, [1]⟩,
    ⟨some 4, .mov (.const (.int .i64 0)), none, [0]⟩] false)
  (.seq (.region [⟨some 6, .build (.agg #[.nilFunc, .nilFunc, .nilFunc, .nilFunc]) [(1, 1, (.func 52)), (2, 1, (.func 53)), (3, 1, (.func 54))], none, [1, 2, 4, 5]⟩,
    ⟨some 7, .fad 0 (.tmp 3), none, [0, 4, 5]⟩,
    ⟨some 8, .load 1 false (.tmp 7), none, [0, 4, 5]⟩,
    ⟨some 9, .idx 4 1 false (.tmp 6) (.tmp 8), none, [4, 5]⟩,
    ⟨some 10, .mov (.tmp 0), none, [0, 1, 2, 3, 5]⟩,
    ⟨some 11, .load 17 true (.tmp 3), none, [0, 1, 2, 3, 4]⟩,
    ⟨some 12, .call (.tmp 9) [(.tmp 10), (.tmp 11)], none, []⟩,
    ⟨some 5, .mov (.tmp 12), none, []⟩] true)
  (.seq (.seq (.region [⟨some 13, .mov (.tmp 5), none, []⟩,
    ⟨some 14, .pur (mkO (.binOp .eql 23 (.tmp 13) (.const (.int .i64 0)) 23) 4), none, []⟩,
    ⟨some 15, .mov (.tmp 14), none, []⟩,
    ⟨some 16, .mov (.tmp 0), some (15, true), []⟩,
    ⟨some 17, .nilck (.tmp 16), some (15, true), []⟩,
    ⟨some 18, .fad 0 (.tmp 17), some (15, true), []⟩,
    ⟨some 19, .load 1 false (.tmp 18), some (15, true), []⟩,
    ⟨some 20, .len (.tmp 19), some (15, true), []⟩,
    ⟨some 21, .pur (mkO (.binOp .geq 3 (.tmp 20) (.const (.int .i64 2048)) 3) 4), some (15, true), []⟩,
    ⟨some 22, .pick (.tmp 15) (.tmp 21) (.const (.bool false)), none, []⟩] false)
  (.cond (.tmp 22)
    (.region [⟨some 5, .mov (.const (.int .i64 4)), none, []⟩] false)
    .skip))
  (.seq (.region [⟨some 23, .mov (.tmp 5), none, []⟩,
    ⟨some 4, .mov (.tmp 23), none, []⟩] false)
  .ret))))
def a42 : AFunc := ⟨24, c42, [.tmp 4], 0⟩

/-- blindstamp/doc.names -/
def c43 : ACode :=
  (.seq (.region [⟨some 1, .box 44 (.tmp 0), none, [1]⟩,
    ⟨some 2, .mov (.const (.slice none 0 0)), none, [0]⟩] false)
  (.seq (.seq (.region [⟨some 6, .fad 4 (.tmp 1), none, [2]⟩,
    ⟨some 7, .load 1 false (.tmp 6), none, [2]⟩,
    ⟨some 8, .mov (.const (.int .i64 0)), none, [0, 1]⟩] false)
  (.block 0 (.loop (.seq (.region [⟨some 9, .pur (mkO (.binOp .lss 3 (.tmp 8) (.tmp 7) 3) 4), none, []⟩] false)
      (.seq (.cond (.tmp 9)
        .skip
        (.exit 0))
      (.seq (.block 1 (.seq (.region [⟨some 10, .mov (.tmp 8), none, []⟩,
          ⟨some 3, .mov (.tmp 10), none, []⟩] false)
        (.seq (.region [⟨some 12, .load 5 true (.tmp 1), none, [1, 6]⟩,
          ⟨some 13, .mov (.tmp 3), none, [0, 6]⟩,
          ⟨some 14, .call (.func 55) [(.tmp 12), (.tmp 13)], none, [6]⟩,
          ⟨some 11, .mov (.tmp 14), none, [6]⟩,
          ⟨some 15, .ext (.tmp 11) 0, none, [5, 6]⟩,
          ⟨some 16, .ext (.tmp 11) 1, none, [4, 6, 7]⟩,
          ⟨some 4, .alloc 42 (.agg #[(.int .u8 0), (.int .u32 0), (.int .u8 0), (.int .i64 0)]), none, [0, 1, 2, 3, 4, 5]⟩,
          ⟨none, .store 4 (.tmp 4) (.tmp 15), none, [5]⟩,
          ⟨some 5, .mov (.tmp 16), none, []⟩] false)
        (.region [⟨some 17, .mov (.tmp 2), none, [1, 2]⟩,
          ⟨some 18, .load 4 true (.tmp 4), none, [0]⟩,
          ⟨some 19, .bsl 42 4 (.agg #[(.int .u8 0), (.int .u32 0), (.int .u8 0), (.int .i64 0)]) 1 [(0, 4, (.tmp 18))], none, [0]⟩,
          ⟨some 20, .app 42 4 24 (.agg #[(.int .u8 0), (.int .u32 0), (.int .u8 0), (.int .i64 0)]) (.tmp 17) (.tmp 19), none, []⟩,
          ⟨some 2, .mov (.tmp 20), none, []⟩] false))))
      (.region [⟨some 21, .pur (mkO (.binOp .add 3 (.tmp 8) (.const (.int .i64 1)) 3) 3), none, []⟩,
        ⟨some 8, .mov (.tmp 21), none, []⟩] false)))))))
  (.seq (.region [⟨some 22, .mov (.tmp 2), none, []⟩,
    ⟨some 2, .mov (.tmp 22), none, []⟩] false)
  .ret)))
def a43 : AFunc := ⟨23, c43, [.tmp 2], 1⟩

/-- blindstamp/chain.fits -/
def c44 : ACode :=
  (.seq (.region [⟨some 3, .box 46 (.tmp 1), none, [1]⟩,
    ⟨some 4, .mov (.const (.bool false)), none, [0]⟩] false)
  (.scope (.seq (.seq (.region [⟨some 9, .fad 0 (.tmp 3), none, []⟩,
    ⟨some 10, .load 1 false (.tmp 9), none, []⟩,
    ⟨some 11, .pur (mkO (.binOp .neq 5 (.tmp 10) (.const (.int .u8 3)) 5) 4), none, []⟩] false)
  (.cond (.tmp 11)
    (.seq (.region [⟨some 4, .mov (.const (.bool true)), none, []⟩] false)
    .ret)
    .skip))
  (.seq (.region [⟨some 12, .fad 1 (.tmp 3), none, [3, 4]⟩,
    ⟨some 13, .fad 0 (.tmp 12), none, [3, 4]⟩,
    ⟨some 14, .load 2 true (.tmp 13), none, [3, 4]⟩,
    ⟨some 15, .fad 14 (.tmp 3), none, [0, 1, 2]⟩,
    ⟨some 16, .load 2 true (.tmp 15), none, [0, 1, 2]⟩,
    ⟨some 17, .call (.func 20) [(.tmp 14), (.tmp 16)], none, []⟩,
    ⟨some 5, .mov (.tmp 17), none, []⟩] false)
  (.seq .label
  (.seq (.seq (.region [⟨some 18, .fad 5 (.tmp 3), none, [3]⟩,
    ⟨some 19, .fad 4 (.tmp 18), none, [3]⟩,
    ⟨some 20, .load 1 false (.tmp 19), none, [3]⟩,
    ⟨some 21, .mov (.const (.int .i64 0)), none, [0, 1, 2]⟩] false)
  (.block 0 (.loop (.seq (.region [⟨some 22, .pur (mkO (.binOp .lss 3 (.tmp 21) (.tmp 20) 3) 4), none, []⟩] false)
      (.seq (.cond (.tmp 22)
        .skip
        (.exit 0))
      (.seq (.block 1 (.seq (.region [⟨some 23, .mov (.tmp 21), none, []⟩,
          ⟨some 6, .mov (.tmp 23), none, []⟩] false)
        (.seq (.region [⟨some 25, .fad 5 (.tmp 3), none, [2, 7]⟩,
          ⟨some 26, .load 5 true (.tmp 25), none, [2, 7]⟩,
          ⟨some 27, .mov (.tmp 6), none, [0, 1, 7]⟩,
          ⟨some 28, .call (.func 55) [(.tmp 26), (.tmp 27)], none, [7]⟩,
          ⟨some 24, .mov (.tmp 28), none, [7]⟩,
          ⟨some 29, .ext (.tmp 24) 0, none, [6, 7]⟩,
          ⟨some 30, .ext (.tmp 24) 1, none, [5, 7, 8]⟩,
          ⟨some 7, .alloc 42 (.agg #[(.int .u8 0), (.int .u32 0), (.int .u8 0), (.int .i64 0)]), none, [0, 1, 2, 3, 4, 5, 6]⟩,
          ⟨none, .store 4 (.tmp 7) (.tmp 29), none, [6]⟩,
          ⟨some 8, .mov (.tmp 30), none, []⟩] false)
        (.seq (.region [⟨some 31, .mov (.tmp 5), none, []⟩,
          ⟨some 32, .mov (.tmp 31), none, []⟩,
          ⟨some 33, .mov (.tmp 0), some (32, true), [3, 4, 5, 6, 8, 9, 10]⟩,
          ⟨some 34, .load 4 true (.tmp 7), some (32, true), [2, 4, 5, 6, 8, 9, 10]⟩,
          ⟨some 35, .fad 1 (.tmp 3), some (32, true), [2, 3, 8, 9, 10]⟩,
          ⟨some 36, .fad 0 (.tmp 35), some (32, true), [2, 3, 8, 9, 10]⟩,
          ⟨some 37, .load 2 true (.tmp 36), some (32, true), [2, 3, 8, 9, 10]⟩,
          ⟨some 38, .call (.func 29) [(.tmp 33), (.tmp 34), (.tmp 37)], some (32, true), [8, 9, 10]⟩,
          ⟨some 39, .fad 1 (.tmp 3), some (32, true), [2, 3, 4, 5, 6, 7]⟩,
          ⟨some 40, .fad 0 (.tmp 39), some (32, true), [2, 3, 4, 5, 6, 7]⟩,
          ⟨some 41, .load 2 true (.tmp 40), some (32, true), [2, 3, 4, 5, 6, 7]⟩,
          ⟨some 42, .call (.func 40) [(.tmp 38), (.tmp 41)], some (32, true), []⟩,
          ⟨some 43, .pick (.tmp 32) (.tmp 42) (.const (.bool false)), none, []⟩,
          ⟨some 5, .mov (.tmp 43), none, []⟩] true)
        (.seq (.region [⟨some 44, .mov (.tmp 5), none, []⟩,
          ⟨some 45, .pur (mkO (.unOp .not 4 (.tmp 44)) 4), none, []⟩] false)
        (.cond (.tmp 45)
          (.exit 0)
          .skip))))))
      (.region [⟨some 46, .pur (mkO (.binOp .add 3 (.tmp 21) (.const (.int .i64 1)) 3) 3), none, []⟩,
        ⟨some 21, .mov (.tmp 46), none, []⟩] false)))))))
  (.seq (.region [⟨some 47, .mov (.tmp 5), none, []⟩,
    ⟨some 4, .mov (.tmp 47), none, []⟩] false)
  .ret)))))))
def a44 : AFunc := ⟨48, c44, [.tmp 4], 2⟩

/-- blindstamp/ids.right -/
def c45 : ACode :=
  (.seq (.region [⟨some 2, .mov (.const (.int .i64 0)), none, []⟩] false)
  (.seq (.seq (.region [⟨some 3, .mov (.tmp 0), none, []⟩] false)
  (.cond (.tmp 3)
    (.seq (.region [⟨some 2, .mov (.const (.int .i64 0)), none, []⟩] false)
    .ret)
    .skip))
  (.seq (.region [⟨some 2, .mov (.const (.int .i64 8)), none, []⟩] false)
  .ret)))
def a45 : AFunc := ⟨4, c45, [.tmp 2], 1⟩

/-- blindstamp/ids.CheckHandle -/
def c46 : ACode :=
  (.seq (.region [⟨some 1, .box 40 (.tmp 0), none, [1]⟩,
    ⟨some 2, .mov (.const (.int .i64 0)), none, [0]⟩] false)
  (.seq (.region [⟨some 3, .fad 0 (.tmp 1), none, []⟩,
    ⟨some 4, .load 2 true (.tmp 3), none, []⟩,
    ⟨some 5, .call (.func 18) [(.tmp 4)], none, []⟩,
    ⟨some 6, .pur (mkO (.binOp .eql 23 (.tmp 5) (.const (.int .i64 0)) 23) 4), none, []⟩,
    ⟨some 7, .mov (.tmp 6), none, []⟩,
    ⟨some 8, .fad 2 (.tmp 1), some (7, true), []⟩,
    ⟨some 9, .load 1 false (.tmp 8), some (7, true), []⟩,
    ⟨some 10, .pur (mkO (.binOp .lss 5 (.tmp 9) (.const (.int .u8 8)) 5) 4), some (7, true), []⟩,
    ⟨some 11, .pick (.tmp 7) (.tmp 10) (.const (.bool false)), none, []⟩,
    ⟨some 12, .call (.func 45) [(.tmp 11)], none, []⟩,
    ⟨some 2, .mov (.tmp 12), none, []⟩] false)
  .ret))
def a46 : AFunc := ⟨13, c46, [.tmp 2], 1⟩

/-- blindstamp/chain.raises$1 -/
def c47 : ACode :=
  (.seq (.region [⟨some 9, .load 1 false (.tmp 1), none, [2]⟩,
    ⟨some 10, .len (.tmp 9), none, [2]⟩,
    ⟨some 11, .mov (.const (.int .i64 0)), none, [0, 1]⟩] false)
  (.block 0 (.loop (.seq (.region [⟨some 12, .pur (mkO (.binOp .lss 3 (.tmp 11) (.tmp 10) 3) 0), none, []⟩] false)
      (.seq (.cond (.tmp 12)
        .skip
        (.exit 0))
      (.seq (.block 1 (.seq (.region [⟨some 13, .iad 17 (.tmp 9) (.tmp 11), none, [2]⟩,
          ⟨some 14, .load 17 true (.tmp 13), none, [2]⟩,
          ⟨some 6, .alloc 46 (.agg #[(.int .u8 0), (.int .u8 0), (.int .u32 0), (.int .u8 0), (.int .i64 0), (.int .u8 0), (.int .u32 0), (.int .u8 0), (.int .i64 0), (.int .i64 0), (.int .u8 0), (.int .u32 0), (.int .u8 0), (.int .i64 0), (.int .u8 0), (.int .u32 0), (.slice none 0 0)]), none, [0, 1]⟩,
          ⟨none, .store 17 (.tmp 6) (.tmp 14), none, []⟩] false)
        (.seq (.region [⟨some 16, .fad 5 (.tmp 6), none, [2]⟩,
          ⟨some 17, .load 5 true (.tmp 16), none, [2]⟩,
          ⟨some 18, .load 4 true (.tmp 2), none, [0, 1]⟩,
          ⟨some 19, .call (.func 48) [(.tmp 17), (.tmp 18)], none, []⟩,
          ⟨some 15, .mov (.tmp 19), none, []⟩,
          ⟨some 20, .ext (.tmp 15) 0, none, [6]⟩,
          ⟨some 21, .ext (.tmp 15) 1, none, [5, 7]⟩,
          ⟨some 7, .mov (.tmp 20), none, [6]⟩,
          ⟨some 8, .mov (.tmp 21), none, []⟩] false)
        (.seq (.region [⟨some 22, .fad 0 (.tmp 6), none, []⟩,
          ⟨some 23, .load 1 false (.tmp 22), none, []⟩,
          ⟨some 24, .pur (mkO (.binOp .eql 5 (.tmp 23) (.const (.int .u8 3)) 5) 4), none, []⟩,
          ⟨some 25, .mov (.tmp 24), none, []⟩,
          ⟨some 26, .mov (.tmp 8), some (25, true), []⟩,
          ⟨some 27, .pick (.tmp 25) (.tmp 26) (.const (.bool false)), none, []⟩,
          ⟨some 28, .mov (.tmp 27), none, []⟩,
          ⟨some 29, .fad 1 (.tmp 6), some (28, true), [10]⟩,
          ⟨some 30, .fad 0 (.tmp 29), some (28, true), [10]⟩,
          ⟨some 31, .load 2 true (.tmp 30), some (28, true), [10]⟩,
          ⟨some 32, .load 2 true (.tmp 3), some (28, true), [7, 8, 9]⟩,
          ⟨some 33, .call (.func 20) [(.tmp 31), (.tmp 32)], some (28, true), []⟩,
          ⟨some 34, .pick (.tmp 28) (.tmp 33) (.const (.bool false)), none, []⟩,
          ⟨some 35, .mov (.tmp 34), none, []⟩,
          ⟨some 36, .mov (.tmp 0), some (35, true), [15, 16]⟩,
          ⟨some 37, .fad 14 (.tmp 6), some (35, true), [14]⟩,
          ⟨some 38, .load 2 true (.tmp 37), some (35, true), [14]⟩,
          ⟨some 39, .call (.tmp 36) [(.tmp 38)], some (35, true), []⟩,
          ⟨some 40, .pur (mkO (.unOp .not 4 (.tmp 39)) 4), some (35, true), []⟩,
          ⟨some 41, .pick (.tmp 35) (.tmp 40) (.const (.bool false)), none, []⟩] false)
        (.cond (.tmp 41)
          .ret
          .skip)))))
      (.region [⟨some 42, .pur (mkO (.binOp .add 3 (.tmp 11) (.const (.int .i64 1)) 3) 3), none, []⟩,
        ⟨some 11, .mov (.tmp 42), none, []⟩] false)))))))
def a47 : AFunc := ⟨43, c47, [], 0⟩

/-- blindstamp/ids.Has -/
def c48 : ACode :=
  (.seq (.region [⟨some 2, .box 44 (.tmp 0), none, [1, 2, 3]⟩,
    ⟨some 3, .box 42 (.tmp 1), none, [0, 2, 3]⟩,
    ⟨some 4, .mov (.const (.int .i64 0)), none, [0, 1]⟩,
    ⟨some 5, .mov (.const (.bool false)), none, [0, 1]⟩] false)
  (.seq (.region [⟨some 7, .fad 3 (.tmp 3), none, [2, 3, 4]⟩,
    ⟨some 8, .load 1 false (.tmp 7), none, [2, 3, 4]⟩,
    ⟨some 9, .fad 0 (.tmp 2), none, [0, 1]⟩,
    ⟨some 10, .fad 3 (.tmp 9), none, [0, 1]⟩,
    ⟨some 11, .load 1 false (.tmp 10), none, [0, 1]⟩,
    ⟨some 12, .pur (mkO (.binOp .sub 3 (.tmp 8) (.tmp 11) 3) 3), none, []⟩,
    ⟨some 6, .mov (.tmp 12), none, []⟩] false)
  (.seq (.seq (.region [⟨some 13, .load 5 true (.tmp 2), none, []⟩,
    ⟨some 14, .call (.func 50) [(.tmp 13)], none, []⟩,
    ⟨some 15, .pur (mkO (.binOp .neq 23 (.tmp 14) (.const (.int .i64 0)) 23) 4), none, []⟩,
    ⟨some 16, .mov (.tmp 15), none, []⟩,
    ⟨some 17, .mov (.tmp 6), some (16, false), []⟩,
    ⟨some 18, .pur (mkO (.binOp .lss 3 (.tmp 17) (.const (.int .i64 0)) 3) 4), some (16, false), []⟩,
    ⟨some 19, .pick (.tmp 16) (.const (.bool true)) (.tmp 18), none, []⟩,
    ⟨some 20, .mov (.tmp 19), none, []⟩,
    ⟨some 21, .mov (.tmp 6), some (20, false), [9, 10]⟩,
    ⟨some 22, .fad 4 (.tmp 2), some (20, false), [8]⟩,
    ⟨some 23, .load 1 false (.tmp 22), some (20, false), [8]⟩,
    ⟨some 24, .pur (mkO (.binOp .geq 3 (.tmp 21) (.tmp 23) 3) 4), some (20, false), []⟩,
    ⟨some 25, .pick (.tmp 20) (.const (.bool true)) (.tmp 24), none, []⟩,
    ⟨some 26, .mov (.tmp 25), none, []⟩,
    ⟨some 27, .load 4 true (.tmp 3), some (26, false), [15, 16, 17, 18]⟩,
    ⟨some 28, .fad 0 (.tmp 2), some (26, false), [14, 17]⟩,
    ⟨some 29, .load 4 true (.tmp 28), some (26, false), [14, 17]⟩,
    ⟨some 30, .mov (.tmp 6), some (26, false), [14, 15, 16]⟩,
    ⟨some 31, .call (.func 56) [(.tmp 29), (.tmp 30)], some (26, false), [14]⟩,
    ⟨some 32, .pur (mkO (.binOp .neq 42 (.tmp 27) (.tmp 31) 42) 4), some (26, false), []⟩,
    ⟨some 33, .pick (.tmp 26) (.const (.bool true)) (.tmp 32), none, []⟩] true)
  (.cond (.tmp 33)
    (.seq (.region [⟨some 4, .mov (.const (.int .i64 0)), none, []⟩,
      ⟨some 5, .mov (.const (.bool false)), none, []⟩] false)
    .ret)
    .skip))
  (.seq (.region [⟨some 34, .mov (.tmp 6), none, []⟩,
    ⟨some 4, .mov (.tmp 34), none, []⟩,
    ⟨some 5, .mov (.const (.bool true)), none, []⟩] false)
  .ret))))
def a48 : AFunc := ⟨35, c48, [.tmp 4, .tmp 5], 1⟩

/-- slices.Index[[]blindstamp/api.Label,blindstamp/api.Label] -/
def c49 : ACode :=
  (.seq (.region [⟨some 3, .box 29 (.tmp 1), none, [1]⟩,
    ⟨some 4, .mov (.const (.int .i64 0)), none, [0]⟩] false)
  (.seq (.seq (.region [⟨some 6, .mov (.tmp 0), none, [2]⟩,
    ⟨some 7, .len (.tmp 6), none, [2]⟩,
    ⟨some 8, .mov (.const (.int .i64 0)), none, [0, 1]⟩] false)
  (.block 0 (.loop (.seq (.region [⟨some 9, .pur (mkO (.binOp .lss 3 (.tmp 8) (.tmp 7) 3) 0), none, []⟩] false)
      (.seq (.cond (.tmp 9)
        .skip
        (.exit 0))
      (.seq (.block 1 (.seq (.region [⟨some 10, .mov (.tmp 8), none, []⟩,
          ⟨some 5, .mov (.tmp 10), none, []⟩] false)
        (.seq (.region [⟨some 11, .load 2 true (.tmp 3), none, [1, 2, 3, 4]⟩,
          ⟨some 12, .mov (.tmp 0), none, [0, 2]⟩,
          ⟨some 13, .mov (.tmp 5), none, [0, 1]⟩,
          ⟨some 14, .iad 2 (.tmp 12) (.tmp 13), none, [0]⟩,
          ⟨some 15, .load 2 true (.tmp 14), none, [0]⟩,
          ⟨some 16, .pur (mkO (.binOp .eql 29 (.tmp 11) (.tmp 15) 29) 4), none, []⟩] true)
        (.cond (.tmp 16)
          (.seq (.region [⟨some 17, .mov (.tmp 5), none, []⟩,
            ⟨some 4, .mov (.tmp 17), none, []⟩] false)
          .ret)
          .skip))))
      (.region [⟨some 18, .pur (mkO (.binOp .add 3 (.tmp 8) (.const (.int .i64 1)) 3) 3), none, []⟩,
        ⟨some 8, .mov (.tmp 18), none, []⟩] false)))))))
  (.seq (.region [⟨some 4, .mov (.const (.int .i64 (-1))), none, []⟩] false)
  .ret)))
def a49 : AFunc := ⟨19, c49, [.tmp 4], 1⟩

/-- blindstamp/ids.CheckSpan -/
def c50 : ACode :=
  (.seq (.region [⟨some 1, .box 44 (.tmp 0), none, [1]⟩,
    ⟨some 2, .mov (.const (.int .i64 0)), none, [0]⟩] false)
  (.seq (.region [⟨some 3, .fad 0 (.tmp 1), none, []⟩,
    ⟨some 4, .load 4 true (.tmp 3), none, []⟩,
    ⟨some 5, .call (.func 37) [(.tmp 4)], none, []⟩,
    ⟨some 6, .pur (mkO (.binOp .eql 23 (.tmp 5) (.const (.int .i64 0)) 23) 4), none, []⟩,
    ⟨some 7, .mov (.tmp 6), none, []⟩,
    ⟨some 8, .fad 4 (.tmp 1), some (7, true), []⟩,
    ⟨some 9, .load 1 false (.tmp 8), some (7, true), []⟩,
    ⟨some 10, .pur (mkO (.binOp .geq 3 (.tmp 9) (.const (.int .i64 1)) 3) 4), some (7, true), []⟩,
    ⟨some 11, .pick (.tmp 7) (.tmp 10) (.const (.bool false)), none, []⟩,
    ⟨some 12, .mov (.tmp 11), none, []⟩,
    ⟨some 13, .fad 4 (.tmp 1), some (12, true), []⟩,
    ⟨some 14, .load 1 false (.tmp 13), some (12, true), []⟩,
    ⟨some 15, .pur (mkO (.binOp .leq 3 (.tmp 14) (.const (.int .i64 64)) 3) 4), some (12, true), []⟩,
    ⟨some 16, .pick (.tmp 12) (.tmp 15) (.const (.bool false)), none, []⟩,
    ⟨some 17, .mov (.tmp 16), none, []⟩,
    ⟨some 18, .fad 0 (.tmp 1), some (17, true), [18, 19]⟩,
    ⟨some 19, .fad 3 (.tmp 18), some (17, true), [18, 19]⟩,
    ⟨some 20, .load 1 false (.tmp 19), some (17, true), [18, 19]⟩,
    ⟨some 21, .fad 4 (.tmp 1), some (17, true), [15, 16, 17]⟩,
    ⟨some 22, .load 1 false (.tmp 21), some (17, true), [15, 16, 17]⟩,
    ⟨some 23, .pur (mkO (.binOp .add 3 (.tmp 20) (.tmp 22) 3) 3), some (17, true), []⟩,
    ⟨some 24, .pur (mkO (.binOp .sub 3 (.tmp 23) (.const (.int .i64 1)) 3) 3), some (17, true), []⟩,
    ⟨some 25, .pur (mkO (.binOp .leq 3 (.tmp 24) (.const (.int .i64 1099511627776)) 3) 4), some (17, true), []⟩,
    ⟨some 26, .pick (.tmp 17) (.tmp 25) (.const (.bool false)), none, []⟩,
    ⟨some 27, .call (.func 45) [(.tmp 26)], none, []⟩,
    ⟨some 2, .mov (.tmp 27), none, []⟩] false)
  .ret))
def a50 : AFunc := ⟨28, c50, [.tmp 2], 1⟩

/-- blindstamp/op.parts -/
def c51 : ACode :=
  (.seq (.region [⟨some 0, .alloc 96 (.agg #[.nilFunc, .nilFunc, .nilFunc, .nilFunc, .nilFunc, .nilFunc, .nilFunc, .nilFunc]), none, []⟩] false)
  (.seq (.region [⟨some 1, .alloc 55 .nilFunc, none, []⟩,
    ⟨none, .store 1 (.tmp 1) (.func 57), none, []⟩] false)
  (.seq (.region [⟨some 2, .alloc 55 .nilFunc, none, []⟩,
    ⟨none, .store 1 (.tmp 2) (.func 58), none, []⟩] false)
  (.seq (.region [⟨some 3, .mkfn 60 [] [(.tmp 2)], none, [2, 3, 4, 5]⟩,
    ⟨some 4, .build (.agg #[.nilFunc, .nilFunc]) [(0, 1, (.tmp 3)), (1, 1, (.func 62))], none, [2, 3, 4, 5]⟩,
    ⟨some 5, .mkfn 63 [] [(.tmp 2), (.tmp 1)], none, [0, 1, 4, 5]⟩,
    ⟨some 6, .build (.agg #[.nilFunc, .nilFunc]) [(0, 1, (.tmp 5)), (1, 1, (.func 64))], none, [0, 1, 4, 5]⟩,
    ⟨some 7, .mkfn 65 [] [(.tmp 1)], none, [0, 1, 2, 3]⟩,
    ⟨some 8, .build (.agg #[.nilFunc, .nilFunc]) [(0, 1, (.tmp 7)), (1, 1, (.func 66))], none, [0, 1, 2, 3]⟩,
    ⟨some 9, .build (.agg #[.nilFunc, .nilFunc, .nilFunc, .nilFunc, .nilFunc, .nilFunc, .nilFunc, .nilFunc]) [(2, 2, (.tmp 4)), (4, 2, (.tmp 6)), (6, 2, (.tmp 8))], none, []⟩,
    ⟨none, .store 8 (.tmp 0) (.tmp 9), none, []⟩] false)
  .ret))))
def a51 : AFunc := ⟨10, c51, [.cell 0 8 true], 0⟩

/-- (*blindstamp/doc.history).insert -/
def c52 : ACode :=
  (.seq (.region [⟨some 2, .box 65 (.tmp 0), none, [1, 2]⟩,
    ⟨some 3, .box 46 (.tmp 1), none, [0, 2]⟩,
    ⟨some 4, .mov (.const (.int .i64 0)), none, [0, 1]⟩] false)
  (.seq (.seq (.region [⟨some 7, .fad 10 (.tmp 3), none, [2]⟩,
    ⟨some 8, .load 4 true (.tmp 7), none, [2]⟩,
    ⟨some 9, .build (.agg #[(.int .u8 0), (.int .u32 0), (.int .u8 0), (.int .i64 0)]) [], none, [0, 1]⟩,
    ⟨some 10, .pur (mkO (.binOp .neq 42 (.tmp 8) (.tmp 9) 42) 4), none, []⟩,
    ⟨some 11, .mov (.tmp 10), none, []⟩,
    ⟨some 12, .load 1 false (.tmp 2), some (11, true), [6, 7, 8]⟩,
    ⟨some 13, .load 17 true (.tmp 3), some (11, true), [5, 7, 8]⟩,
    ⟨some 14, .fad 10 (.tmp 3), some (11, true), [5, 6]⟩,
    ⟨some 15, .load 4 true (.tmp 14), some (11, true), [5, 6]⟩,
    ⟨some 16, .call (.func 67) [(.tmp 12), (.tmp 13), (.tmp 15)], some (11, true), []⟩,
    ⟨some 17, .pur (mkO (.unOp .not 4 (.tmp 16)) 4), some (11, true), []⟩,
    ⟨some 18, .pick (.tmp 11) (.tmp 17) (.const (.bool false)), none, []⟩] false)
  (.cond (.tmp 18)
    (.seq (.region [⟨some 4, .mov (.const (.int .i64 6)), none, []⟩] false)
    .ret)
    .skip))
  (.seq (.seq (.region [⟨some 20, .load 17 true (.tmp 3), none, [5]⟩,
    ⟨some 21, .call (.func 68) [(.tmp 20)], none, [5]⟩,
    ⟨some 19, .mov (.tmp 21), none, [5]⟩,
    ⟨some 22, .ext (.tmp 19) 0, none, [4, 5]⟩,
    ⟨some 23, .ext (.tmp 19) 1, none, [3, 5, 6]⟩,
    ⟨some 5, .alloc 107 (.agg #[(.int .u8 0), (.int .u32 0), (.int .u8 0), (.int .i64 0), (.int .i64 0), (.int .u8 0), (.int .u32 0), (.int .u8 0), (.int .i64 0), (.slice none 0 0)]), none, [0, 1, 2, 3, 4]⟩,
    ⟨none, .store 10 (.tmp 5) (.tmp 22), none, [4]⟩,
    ⟨some 6, .mov (.tmp 23), none, []⟩] false)
  (.seq (.region [⟨some 24, .mov (.tmp 6), none, []⟩,
    ⟨some 25, .pur (mkO (.binOp .neq 23 (.tmp 24) (.const (.int .i64 0)) 23) 4), none, []⟩,
    ⟨some 26, .mov (.tmp 25), none, []⟩,
    ⟨some 27, .fad 5 (.tmp 3), some (26, false), [6]⟩,
    ⟨some 28, .load 5 true (.tmp 27), some (26, false), [6]⟩,
    ⟨some 29, .call (.func 43) [(.tmp 28)], some (26, false), [6]⟩,
    ⟨some 30, .mkfn 70 [] [(.tmp 2)], some (26, false), [3, 4, 5]⟩,
    ⟨some 31, .call (.func 69) [(.tmp 29), (.tmp 30)], some (26, false), []⟩,
    ⟨some 32, .pick (.tmp 26) (.const (.bool true)) (.tmp 31), none, []⟩] false)
  (.cond (.tmp 32)
    (.seq (.region [⟨some 4, .mov (.const (.int .i64 2)), none, []⟩] false)
    .ret)
    .skip)))
  (.seq (.seq (.region [⟨some 33, .load 1 false (.tmp 2), none, [5, 6, 7]⟩,
    ⟨some 34, .nilck (.tmp 33), none, [5, 6, 7]⟩,
    ⟨some 35, .fad 1 (.tmp 34), none, [5, 6, 7]⟩,
    ⟨some 36, .load 1 false (.tmp 35), none, [5, 6, 7]⟩,
    ⟨some 37, .mlen (.tmp 36), none, [5, 6, 7]⟩,
    ⟨some 38, .fad 5 (.tmp 3), none, [0, 1, 2, 3, 4]⟩,
    ⟨some 39, .fad 4 (.tmp 38), none, [0, 1, 2, 3, 4]⟩,
    ⟨some 40, .load 1 false (.tmp 39), none, [0, 1, 2, 3, 4]⟩,
    ⟨some 41, .pur (mkO (.binOp .add 3 (.tmp 37) (.tmp 40) 3) 3), none, []⟩,
    ⟨some 42, .pur (mkO (.binOp .gtr 3 (.tmp 41) (.const (.int .i64 8192)) 3) 4), none, []⟩] true)
  (.cond (.tmp 42)
    (.seq (.region [⟨some 4, .mov (.const (.int .i64 4)), none, []⟩] false)
    .ret)
    .skip))
  (.seq (.region [⟨some 4, .mov (.const (.int .i64 0)), none, []⟩] false)
  .ret)))))
def a52 : AFunc := ⟨43, c52, [.tmp 4], 0⟩

/-- (*blindstamp/doc.history).remove -/
def c53 : ACode :=
  (.seq (.region [⟨some 3, .box 46 (.tmp 1), none, [1]⟩,
    ⟨some 4, .mov (.const (.int .i64 0)), none, [0]⟩] false)
  (.seq (.block 0 (.seq (.region [⟨some 6, .mov (.tmp 0), none, [1]⟩,
      ⟨some 7, .load 17 true (.tmp 3), none, [0]⟩,
      ⟨some 8, .call (.func 71) [(.tmp 6), (.tmp 7)], none, []⟩,
      ⟨some 9, .pur (mkO (.unOp .not 4 (.tmp 8)) 4), none, []⟩,
      ⟨some 5, .mov (.tmp 9), none, []⟩] false)
    (.cond (.tmp 5)
      (.seq (.region [⟨some 4, .mov (.const (.int .i64 6)), none, []⟩] false)
      .ret)
      (.seq (.region [⟨some 11, .fad 5 (.tmp 3), none, [5, 6, 7]⟩,
        ⟨some 12, .fad 0 (.tmp 11), none, [5, 6, 7]⟩,
        ⟨some 13, .fad 0 (.tmp 12), none, [5, 6, 7]⟩,
        ⟨some 14, .fad 0 (.tmp 13), none, [5, 6, 7]⟩,
        ⟨some 15, .load 2 true (.tmp 14), none, [5, 6, 7]⟩,
        ⟨some 16, .fad 1 (.tmp 3), none, [0, 1, 2, 3, 4]⟩,
        ⟨some 17, .fad 0 (.tmp 16), none, [0, 1, 2, 3, 4]⟩,
        ⟨some 18, .load 2 true (.tmp 17), none, [0, 1, 2, 3, 4]⟩,
        ⟨some 19, .pur (mkO (.binOp .neq 29 (.tmp 15) (.tmp 18) 29) 4), none, []⟩,
        ⟨some 10, .mov (.tmp 19), none, []⟩] false)
      (.cond (.tmp 10)
        (.seq (.region [⟨some 4, .mov (.const (.int .i64 2)), none, []⟩] false)
        .ret)
        .skip)))))
  (.seq (.region [⟨some 4, .mov (.const (.int .i64 0)), none, []⟩] false)
  .ret)))
def a53 : AFunc := ⟨20, c53, [.tmp 4], 0⟩

/-- (*blindstamp/doc.history).raise -/
def c54 : ACode :=
  (.seq (.region [⟨some 3, .box 46 (.tmp 1), none, [1]⟩,
    ⟨some 4, .mov (.const (.int .i64 0)), none, [0]⟩] false)
  (.seq (.seq (.region [⟨some 7, .mov (.tmp 0), none, [1]⟩,
    ⟨some 8, .load 17 true (.tmp 3), none, [0]⟩,
    ⟨some 9, .call (.func 71) [(.tmp 7), (.tmp 8)], none, []⟩,
    ⟨some 10, .pur (mkO (.unOp .not 4 (.tmp 9)) 4), none, []⟩] false)
  (.cond (.tmp 10)
    (.seq (.region [⟨some 4, .mov (.const (.int .i64 6)), none, []⟩] false)
    .ret)
    .skip))
  (.seq (.seq (.region [⟨some 12, .mov (.tmp 0), none, [4]⟩,
    ⟨some 13, .nilck (.tmp 12), none, [4]⟩,
    ⟨some 14, .fad 0 (.tmp 13), none, [4]⟩,
    ⟨some 15, .load 1 false (.tmp 14), none, [4]⟩,
    ⟨some 16, .load 17 true (.tmp 3), none, [0, 1, 2, 3]⟩,
    ⟨some 17, .call (.func 72) [(.tmp 15), (.tmp 16)], none, []⟩,
    ⟨some 11, .mov (.tmp 17), none, []⟩,
    ⟨some 18, .ext (.tmp 11) 0, none, [8]⟩,
    ⟨some 19, .ext (.tmp 11) 1, none, [7, 9]⟩,
    ⟨some 5, .mov (.tmp 18), none, [8]⟩,
    ⟨some 6, .mov (.tmp 19), none, []⟩] true)
  (.seq (.region [⟨some 20, .mov (.tmp 6), none, []⟩,
    ⟨some 21, .pur (mkO (.binOp .neq 23 (.tmp 20) (.const (.int .i64 0)) 23) 4), none, []⟩,
    ⟨some 22, .mov (.tmp 21), none, []⟩,
    ⟨some 23, .mov (.tmp 5), some (22, false), []⟩,
    ⟨some 24, .pur (mkO (.unOp .not 4 (.tmp 23)) 4), some (22, false), []⟩,
    ⟨some 25, .pick (.tmp 22) (.const (.bool true)) (.tmp 24), none, []⟩] false)
  (.cond (.tmp 25)
    (.seq (.region [⟨some 4, .mov (.const (.int .i64 2)), none, []⟩] false)
    .ret)
    .skip)))
  (.seq (.region [⟨some 4, .mov (.const (.int .i64 0)), none, []⟩] false)
  .ret))))
def a54 : AFunc := ⟨26, c54, [.tmp 4], 0⟩

/-- blindstamp/ids.At -/
def c55 : ACode :=
  (.seq (.region [⟨some 2, .box 44 (.tmp 0), none, [1, 2]⟩,
    ⟨some 4, .alloc 42 (.agg #[(.int .u8 0), (.int .u32 0), (.int .u8 0), (.int .i64 0)]), none, [0, 2]⟩,
    ⟨some 5, .mov (.const (.int .i64 0)), none, [0, 1]⟩] false)
  (.seq (.seq (.region [⟨some 7, .load 5 true (.tmp 2), none, []⟩,
    ⟨some 8, .call (.func 50) [(.tmp 7)], none, []⟩,
    ⟨some 6, .mov (.tmp 8), none, []⟩] false)
  (.seq (.region [⟨some 9, .mov (.tmp 6), none, []⟩,
    ⟨some 10, .pur (mkO (.binOp .neq 23 (.tmp 9) (.const (.int .i64 0)) 23) 4), none, []⟩] false)
  (.cond (.tmp 10)
    (.seq (.region [⟨some 11, .build (.agg #[(.int .u8 0), (.int .u32 0), (.int .u8 0), (.int .i64 0)]) [], none, [1]⟩,
      ⟨some 12, .mov (.tmp 6), none, [0, 2]⟩,
      ⟨none, .store 4 (.tmp 4) (.tmp 11), none, [1]⟩,
      ⟨some 5, .mov (.tmp 12), none, []⟩] false)
    .ret)
    .skip)))
  (.seq (.seq (.region [⟨some 13, .mov (.tmp 1), none, []⟩,
    ⟨some 14, .pur (mkO (.binOp .lss 3 (.tmp 13) (.const (.int .i64 0)) 3) 4), none, []⟩,
    ⟨some 15, .mov (.tmp 14), none, []⟩,
    ⟨some 16, .mov (.tmp 1), some (15, false), [4, 5]⟩,
    ⟨some 17, .fad 4 (.tmp 2), some (15, false), [3]⟩,
    ⟨some 18, .load 1 false (.tmp 17), some (15, false), [3]⟩,
    ⟨some 19, .pur (mkO (.binOp .geq 3 (.tmp 16) (.tmp 18) 3) 4), some (15, false), []⟩,
    ⟨some 20, .pick (.tmp 15) (.const (.bool true)) (.tmp 19), none, []⟩] false)
  (.cond (.tmp 20)
    (.seq (.region [⟨some 21, .build (.agg #[(.int .u8 0), (.int .u32 0), (.int .u8 0), (.int .i64 0)]) [], none, []⟩,
      ⟨none, .store 4 (.tmp 4) (.tmp 21), none, []⟩,
      ⟨some 5, .mov (.const (.int .i64 2)), none, []⟩] false)
    .ret)
    .skip))
  (.seq (.region [⟨some 22, .fad 0 (.tmp 2), none, [2]⟩,
    ⟨some 23, .load 4 true (.tmp 22), none, [2]⟩,
    ⟨some 24, .mov (.tmp 1), none, [0, 1]⟩,
    ⟨some 25, .call (.func 56) [(.tmp 23), (.tmp 24)], none, []⟩,
    ⟨none, .store 4 (.tmp 4) (.tmp 25), none, []⟩,
    ⟨some 5, .mov (.const (.int .i64 0)), none, []⟩] false)
  .ret))))
def a55 : AFunc := ⟨26, c55, [.cell 4 4 true, .tmp 5], 1⟩

/-- blindstamp/ids.next -/
def c56 : ACode :=
  (.seq (.region [⟨some 2, .box 42 (.tmp 0), none, [1]⟩,
    ⟨some 4, .alloc 42 (.agg #[(.int .u8 0), (.int .u32 0), (.int .u8 0), (.int .i64 0)]), none, [0]⟩] false)
  (.seq (.region [⟨some 5, .fad 3 (.tmp 2), none, [2]⟩,
    ⟨some 6, .load 1 false (.tmp 5), none, [2]⟩,
    ⟨some 7, .mov (.tmp 1), none, [0, 1]⟩,
    ⟨some 8, .pur (mkO (.binOp .add 3 (.tmp 6) (.tmp 7) 3) 3), none, []⟩,
    ⟨some 9, .fad 3 (.tmp 2), none, []⟩,
    ⟨none, .store 1 (.tmp 9) (.tmp 8), none, []⟩] false)
  (.seq (.region [⟨some 10, .load 4 true (.tmp 2), none, []⟩,
    ⟨none, .store 4 (.tmp 4) (.tmp 10), none, []⟩] false)
  .ret)))
def a56 : AFunc := ⟨11, c56, [.cell 4 4 true], 1⟩

/-- blindstamp/op.parts$1 -/
def c57 : ACode :=
  (.seq (.region [⟨some 1, .box 46 (.tmp 0), none, [1]⟩,
    ⟨some 2, .mov (.const (.bool false)), none, [0]⟩] false)
  (.seq (.region [⟨some 3, .fad 10 (.tmp 1), none, [2]⟩,
    ⟨some 4, .load 4 true (.tmp 3), none, [2]⟩,
    ⟨some 5, .build (.agg #[(.int .u8 0), (.int .u32 0), (.int .u8 0), (.int .i64 0)]) [], none, [0, 1]⟩,
    ⟨some 6, .pur (mkO (.binOp .eql 42 (.tmp 4) (.tmp 5) 42) 4), none, []⟩,
    ⟨some 7, .mov (.tmp 6), none, []⟩,
    ⟨some 8, .fad 16 (.tmp 1), some (7, true), []⟩,
    ⟨some 9, .load 1 false (.tmp 8), some (7, true), []⟩,
    ⟨some 10, .len (.tmp 9), some (7, true), []⟩,
    ⟨some 11, .pur (mkO (.binOp .eql 3 (.tmp 10) (.const (.int .i64 0)) 3) 4), some (7, true), []⟩,
    ⟨some 12, .pick (.tmp 7) (.tmp 11) (.const (.bool false)), none, []⟩,
    ⟨some 2, .mov (.tmp 12), none, []⟩] false)
  .ret))
def a57 : AFunc := ⟨13, c57, [.tmp 2], 0⟩

/-- blindstamp/op.parts$2 -/
def c58 : ACode :=
  (.seq (.region [⟨some 1, .box 46 (.tmp 0), none, [1]⟩,
    ⟨some 2, .mov (.const (.bool false)), none, [0]⟩] false)
  (.seq (.region [⟨some 3, .fad 14 (.tmp 1), none, [2]⟩,
    ⟨some 4, .load 2 true (.tmp 3), none, [2]⟩,
    ⟨some 5, .call (.func 59) [], none, [0, 1]⟩,
    ⟨some 6, .pur (mkO (.binOp .eql 29 (.tmp 4) (.tmp 5) 29) 4), none, []⟩,
    ⟨some 2, .mov (.tmp 6), none, []⟩] true)
  .ret))
def a58 : AFunc := ⟨7, c58, [.tmp 2], 0⟩

/-- blindstamp/label.Least -/
def c59 : ACode :=
  (.seq (.region [⟨some 0, .alloc 29 (.agg #[(.int .u8 0), (.int .u32 0)]), none, []⟩] false)
  (.seq (.region [⟨some 1, .build (.agg #[(.int .u8 0), (.int .u32 0)]) [], none, []⟩,
    ⟨none, .store 2 (.tmp 0) (.tmp 1), none, []⟩] false)
  .ret))
def a59 : AFunc := ⟨2, c59, [.cell 0 2 true], 1⟩

/-- blindstamp/op.parts$3 -/
def c60 : ACode :=
  (.seq (.region [⟨some 2, .box 46 (.tmp 0), none, [1]⟩,
    ⟨some 3, .mov (.const (.bool false)), none, [0]⟩] false)
  (.seq (.region [⟨some 5, .fad 10 (.tmp 2), none, [2]⟩,
    ⟨some 6, .load 4 true (.tmp 5), none, [2]⟩,
    ⟨some 7, .build (.agg #[(.int .u8 0), (.int .u32 0), (.int .u8 0), (.int .i64 0)]) [], none, [0, 1]⟩,
    ⟨some 8, .pur (mkO (.binOp .eql 42 (.tmp 6) (.tmp 7) 42) 4), none, []⟩,
    ⟨some 9, .mov (.tmp 8), none, []⟩,
    ⟨some 10, .fad 10 (.tmp 2), some (9, false), []⟩,
    ⟨some 11, .load 4 true (.tmp 10), some (9, false), []⟩,
    ⟨some 12, .call (.func 37) [(.tmp 11)], some (9, false), []⟩,
    ⟨some 13, .pur (mkO (.binOp .eql 23 (.tmp 12) (.const (.int .i64 0)) 23) 4), some (9, false), []⟩,
    ⟨some 14, .pick (.tmp 9) (.const (.bool true)) (.tmp 13), none, []⟩,
    ⟨some 4, .mov (.tmp 14), none, []⟩] false)
  (.seq (.region [⟨some 15, .load 1 false (.tmp 1), none, [1]⟩,
    ⟨some 16, .load 17 true (.tmp 2), none, [0]⟩,
    ⟨some 17, .call (.tmp 15) [(.tmp 16)], none, []⟩,
    ⟨some 18, .mov (.tmp 17), none, []⟩,
    ⟨some 19, .mov (.tmp 4), some (18, true), []⟩,
    ⟨some 20, .pick (.tmp 18) (.tmp 19) (.const (.bool false)), none, []⟩,
    ⟨some 21, .mov (.tmp 20), none, []⟩,
    ⟨some 22, .fad 5 (.tmp 2), some (21, true), [11, 12]⟩,
    ⟨some 23, .fad 0 (.tmp 22), some (21, true), [11, 12]⟩,
    ⟨some 24, .fad 0 (.tmp 23), some (21, true), [11, 12]⟩,
    ⟨some 25, .load 3 true (.tmp 24), some (21, true), [11, 12]⟩,
    ⟨some 26, .fad 1 (.tmp 2), some (21, true), [7, 8, 9, 10]⟩,
    ⟨some 27, .load 3 true (.tmp 26), some (21, true), [7, 8, 9, 10]⟩,
    ⟨some 28, .pur (mkO (.binOp .eql 40 (.tmp 25) (.tmp 27) 40) 4), some (21, true), []⟩,
    ⟨some 29, .pick (.tmp 21) (.tmp 28) (.const (.bool false)), none, []⟩,
    ⟨some 30, .mov (.tmp 29), none, []⟩,
    ⟨some 31, .fad 16 (.tmp 2), some (30, true), [19, 20, 21]⟩,
    ⟨some 32, .load 1 false (.tmp 31), some (30, true), [19, 20, 21]⟩,
    ⟨some 33, .len (.tmp 32), some (30, true), [19, 20, 21]⟩,
    ⟨some 34, .fad 5 (.tmp 2), some (30, true), [16, 17, 18]⟩,
    ⟨some 35, .fad 4 (.tmp 34), some (30, true), [16, 17, 18]⟩,
    ⟨some 36, .load 1 false (.tmp 35), some (30, true), [16, 17, 18]⟩,
    ⟨some 37, .pur (mkO (.binOp .eql 3 (.tmp 33) (.tmp 36) 3) 4), some (30, true), []⟩,
    ⟨some 38, .pick (.tmp 30) (.tmp 37) (.const (.bool false)), none, []⟩,
    ⟨some 39, .mov (.tmp 38), none, []⟩,
    ⟨some 40, .fad 16 (.tmp 2), some (39, true), []⟩,
    ⟨some 41, .load 1 false (.tmp 40), some (39, true), []⟩,
    ⟨some 42, .call (.func 61) [(.tmp 41)], some (39, true), []⟩,
    ⟨some 43, .pur (mkO (.binOp .eql 23 (.tmp 42) (.const (.int .i64 0)) 23) 4), some (39, true), []⟩,
    ⟨some 44, .pick (.tmp 39) (.tmp 43) (.const (.bool false)), none, []⟩,
    ⟨some 3, .mov (.tmp 44), none, []⟩] false)
  .ret)))
def a60 : AFunc := ⟨45, c60, [.tmp 3], 0⟩

/-- blindstamp/runes.Check -/
def c61 : ACode :=
  (.seq (.region [⟨some 2, .mov (.const (.int .i64 0)), none, []⟩] false)
  (.seq (.region [⟨some 3, .mov (.func 73), none, []⟩] false)
  (.seq (.block 0 (.seq (.region [⟨some 5, .mov (.tmp 0), none, []⟩,
      ⟨some 6, .len (.tmp 5), none, []⟩,
      ⟨some 7, .pur (mkO (.binOp .gtr 3 (.tmp 6) (.const (.int .i64 64)) 3) 4), none, []⟩,
      ⟨some 4, .mov (.tmp 7), none, []⟩] false)
    (.cond (.tmp 4)
      (.seq (.region [⟨some 2, .mov (.const (.int .i64 4)), none, []⟩] false)
      .ret)
      (.seq (.region [⟨some 9, .mov (.tmp 0), none, [1]⟩,
        ⟨some 10, .mov (.tmp 3), none, [0]⟩,
        ⟨some 11, .call (.func 75) [(.tmp 9), (.tmp 10)], none, []⟩,
        ⟨some 8, .mov (.tmp 11), none, []⟩] false)
      (.cond (.tmp 8)
        (.seq (.region [⟨some 2, .mov (.const (.int .i64 8)), none, []⟩] false)
        .ret)
        .skip)))))
  (.seq (.region [⟨some 2, .mov (.const (.int .i64 0)), none, []⟩] false)
  .ret))))
def a61 : AFunc := ⟨12, c61, [.tmp 2], 1⟩

/-- blindstamp/op.parts$4 -/
def c62 : ACode :=
  (.seq (.region [⟨some 2, .mov (.const (.int .i64 0)), none, []⟩] false)
  (.seq (.region [⟨some 3, .mov (.tmp 0), none, []⟩,
    ⟨some 4, .pur (mkO (.binOp .mul 3 (.const (.int .i64 4)) (.tmp 3) 3) 3), none, []⟩,
    ⟨some 5, .pur (mkO (.binOp .add 3 (.const (.int .i64 13)) (.tmp 4) 3) 3), none, []⟩,
    ⟨some 2, .mov (.tmp 5), none, []⟩] false)
  .ret))
def a62 : AFunc := ⟨6, c62, [.tmp 2], 0⟩

/-- blindstamp/op.parts$5 -/
def c63 : ACode :=
  (.seq (.region [⟨some 3, .box 46 (.tmp 0), none, [1]⟩,
    ⟨some 4, .mov (.const (.bool false)), none, [0]⟩] false)
  (.seq (.region [⟨some 5, .load 1 false (.tmp 1), none, [1]⟩,
    ⟨some 6, .load 17 true (.tmp 3), none, [0]⟩,
    ⟨some 7, .call (.tmp 5) [(.tmp 6)], none, []⟩,
    ⟨some 8, .mov (.tmp 7), none, []⟩,
    ⟨some 9, .load 1 false (.tmp 2), some (8, true), [5]⟩,
    ⟨some 10, .load 17 true (.tmp 3), some (8, true), [4]⟩,
    ⟨some 11, .call (.tmp 9) [(.tmp 10)], some (8, true), []⟩,
    ⟨some 12, .pick (.tmp 8) (.tmp 11) (.const (.bool false)), none, []⟩,
    ⟨some 4, .mov (.tmp 12), none, []⟩] false)
  .ret))
def a63 : AFunc := ⟨13, c63, [.tmp 4], 0⟩

/-- blindstamp/op.parts$6 -/
def c64 : ACode :=
  (.seq (.region [⟨some 2, .mov (.const (.int .i64 0)), none, []⟩] false)
  (.seq (.region [⟨some 2, .mov (.const (.int .i64 0)), none, []⟩] false)
  .ret))
def a64 : AFunc := ⟨3, c64, [.tmp 2], 0⟩

/-- blindstamp/op.parts$7 -/
def c65 : ACode :=
  (.seq (.region [⟨some 2, .box 46 (.tmp 0), none, [1]⟩,
    ⟨some 3, .mov (.const (.bool false)), none, [0]⟩] false)
  (.seq (.region [⟨some 4, .load 1 false (.tmp 1), none, [1]⟩,
    ⟨some 5, .load 17 true (.tmp 2), none, [0]⟩,
    ⟨some 6, .call (.tmp 4) [(.tmp 5)], none, []⟩,
    ⟨some 7, .mov (.tmp 6), none, []⟩,
    ⟨some 8, .fad 14 (.tmp 2), some (7, true), []⟩,
    ⟨some 9, .load 2 true (.tmp 8), some (7, true), []⟩,
    ⟨some 10, .call (.func 18) [(.tmp 9)], some (7, true), []⟩,
    ⟨some 11, .pur (mkO (.binOp .eql 23 (.tmp 10) (.const (.int .i64 0)) 23) 4), some (7, true), []⟩,
    ⟨some 12, .pick (.tmp 7) (.tmp 11) (.const (.bool false)), none, []⟩,
    ⟨some 3, .mov (.tmp 12), none, []⟩] false)
  .ret))
def a65 : AFunc := ⟨13, c65, [.tmp 3], 0⟩

/-- blindstamp/op.parts$8 -/
def c66 : ACode :=
  (.seq (.region [⟨some 2, .mov (.const (.int .i64 0)), none, []⟩] false)
  (.seq (.region [⟨some 2, .mov (.const (.int .i64 5)), none, []⟩] false)
  .ret))
def a66 : AFunc := ⟨3, c66, [.tmp 2], 0⟩

/-- (*blindstamp/doc.history).sees -/
def c67 : ACode :=
  (.seq (.region [⟨some 4, .box 46 (.tmp 1), none, [1, 2]⟩,
    ⟨some 5, .box 42 (.tmp 2), none, [0, 2]⟩,
    ⟨some 6, .mov (.const (.bool false)), none, [0, 1]⟩] false)
  (.seq (.region [⟨some 7, .mov (.tmp 0), none, [4]⟩,
    ⟨some 8, .nilck (.tmp 7), none, [4]⟩,
    ⟨some 9, .fad 1 (.tmp 8), none, [4]⟩,
    ⟨some 10, .load 1 false (.tmp 9), none, [4]⟩,
    ⟨some 11, .load 4 true (.tmp 5), none, [0, 1, 2, 3]⟩,
    ⟨some 12, .lookup 42 (.bool false) (.tmp 10) (.tmp 11) false, none, []⟩,
    ⟨some 13, .mov (.tmp 12), none, []⟩,
    ⟨some 14, .fad 0 (.tmp 5), some (13, true), [10, 11, 12]⟩,
    ⟨some 15, .fad 0 (.tmp 14), some (13, true), [10, 11, 12]⟩,
    ⟨some 16, .load 2 true (.tmp 15), some (13, true), [10, 11, 12]⟩,
    ⟨some 17, .fad 1 (.tmp 4), some (13, true), [7, 8, 9]⟩,
    ⟨some 18, .fad 0 (.tmp 17), some (13, true), [7, 8, 9]⟩,
    ⟨some 19, .load 2 true (.tmp 18), some (13, true), [7, 8, 9]⟩,
    ⟨some 20, .call (.func 20) [(.tmp 16), (.tmp 19)], some (13, true), []⟩,
    ⟨some 21, .pick (.tmp 13) (.tmp 20) (.const (.bool false)), none, []⟩,
    ⟨some 6, .mov (.tmp 21), none, []⟩] true)
  .ret))
def a67 : AFunc := ⟨22, c67, [.tmp 6], 0⟩

/-- blindstamp/run.Of -/
def c68 : ACode :=
  (.seq (.region [⟨some 1, .box 46 (.tmp 0), none, [1, 2]⟩,
    ⟨some 2, .alloc 107 (.agg #[(.int .u8 0), (.int .u32 0), (.int .u8 0), (.int .i64 0), (.int .i64 0), (.int .u8 0), (.int .u32 0), (.int .u8 0), (.int .i64 0), (.slice none 0 0)]), none, [0, 2]⟩,
    ⟨some 3, .mov (.const (.int .i64 0)), none, [0, 1]⟩] false)
  (.seq (.seq (.region [⟨some 6, .load 17 true (.tmp 1), none, []⟩,
    ⟨some 7, .call (.func 41) [(.tmp 6)], none, []⟩,
    ⟨some 4, .mov (.tmp 7), none, []⟩] false)
  (.seq (.region [⟨some 8, .mov (.tmp 4), none, []⟩,
    ⟨some 9, .pur (mkO (.binOp .neq 23 (.tmp 8) (.const (.int .i64 0)) 23) 4), none, []⟩] false)
  (.cond (.tmp 9)
    (.seq (.region [⟨some 10, .build (.agg #[(.int .u8 0), (.int .u32 0), (.int .u8 0), (.int .i64 0), (.int .i64 0), (.int .u8 0), (.int .u32 0), (.int .u8 0), (.int .i64 0), (.slice none 0 0)]) [], none, [1]⟩,
      ⟨some 11, .mov (.tmp 4), none, [0, 2]⟩,
      ⟨none, .store 10 (.tmp 2) (.tmp 10), none, [1]⟩,
      ⟨some 3, .mov (.tmp 11), none, []⟩] false)
    .ret)
    .skip)))
  (.seq (.region [⟨some 12, .fad 5 (.tmp 1), none, [2, 3, 4, 5, 6, 8]⟩,
    ⟨some 13, .load 5 true (.tmp 12), none, [2, 3, 4, 5, 6, 8]⟩,
    ⟨some 14, .fad 10 (.tmp 1), none, [0, 1, 4, 5, 6, 8]⟩,
    ⟨some 15, .load 4 true (.tmp 14), none, [0, 1, 4, 5, 6, 8]⟩,
    ⟨some 16, .fad 16 (.tmp 1), none, [0, 1, 2, 3, 8]⟩,
    ⟨some 17, .load 1 false (.tmp 16), none, [0, 1, 2, 3, 8]⟩,
    ⟨some 18, .call (.func 33) [(.tmp 17)], none, [0, 1, 2, 3, 8]⟩,
    ⟨some 19, .build (.agg #[(.int .u8 0), (.int .u32 0), (.int .u8 0), (.int .i64 0), (.int .i64 0), (.int .u8 0), (.int .u32 0), (.int .u8 0), (.int .i64 0), (.slice none 0 0)]) [(0, 5, (.tmp 13)), (5, 4, (.tmp 15)), (9, 1, (.tmp 18))], none, [8]⟩,
    ⟨some 5, .alloc 107 (.agg #[(.int .u8 0), (.int .u32 0), (.int .u8 0), (.int .i64 0), (.int .i64 0), (.int .u8 0), (.int .u32 0), (.int .u8 0), (.int .i64 0), (.slice none 0 0)]), none, [0, 1, 2, 3, 4, 5, 6, 7]⟩,
    ⟨none, .store 10 (.tmp 5) (.tmp 19), none, []⟩] true)
  (.seq (.seq (.region [⟨some 20, .fad 0 (.tmp 1), none, []⟩,
    ⟨some 21, .load 1 false (.tmp 20), none, []⟩,
    ⟨some 22, .pur (mkO (.binOp .neq 5 (.tmp 21) (.const (.int .u8 1)) 5) 4), none, []⟩,
    ⟨some 23, .mov (.tmp 22), none, []⟩,
    ⟨some 24, .load 10 true (.tmp 5), some (23, false), []⟩,
    ⟨some 25, .call (.func 76) [(.tmp 24)], some (23, false), []⟩,
    ⟨some 26, .pur (mkO (.binOp .neq 23 (.tmp 25) (.const (.int .i64 0)) 23) 4), some (23, false), []⟩,
    ⟨some 27, .pick (.tmp 23) (.const (.bool true)) (.tmp 26), none, []⟩] false)
  (.cond (.tmp 27)
    (.seq (.region [⟨some 28, .build (.agg #[(.int .u8 0), (.int .u32 0), (.int .u8 0), (.int .i64 0), (.int .i64 0), (.int .u8 0), (.int .u32 0), (.int .u8 0), (.int .i64 0), (.slice none 0 0)]) [], none, []⟩,
      ⟨none, .store 10 (.tmp 2) (.tmp 28), none, []⟩,
      ⟨some 3, .mov (.const (.int .i64 2)), none, []⟩] false)
    .ret)
    .skip))
  (.seq (.region [⟨some 29, .load 10 true (.tmp 5), none, []⟩,
    ⟨none, .store 10 (.tmp 2) (.tmp 29), none, []⟩,
    ⟨some 3, .mov (.const (.int .i64 0)), none, []⟩] false)
  .ret)))))
def a68 : AFunc := ⟨30, c68, [.cell 2 10 true, .tmp 3], 1⟩

/-- slices.ContainsFunc[[]blindstamp/api.Id,blindstamp/api.Id] -/
def c69 : ACode :=
  (.seq (.region [⟨some 4, .mov (.const (.bool false)), none, []⟩] false)
  (.seq (.region [⟨some 5, .mov (.tmp 0), none, [1]⟩,
    ⟨some 6, .mov (.tmp 1), none, [0]⟩,
    ⟨some 7, .call (.func 77) [(.tmp 5), (.tmp 6)], none, []⟩,
    ⟨some 8, .pur (mkO (.binOp .geq 3 (.tmp 7) (.const (.int .i64 0)) 3) 4), none, []⟩,
    ⟨some 4, .mov (.tmp 8), none, []⟩] false)
  .ret))
def a69 : AFunc := ⟨9, c69, [.tmp 4], 0⟩

/-- (*blindstamp/doc.history).insert$1 -/
def c70 : ACode :=
  (.seq (.region [⟨some 2, .box 42 (.tmp 0), none, [1]⟩,
    ⟨some 3, .mov (.const (.bool false)), none, [0]⟩] false)
  (.seq (.region [⟨some 4, .load 1 false (.tmp 1), none, [4]⟩,
    ⟨some 5, .nilck (.tmp 4), none, [4]⟩,
    ⟨some 6, .fad 1 (.tmp 5), none, [4]⟩,
    ⟨some 7, .load 1 false (.tmp 6), none, [4]⟩,
    ⟨some 8, .load 4 true (.tmp 2), none, [0, 1, 2, 3]⟩,
    ⟨some 9, .lookup 42 (.bool false) (.tmp 7) (.tmp 8) false, none, []⟩,
    ⟨some 3, .mov (.tmp 9), none, []⟩] true)
  .ret))
def a70 : AFunc := ⟨10, c70, [.tmp 3], 0⟩

/-- (*blindstamp/doc.history).all -/
def c71 : ACode :=
  (.seq (.region [⟨some 2, .box 65 (.tmp 0), none, [1, 2]⟩,
    ⟨some 3, .box 46 (.tmp 1), none, [0, 2]⟩,
    ⟨some 4, .mov (.const (.bool false)), none, [0, 1]⟩] false)
  (.seq (.region [⟨some 5, .fad 5 (.tmp 3), none, [3]⟩,
    ⟨some 6, .load 5 true (.tmp 5), none, [3]⟩,
    ⟨some 7, .call (.func 43) [(.tmp 6)], none, [3]⟩,
    ⟨some 8, .mkfn 78 [] [(.tmp 2), (.tmp 3)], none, [0, 1, 2]⟩,
    ⟨some 9, .call (.func 69) [(.tmp 7), (.tmp 8)], none, []⟩,
    ⟨some 10, .pur (mkO (.unOp .not 4 (.tmp 9)) 4), none, []⟩,
    ⟨some 4, .mov (.tmp 10), none, []⟩] false)
  .ret))
def a71 : AFunc := ⟨11, c71, [.tmp 4], 0⟩

/-- blindstamp/chain.Fits -/
def c72 : ACode :=
  (.seq (.region [⟨some 3, .box 46 (.tmp 1), none, [1, 2]⟩,
    ⟨some 4, .mov (.const (.bool false)), none, [0]⟩,
    ⟨some 5, .mov (.const (.int .i64 0)), none, [0]⟩] false)
  (.seq (.seq (.region [⟨some 8, .mov (.tmp 0), none, []⟩,
    ⟨some 9, .call (.func 36) [(.tmp 8)], none, []⟩,
    ⟨some 6, .mov (.tmp 9), none, []⟩] false)
  (.seq (.region [⟨some 10, .mov (.tmp 6), none, []⟩,
    ⟨some 11, .pur (mkO (.binOp .neq 23 (.tmp 10) (.const (.int .i64 0)) 23) 4), none, []⟩] false)
  (.cond (.tmp 11)
    (.seq (.region [⟨some 12, .mov (.tmp 6), none, [1]⟩,
      ⟨some 4, .mov (.const (.bool false)), none, [0]⟩,
      ⟨some 5, .mov (.tmp 12), none, []⟩] false)
    .ret)
    .skip)))
  (.seq (.seq (.region [⟨some 13, .load 17 true (.tmp 3), none, []⟩,
    ⟨some 14, .call (.func 41) [(.tmp 13)], none, []⟩,
    ⟨some 7, .mov (.tmp 14), none, []⟩] false)
  (.seq (.region [⟨some 15, .mov (.tmp 7), none, []⟩,
    ⟨some 16, .pur (mkO (.binOp .neq 23 (.tmp 15) (.const (.int .i64 0)) 23) 4), none, []⟩] false)
  (.cond (.tmp 16)
    (.seq (.region [⟨some 17, .mov (.tmp 7), none, [1]⟩,
      ⟨some 4, .mov (.const (.bool false)), none, [0]⟩,
      ⟨some 5, .mov (.tmp 17), none, []⟩] false)
    .ret)
    .skip)))
  (.seq (.region [⟨some 18, .mov (.tmp 0), none, [1]⟩,
    ⟨some 19, .load 17 true (.tmp 3), none, [0]⟩,
    ⟨some 20, .call (.func 44) [(.tmp 18), (.tmp 19)], none, []⟩,
    ⟨some 4, .mov (.tmp 20), none, []⟩,
    ⟨some 5, .mov (.const (.int .i64 0)), none, []⟩] false)
  .ret))))
def a72 : AFunc := ⟨21, c72, [.tmp 4, .tmp 5], 0⟩

/-- blindstamp/runes.Check$1 -/
def c73 : ACode :=
  (.seq (.region [⟨some 2, .mov (.const (.bool false)), none, []⟩] false)
  (.seq (.region [⟨some 3, .mov (.tmp 0), none, []⟩,
    ⟨some 4, .pur (mkO (.binOp .neq 21 (.tmp 3) (.const (.int .i32 (-1))) 21) 4), none, []⟩,
    ⟨some 5, .mov (.tmp 4), none, []⟩,
    ⟨some 6, .mov (.tmp 0), some (5, true), []⟩,
    ⟨some 7, .call (.func 74) [(.tmp 6)], some (5, true), []⟩,
    ⟨some 8, .pur (mkO (.unOp .not 4 (.tmp 7)) 4), some (5, true), []⟩,
    ⟨some 9, .pick (.tmp 5) (.tmp 8) (.const (.bool false)), none, []⟩,
    ⟨some 2, .mov (.tmp 9), none, []⟩] false)
  .ret))
def a73 : AFunc := ⟨10, c73, [.tmp 2], 1⟩

/-- unicode/utf8.ValidRune -/
def c74 : ACode :=
  (.seq (.region [⟨some 2, .mov (.const (.bool false)), none, []⟩] false)
  (.seq (.block 0 (.seq (.region [⟨some 4, .mov (.tmp 0), none, []⟩,
      ⟨some 5, .pur (mkO (.binOp .leq 21 (.const (.int .i32 0)) (.tmp 4) 21) 4), none, []⟩,
      ⟨some 6, .mov (.tmp 5), none, []⟩,
      ⟨some 7, .mov (.tmp 0), some (6, true), []⟩,
      ⟨some 8, .pur (mkO (.binOp .lss 21 (.tmp 7) (.const (.int .i32 55296)) 21) 4), some (6, true), []⟩,
      ⟨some 9, .pick (.tmp 6) (.tmp 8) (.const (.bool false)), none, []⟩,
      ⟨some 3, .mov (.tmp 9), none, []⟩] false)
    (.cond (.tmp 3)
      (.seq (.region [⟨some 2, .mov (.const (.bool true)), none, []⟩] false)
      .ret)
      (.seq (.region [⟨some 11, .mov (.tmp 0), none, []⟩,
        ⟨some 12, .pur (mkO (.binOp .lss 21 (.const (.int .i32 57343)) (.tmp 11) 21) 4), none, []⟩,
        ⟨some 13, .mov (.tmp 12), none, []⟩,
        ⟨some 14, .mov (.tmp 0), some (13, true), []⟩,
        ⟨some 15, .pur (mkO (.binOp .leq 21 (.tmp 14) (.const (.int .i32 1114111)) 21) 4), some (13, true), []⟩,
        ⟨some 16, .pick (.tmp 13) (.tmp 15) (.const (.bool false)), none, []⟩,
        ⟨some 10, .mov (.tmp 16), none, []⟩] false)
      (.cond (.tmp 10)
        (.seq (.region [⟨some 2, .mov (.const (.bool true)), none, []⟩] false)
        .ret)
        .skip)))))
  (.seq (.region [⟨some 2, .mov (.const (.bool false)), none, []⟩] false)
  .ret)))
def a74 : AFunc := ⟨17, c74, [.tmp 2], 1⟩

/-- slices.ContainsFunc[[]int32,rune] -/
def c75 : ACode :=
  (.seq (.region [⟨some 4, .mov (.const (.bool false)), none, []⟩] false)
  (.seq (.region [⟨some 5, .mov (.tmp 0), none, [1]⟩,
    ⟨some 6, .mov (.tmp 1), none, [0]⟩,
    ⟨some 7, .call (.func 79) [(.tmp 5), (.tmp 6)], none, []⟩,
    ⟨some 8, .pur (mkO (.binOp .geq 3 (.tmp 7) (.const (.int .i64 0)) 3) 4), none, []⟩,
    ⟨some 4, .mov (.tmp 8), none, []⟩] false)
  .ret))
def a75 : AFunc := ⟨9, c75, [.tmp 4], 1⟩

/-- blindstamp/run.Check -/
def c76 : ACode :=
  (.seq (.region [⟨some 1, .box 107 (.tmp 0), none, [1]⟩,
    ⟨some 2, .mov (.const (.int .i64 0)), none, [0]⟩] false)
  (.seq (.region [⟨some 4, .fad 5 (.tmp 1), none, [2]⟩,
    ⟨some 5, .load 4 true (.tmp 4), none, [2]⟩,
    ⟨some 6, .build (.agg #[(.int .u8 0), (.int .u32 0), (.int .u8 0), (.int .i64 0)]) [], none, [0, 1]⟩,
    ⟨some 7, .pur (mkO (.binOp .eql 42 (.tmp 5) (.tmp 6) 42) 4), none, []⟩,
    ⟨some 8, .mov (.tmp 7), none, []⟩,
    ⟨some 9, .fad 5 (.tmp 1), some (8, false), []⟩,
    ⟨some 10, .load 4 true (.tmp 9), some (8, false), []⟩,
    ⟨some 11, .call (.func 37) [(.tmp 10)], some (8, false), []⟩,
    ⟨some 12, .pur (mkO (.binOp .eql 23 (.tmp 11) (.const (.int .i64 0)) 23) 4), some (8, false), []⟩,
    ⟨some 13, .mov (.tmp 12), some (8, false), []⟩,
    ⟨some 14, .fad 5 (.tmp 1), some (13, true), [13, 14, 15, 16]⟩,
    ⟨some 15, .fad 3 (.tmp 14), some (13, true), [13, 14, 15, 16]⟩,
    ⟨some 16, .load 1 false (.tmp 15), some (13, true), [13, 14, 15, 16]⟩,
    ⟨some 17, .fad 0 (.tmp 1), some (13, true), [10, 11, 12]⟩,
    ⟨some 18, .fad 0 (.tmp 17), some (13, true), [10, 11, 12]⟩,
    ⟨some 19, .fad 3 (.tmp 18), some (13, true), [10, 11, 12]⟩,
    ⟨some 20, .load 1 false (.tmp 19), some (13, true), [10, 11, 12]⟩,
    ⟨some 21, .pur (mkO (.binOp .lss 3 (.tmp 16) (.tmp 20) 3) 4), some (13, true), []⟩,
    ⟨some 22, .pick (.tmp 13) (.tmp 21) (.const (.bool false)), some (8, false), []⟩,
    ⟨some 23, .pick (.tmp 8) (.const (.bool true)) (.tmp 22), none, []⟩,
    ⟨some 3, .mov (.tmp 23), none, []⟩] false)
  (.seq (.seq (.region [⟨some 24, .fad 0 (.tmp 1), none, []⟩,
    ⟨some 25, .load 5 true (.tmp 24), none, []⟩,
    ⟨some 26, .call (.func 50) [(.tmp 25)], none, []⟩,
    ⟨some 27, .pur (mkO (.binOp .neq 23 (.tmp 26) (.const (.int .i64 0)) 23) 4), none, []⟩,
    ⟨some 28, .mov (.tmp 27), none, []⟩,
    ⟨some 29, .mov (.tmp 3), some (28, false), []⟩,
    ⟨some 30, .pur (mkO (.unOp .not 4 (.tmp 29)) 4), some (28, false), []⟩,
    ⟨some 31, .pick (.tmp 28) (.const (.bool true)) (.tmp 30), none, []⟩,
    ⟨some 32, .mov (.tmp 31), none, []⟩,
    ⟨some 33, .fad 9 (.tmp 1), some (32, false), [12, 13, 14]⟩,
    ⟨some 34, .load 1 false (.tmp 33), some (32, false), [12, 13, 14]⟩,
    ⟨some 35, .len (.tmp 34), some (32, false), [12, 13, 14]⟩,
    ⟨some 36, .fad 0 (.tmp 1), some (32, false), [9, 10, 11]⟩,
    ⟨some 37, .fad 4 (.tmp 36), some (32, false), [9, 10, 11]⟩,
    ⟨some 38, .load 1 false (.tmp 37), some (32, false), [9, 10, 11]⟩,
    ⟨some 39, .pur (mkO (.binOp .neq 3 (.tmp 35) (.tmp 38) 3) 4), some (32, false), []⟩,
    ⟨some 40, .pick (.tmp 32) (.const (.bool true)) (.tmp 39), none, []⟩,
    ⟨some 41, .mov (.tmp 40), none, []⟩,
    ⟨some 42, .fad 9 (.tmp 1), some (41, false), []⟩,
    ⟨some 43, .load 1 false (.tmp 42), some (41, false), []⟩,
    ⟨some 44, .call (.func 61) [(.tmp 43)], some (41, false), []⟩,
    ⟨some 45, .pur (mkO (.binOp .neq 23 (.tmp 44) (.const (.int .i64 0)) 23) 4), some (41, false), []⟩,
    ⟨some 46, .pick (.tmp 41) (.const (.bool true)) (.tmp 45), none, []⟩] false)
  (.cond (.tmp 46)
    (.seq (.region [⟨some 2, .mov (.const (.int .i64 8)), none, []⟩] false)
    .ret)
    .skip))
  (.seq (.region [⟨some 2, .mov (.const (.int .i64 0)), none, []⟩] false)
  .ret))))
def a76 : AFunc := ⟨47, c76, [.tmp 2], 1⟩

/-- slices.IndexFunc[[]blindstamp/api.Id,blindstamp/api.Id] -/
def c77 : ACode :=
  (.seq (.region [⟨some 4, .mov (.const (.int .i64 0)), none, []⟩] false)
  (.seq (.seq (.region [⟨some 6, .mov (.tmp 0), none, [2]⟩,
    ⟨some 7, .len (.tmp 6), none, [2]⟩,
    ⟨some 8, .mov (.const (.int .i64 0)), none, [0, 1]⟩] false)
  (.block 0 (.loop (.seq (.region [⟨some 9, .pur (mkO (.binOp .lss 3 (.tmp 8) (.tmp 7) 3) 0), none, []⟩] false)
      (.seq (.cond (.tmp 9)
        .skip
        (.exit 0))
      (.seq (.block 1 (.seq (.region [⟨some 10, .mov (.tmp 8), none, []⟩,
          ⟨some 5, .mov (.tmp 10), none, []⟩] false)
        (.seq (.region [⟨some 11, .mov (.tmp 1), none, [1, 2, 3, 4]⟩,
          ⟨some 12, .mov (.tmp 0), none, [0, 2]⟩,
          ⟨some 13, .mov (.tmp 5), none, [0, 1]⟩,
          ⟨some 14, .iad 4 (.tmp 12) (.tmp 13), none, [0]⟩,
          ⟨some 15, .load 4 true (.tmp 14), none, [0]⟩,
          ⟨some 16, .call (.tmp 11) [(.tmp 15)], none, []⟩] false)
        (.cond (.tmp 16)
          (.seq (.region [⟨some 17, .mov (.tmp 5), none, []⟩,
            ⟨some 4, .mov (.tmp 17), none, []⟩] false)
          .ret)
          .skip))))
      (.region [⟨some 18, .pur (mkO (.binOp .add 3 (.tmp 8) (.const (.int .i64 1)) 3) 3), none, []⟩,
        ⟨some 8, .mov (.tmp 18), none, []⟩] false)))))))
  (.seq (.region [⟨some 4, .mov (.const (.int .i64 (-1))), none, []⟩] false)
  .ret)))
def a77 : AFunc := ⟨19, c77, [.tmp 4], 0⟩

/-- (*blindstamp/doc.history).all$1 -/
def c78 : ACode :=
  (.seq (.region [⟨some 3, .box 42 (.tmp 0), none, [1]⟩,
    ⟨some 4, .mov (.const (.bool false)), none, [0]⟩] false)
  (.seq (.region [⟨some 5, .load 1 false (.tmp 1), none, [1, 2]⟩,
    ⟨some 6, .load 17 true (.tmp 2), none, [0, 2]⟩,
    ⟨some 7, .load 4 true (.tmp 3), none, [0, 1]⟩,
    ⟨some 8, .call (.func 67) [(.tmp 5), (.tmp 6), (.tmp 7)], none, []⟩,
    ⟨some 9, .pur (mkO (.unOp .not 4 (.tmp 8)) 4), none, []⟩,
    ⟨some 4, .mov (.tmp 9), none, []⟩] false)
  .ret))
def a78 : AFunc := ⟨10, c78, [.tmp 4], 0⟩

/-- slices.IndexFunc[[]int32,rune] -/
def c79 : ACode :=
  (.seq (.region [⟨some 4, .mov (.const (.int .i64 0)), none, []⟩] false)
  (.seq (.seq (.region [⟨some 6, .mov (.tmp 0), none, [2]⟩,
    ⟨some 7, .len (.tmp 6), none, [2]⟩,
    ⟨some 8, .mov (.const (.int .i64 0)), none, [0, 1]⟩] false)
  (.block 0 (.loop (.seq (.region [⟨some 9, .pur (mkO (.binOp .lss 3 (.tmp 8) (.tmp 7) 3) 0), none, []⟩] false)
      (.seq (.cond (.tmp 9)
        .skip
        (.exit 0))
      (.seq (.block 1 (.seq (.region [⟨some 10, .mov (.tmp 8), none, []⟩,
          ⟨some 5, .mov (.tmp 10), none, []⟩] false)
        (.seq (.region [⟨some 11, .mov (.tmp 1), none, [1, 2, 3, 4]⟩,
          ⟨some 12, .mov (.tmp 0), none, [0, 2]⟩,
          ⟨some 13, .mov (.tmp 5), none, [0, 1]⟩,
          ⟨some 14, .iad 1 (.tmp 12) (.tmp 13), none, [0]⟩,
          ⟨some 15, .load 1 false (.tmp 14), none, [0]⟩,
          ⟨some 16, .call (.tmp 11) [(.tmp 15)], none, []⟩] false)
        (.cond (.tmp 16)
          (.seq (.region [⟨some 17, .mov (.tmp 5), none, []⟩,
            ⟨some 4, .mov (.tmp 17), none, []⟩] false)
          .ret)
          .skip))))
      (.region [⟨some 18, .pur (mkO (.binOp .add 3 (.tmp 8) (.const (.int .i64 1)) 3) 3), none, []⟩,
        ⟨some 8, .mov (.tmp 18), none, []⟩] false)))))))
  (.seq (.region [⟨some 4, .mov (.const (.int .i64 (-1))), none, []⟩] false)
  .ret)))
def a79 : AFunc := ⟨19, c79, [.tmp 4], 1⟩

def tbl : List (Option AFunc) := [none, none, none, none, some a4, some a5, some a6, some a7, some a8, some a9, some a10, some a11, some a12, some a13, some a14, some a15, some a16, some a17, some a18, some a19, some a20, some a21, some a22, some a23, some a24, some a25, some a26, some a27, some a28, some a29, some a30, some a31, some a32, some a33, some a34, some a35, some a36, some a37, some a38, some a39, some a40, some a41, some a42, some a43, some a44, some a45, some a46, some a47, some a48, some a49, some a50, some a51, some a52, some a53, some a54, some a55, some a56, some a57, some a58, some a59, some a60, some a61, some a62, some a63, some a64, some a65, some a66, some a67, some a68, some a69, some a70, some a71, some a72, some a73, some a74, some a75, some a76, some a77, some a78, some a79]
theorem tf4 : fsT tbl 4 = some a4 := rfl
theorem tf5 : fsT tbl 5 = some a5 := rfl
theorem tf6 : fsT tbl 6 = some a6 := rfl
theorem tf7 : fsT tbl 7 = some a7 := rfl
theorem tf8 : fsT tbl 8 = some a8 := rfl
theorem tf9 : fsT tbl 9 = some a9 := rfl
theorem tf10 : fsT tbl 10 = some a10 := rfl
theorem tf11 : fsT tbl 11 = some a11 := rfl
theorem tf12 : fsT tbl 12 = some a12 := rfl
theorem tf13 : fsT tbl 13 = some a13 := rfl
theorem tf14 : fsT tbl 14 = some a14 := rfl
theorem tf15 : fsT tbl 15 = some a15 := rfl
theorem tf16 : fsT tbl 16 = some a16 := rfl
theorem tf17 : fsT tbl 17 = some a17 := rfl
theorem tf18 : fsT tbl 18 = some a18 := rfl
theorem tf19 : fsT tbl 19 = some a19 := rfl
theorem tf20 : fsT tbl 20 = some a20 := rfl
theorem tf21 : fsT tbl 21 = some a21 := rfl
theorem tf22 : fsT tbl 22 = some a22 := rfl
theorem tf23 : fsT tbl 23 = some a23 := rfl
theorem tf24 : fsT tbl 24 = some a24 := rfl
theorem tf25 : fsT tbl 25 = some a25 := rfl
theorem tf26 : fsT tbl 26 = some a26 := rfl
theorem tf27 : fsT tbl 27 = some a27 := rfl
theorem tf28 : fsT tbl 28 = some a28 := rfl
theorem tf29 : fsT tbl 29 = some a29 := rfl
theorem tf30 : fsT tbl 30 = some a30 := rfl
theorem tf31 : fsT tbl 31 = some a31 := rfl
theorem tf32 : fsT tbl 32 = some a32 := rfl
theorem tf33 : fsT tbl 33 = some a33 := rfl
theorem tf34 : fsT tbl 34 = some a34 := rfl
theorem tf35 : fsT tbl 35 = some a35 := rfl
theorem tf36 : fsT tbl 36 = some a36 := rfl
theorem tf37 : fsT tbl 37 = some a37 := rfl
theorem tf38 : fsT tbl 38 = some a38 := rfl
theorem tf39 : fsT tbl 39 = some a39 := rfl
theorem tf40 : fsT tbl 40 = some a40 := rfl
theorem tf41 : fsT tbl 41 = some a41 := rfl
theorem tf42 : fsT tbl 42 = some a42 := rfl
theorem tf43 : fsT tbl 43 = some a43 := rfl
theorem tf44 : fsT tbl 44 = some a44 := rfl
theorem tf45 : fsT tbl 45 = some a45 := rfl
theorem tf46 : fsT tbl 46 = some a46 := rfl
theorem tf47 : fsT tbl 47 = some a47 := rfl
theorem tf48 : fsT tbl 48 = some a48 := rfl
theorem tf49 : fsT tbl 49 = some a49 := rfl
theorem tf50 : fsT tbl 50 = some a50 := rfl
theorem tf51 : fsT tbl 51 = some a51 := rfl
theorem tf52 : fsT tbl 52 = some a52 := rfl
theorem tf53 : fsT tbl 53 = some a53 := rfl
theorem tf54 : fsT tbl 54 = some a54 := rfl
theorem tf55 : fsT tbl 55 = some a55 := rfl
theorem tf56 : fsT tbl 56 = some a56 := rfl
theorem tf57 : fsT tbl 57 = some a57 := rfl
theorem tf58 : fsT tbl 58 = some a58 := rfl
theorem tf59 : fsT tbl 59 = some a59 := rfl
theorem tf60 : fsT tbl 60 = some a60 := rfl
theorem tf61 : fsT tbl 61 = some a61 := rfl
theorem tf62 : fsT tbl 62 = some a62 := rfl
theorem tf63 : fsT tbl 63 = some a63 := rfl
theorem tf64 : fsT tbl 64 = some a64 := rfl
theorem tf65 : fsT tbl 65 = some a65 := rfl
theorem tf66 : fsT tbl 66 = some a66 := rfl
theorem tf67 : fsT tbl 67 = some a67 := rfl
theorem tf68 : fsT tbl 68 = some a68 := rfl
theorem tf69 : fsT tbl 69 = some a69 := rfl
theorem tf70 : fsT tbl 70 = some a70 := rfl
theorem tf71 : fsT tbl 71 = some a71 := rfl
theorem tf72 : fsT tbl 72 = some a72 := rfl
theorem tf73 : fsT tbl 73 = some a73 := rfl
theorem tf74 : fsT tbl 74 = some a74 := rfl
theorem tf75 : fsT tbl 75 = some a75 := rfl
theorem tf76 : fsT tbl 76 = some a76 := rfl
theorem tf77 : fsT tbl 77 = some a77 := rfl
theorem tf78 : fsT tbl 78 = some a78 := rfl
theorem tf79 : fsT tbl 79 = some a79 := rfl
end Go.Proofs.Ytggbpfdbcibifaa
