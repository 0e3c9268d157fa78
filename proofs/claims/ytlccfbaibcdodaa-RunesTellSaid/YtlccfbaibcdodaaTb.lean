/-
  The program's functions, as the executor has them: the table.
-/
import Derived.Test.YtlccfbaibcdodaaRows
import Derived.Test.YtlccfbaibcdodaaEe
import Derived.Test.YtlccfbaibcdodaaRxX
set_option linter.unusedSimpArgs false
set_option linter.unusedVariables false
set_option maxRecDepth 100000
namespace Go.Proofs.Ytlccfbaibcdodaa
open Go Go.Ax
/-- blindstamp/blindstamplaw04.RunesTell -/
def c6 : ACode :=
  (.seq (.region [⟨some 10, .mov (.const (.bool false)), none, []⟩] false)
  (.seq (.seq (.region [⟨some 36, .mov (.tmp 0), none, []⟩,
    ⟨some 37, .pur (mkO (.call ⟨.builtin .len, #[(.tmp 36)], #[9]⟩) 3), none, []⟩,
    ⟨some 38, .pur (mkO (.binOp .gtr 3 (.tmp 37) (.const (.int .i64 2000)) 3) 4), none, []⟩,
    ⟨some 39, .mov (.tmp 38), none, []⟩,
    ⟨some 40, .mov (.tmp 1), some (39, false), []⟩,
    ⟨some 41, .len (.tmp 40), some (39, false), []⟩,
    ⟨some 42, .pur (mkO (.binOp .gtr 3 (.tmp 41) (.const (.int .i64 2000)) 3) 4), some (39, false), []⟩,
    ⟨some 43, .pick (.tmp 39) (.const (.bool true)) (.tmp 42), none, []⟩,
    ⟨some 44, .mov (.tmp 43), none, []⟩,
    ⟨some 45, .mov (.tmp 2), some (44, false), []⟩,
    ⟨some 46, .len (.tmp 45), some (44, false), []⟩,
    ⟨some 47, .pur (mkO (.binOp .gtr 3 (.tmp 46) (.const (.int .i64 2000)) 3) 4), some (44, false), []⟩,
    ⟨some 48, .pick (.tmp 44) (.const (.bool true)) (.tmp 47), none, []⟩,
    ⟨some 49, .mov (.tmp 48), none, []⟩,
    ⟨some 50, .mov (.tmp 3), some (49, false), []⟩,
    ⟨some 51, .len (.tmp 50), some (49, false), []⟩,
    ⟨some 52, .pur (mkO (.binOp .gtr 3 (.tmp 51) (.const (.int .i64 2000)) 3) 4), some (49, false), []⟩,
    ⟨some 53, .pick (.tmp 49) (.const (.bool true)) (.tmp 52), none, []⟩,
    ⟨some 54, .mov (.tmp 53), none, []⟩,
    ⟨some 55, .mov (.tmp 4), some (54, false), []⟩,
    ⟨some 56, .pur (mkO (.call ⟨.builtin .len, #[(.tmp 55)], #[9]⟩) 3), some (54, false), []⟩,
    ⟨some 57, .pur (mkO (.binOp .gtr 3 (.tmp 56) (.const (.int .i64 100)) 3) 4), some (54, false), []⟩,
    ⟨some 58, .pick (.tmp 54) (.const (.bool true)) (.tmp 57), none, []⟩] false)
  (.cond (.tmp 58)
    (.seq (.region [⟨some 10, .mov (.const (.bool true)), none, []⟩] false)
    .ret)
    .skip))
  (.seq (.region [⟨some 59, .mov (.tmp 1), none, []⟩,
    ⟨some 60, .app 21 1 4 (.int .i32 0) (.const (.slice none 0 0)) (.tmp 59), none, []⟩,
    ⟨some 11, .mov (.tmp 60), none, []⟩] false)
  (.seq (.region [⟨some 61, .mov (.tmp 3), none, []⟩,
    ⟨some 62, .b2s (.tmp 61), none, []⟩,
    ⟨some 12, .mov (.tmp 62), none, []⟩] false)
  (.seq (.region [⟨some 64, .mov (.tmp 0), none, []⟩,
    ⟨some 65, .call (.func 13) [(.tmp 64)], none, []⟩,
    ⟨some 63, .mov (.tmp 65), none, []⟩,
    ⟨some 66, .ext (.tmp 63) 0, none, [4]⟩,
    ⟨some 67, .ext (.tmp 63) 1, none, [3, 5]⟩,
    ⟨some 13, .mov (.tmp 66), none, [4]⟩,
    ⟨some 14, .mov (.tmp 67), none, []⟩] false)
  (.seq (.region [⟨some 69, .mov (.tmp 0), none, []⟩,
    ⟨some 70, .call (.func 15) [(.tmp 69)], none, []⟩,
    ⟨some 68, .mov (.tmp 70), none, []⟩,
    ⟨some 71, .ext (.tmp 68) 0, none, [4]⟩,
    ⟨some 72, .ext (.tmp 68) 1, none, [3, 5]⟩,
    ⟨some 15, .mov (.tmp 71), none, [4]⟩,
    ⟨some 16, .mov (.tmp 72), none, []⟩] false)
  (.seq (.region [⟨some 74, .mov (.tmp 11), none, []⟩,
    ⟨some 75, .call (.func 10) [(.tmp 74)], none, []⟩,
    ⟨some 73, .mov (.tmp 75), none, []⟩,
    ⟨some 76, .ext (.tmp 73) 0, none, [4]⟩,
    ⟨some 77, .ext (.tmp 73) 1, none, [3, 5]⟩,
    ⟨some 17, .mov (.tmp 76), none, [4]⟩,
    ⟨some 18, .mov (.tmp 77), none, []⟩] false)
  (.seq (.region [⟨some 79, .mov (.tmp 1), none, []⟩,
    ⟨some 80, .call (.func 16) [(.tmp 79)], none, []⟩,
    ⟨some 78, .mov (.tmp 80), none, []⟩,
    ⟨some 81, .ext (.tmp 78) 0, none, [4]⟩,
    ⟨some 82, .ext (.tmp 78) 1, none, [3, 5]⟩,
    ⟨some 19, .mov (.tmp 81), none, [4]⟩,
    ⟨some 20, .mov (.tmp 82), none, []⟩] false)
  (.seq (.region [⟨some 84, .mov (.tmp 3), none, []⟩,
    ⟨some 85, .call (.func 12) [(.tmp 84)], none, []⟩,
    ⟨some 83, .mov (.tmp 85), none, []⟩,
    ⟨some 86, .ext (.tmp 83) 0, none, [4]⟩,
    ⟨some 87, .ext (.tmp 83) 1, none, [3, 5]⟩,
    ⟨some 21, .mov (.tmp 86), none, [4]⟩,
    ⟨some 22, .mov (.tmp 87), none, []⟩] false)
  (.seq (.region [⟨some 89, .mov (.tmp 3), none, []⟩,
    ⟨some 90, .call (.func 17) [(.tmp 89)], none, []⟩,
    ⟨some 88, .mov (.tmp 90), none, []⟩,
    ⟨some 91, .ext (.tmp 88) 0, none, [4]⟩,
    ⟨some 92, .ext (.tmp 88) 1, none, [3, 5]⟩,
    ⟨some 23, .mov (.tmp 91), none, [4]⟩,
    ⟨some 24, .mov (.tmp 92), none, []⟩] false)
  (.seq (.region [⟨some 94, .mov (.tmp 11), none, [1]⟩,
    ⟨some 95, .mov (.tmp 2), none, [0]⟩,
    ⟨some 96, .call (.func 9) [(.tmp 94), (.tmp 95)], none, []⟩,
    ⟨some 93, .mov (.tmp 96), none, []⟩,
    ⟨some 97, .ext (.tmp 93) 0, none, [5]⟩,
    ⟨some 98, .ext (.tmp 93) 1, none, [4, 6]⟩,
    ⟨some 25, .mov (.tmp 97), none, [5]⟩,
    ⟨some 26, .mov (.tmp 98), none, []⟩] false)
  (.seq (.region [⟨some 100, .mov (.tmp 1), none, [1]⟩,
    ⟨some 101, .mov (.tmp 2), none, [0]⟩,
    ⟨some 102, .call (.func 18) [(.tmp 100), (.tmp 101)], none, []⟩,
    ⟨some 99, .mov (.tmp 102), none, []⟩,
    ⟨some 103, .ext (.tmp 99) 0, none, [5]⟩,
    ⟨some 104, .ext (.tmp 99) 1, none, [4, 6]⟩,
    ⟨some 27, .mov (.tmp 103), none, [5]⟩,
    ⟨some 28, .mov (.tmp 104), none, []⟩] false)
  (.seq (.region [⟨some 106, .mov (.tmp 11), none, [1]⟩,
    ⟨some 107, .mov (.tmp 4), none, [0]⟩,
    ⟨some 108, .call (.func 14) [(.tmp 106), (.tmp 107)], none, []⟩,
    ⟨some 105, .mov (.tmp 108), none, []⟩,
    ⟨some 109, .ext (.tmp 105) 0, none, [5]⟩,
    ⟨some 110, .ext (.tmp 105) 1, none, [4, 6]⟩,
    ⟨some 29, .mov (.tmp 109), none, [5]⟩,
    ⟨some 30, .mov (.tmp 110), none, []⟩] false)
  (.seq (.region [⟨some 112, .mov (.tmp 1), none, [1]⟩,
    ⟨some 113, .mov (.tmp 4), none, [0]⟩,
    ⟨some 114, .call (.func 19) [(.tmp 112), (.tmp 113)], none, []⟩,
    ⟨some 111, .mov (.tmp 114), none, []⟩,
    ⟨some 115, .ext (.tmp 111) 0, none, [5]⟩,
    ⟨some 116, .ext (.tmp 111) 1, none, [4, 6]⟩,
    ⟨some 31, .mov (.tmp 115), none, [5]⟩,
    ⟨some 32, .mov (.tmp 116), none, []⟩] false)
  (.seq (.region [⟨some 117, .mov (.tmp 13), none, [1]⟩,
    ⟨some 118, .mov (.tmp 15), none, [0]⟩,
    ⟨some 119, .call (.func 11) [(.tmp 117), (.tmp 118)], none, []⟩,
    ⟨some 120, .mov (.tmp 119), none, []⟩,
    ⟨some 121, .mov (.tmp 14), some (120, true), [5]⟩,
    ⟨some 122, .mov (.tmp 16), some (120, true), [4]⟩,
    ⟨some 123, .pur (mkO (.binOp .eql 3 (.tmp 121) (.tmp 122) 3) 4), some (120, true), []⟩,
    ⟨some 124, .pick (.tmp 120) (.tmp 123) (.const (.bool false)), none, []⟩,
    ⟨some 125, .mov (.tmp 124), none, []⟩,
    ⟨some 126, .mov (.tmp 17), some (125, true), [11, 12]⟩,
    ⟨some 127, .b2s (.tmp 126), some (125, true), [11, 12]⟩,
    ⟨some 128, .mov (.tmp 19), some (125, true), [9, 10]⟩,
    ⟨some 129, .b2s (.tmp 128), some (125, true), [9, 10]⟩,
    ⟨some 130, .pur (mkO (.binOp .eql 9 (.tmp 127) (.tmp 129) 9) 4), some (125, true), []⟩,
    ⟨some 131, .pick (.tmp 125) (.tmp 130) (.const (.bool false)), none, []⟩,
    ⟨some 132, .mov (.tmp 131), none, []⟩,
    ⟨some 133, .mov (.tmp 18), some (132, true), [17]⟩,
    ⟨some 134, .mov (.tmp 20), some (132, true), [16]⟩,
    ⟨some 135, .pur (mkO (.binOp .eql 3 (.tmp 133) (.tmp 134) 3) 4), some (132, true), []⟩,
    ⟨some 136, .pick (.tmp 132) (.tmp 135) (.const (.bool false)), none, []⟩,
    ⟨some 137, .mov (.tmp 136), none, []⟩,
    ⟨some 138, .mov (.tmp 21), some (137, true), [22]⟩,
    ⟨some 139, .mov (.tmp 23), some (137, true), [21]⟩,
    ⟨some 140, .call (.func 11) [(.tmp 138), (.tmp 139)], some (137, true), []⟩,
    ⟨some 141, .pick (.tmp 137) (.tmp 140) (.const (.bool false)), none, []⟩,
    ⟨some 142, .mov (.tmp 141), none, []⟩,
    ⟨some 143, .mov (.tmp 22), some (142, true), [27]⟩,
    ⟨some 144, .mov (.tmp 24), some (142, true), [26]⟩,
    ⟨some 145, .pur (mkO (.binOp .eql 3 (.tmp 143) (.tmp 144) 3) 4), some (142, true), []⟩,
    ⟨some 146, .pick (.tmp 142) (.tmp 145) (.const (.bool false)), none, []⟩,
    ⟨some 33, .mov (.tmp 146), none, []⟩] false)
  (.seq (.region [⟨some 147, .mov (.tmp 25), none, [1]⟩,
    ⟨some 148, .mov (.tmp 27), none, [0]⟩,
    ⟨some 149, .call (.func 11) [(.tmp 147), (.tmp 148)], none, []⟩,
    ⟨some 150, .mov (.tmp 149), none, []⟩,
    ⟨some 151, .mov (.tmp 26), some (150, true), [5]⟩,
    ⟨some 152, .mov (.tmp 28), some (150, true), [4]⟩,
    ⟨some 153, .pur (mkO (.binOp .eql 3 (.tmp 151) (.tmp 152) 3) 4), some (150, true), []⟩,
    ⟨some 154, .pick (.tmp 150) (.tmp 153) (.const (.bool false)), none, []⟩,
    ⟨some 155, .mov (.tmp 154), none, []⟩,
    ⟨some 156, .mov (.tmp 29), some (155, true), [10]⟩,
    ⟨some 157, .mov (.tmp 31), some (155, true), [9]⟩,
    ⟨some 158, .pur (mkO (.binOp .eql 9 (.tmp 156) (.tmp 157) 9) 4), some (155, true), []⟩,
    ⟨some 159, .pick (.tmp 155) (.tmp 158) (.const (.bool false)), none, []⟩,
    ⟨some 160, .mov (.tmp 159), none, []⟩,
    ⟨some 161, .mov (.tmp 30), some (160, true), [15]⟩,
    ⟨some 162, .mov (.tmp 32), some (160, true), [14]⟩,
    ⟨some 163, .pur (mkO (.binOp .eql 3 (.tmp 161) (.tmp 162) 3) 4), some (160, true), []⟩,
    ⟨some 164, .pick (.tmp 160) (.tmp 163) (.const (.bool false)), none, []⟩,
    ⟨some 165, .mov (.tmp 164), none, []⟩,
    ⟨some 166, .mov (.tmp 11), some (165, true), [21]⟩,
    ⟨some 167, .call (.func 8) [(.tmp 166)], some (165, true), [21]⟩,
    ⟨some 168, .mov (.tmp 1), some (165, true), [19, 20]⟩,
    ⟨some 169, .call (.func 20) [(.tmp 168)], some (165, true), []⟩,
    ⟨some 170, .pur (mkO (.binOp .eql 3 (.tmp 167) (.tmp 169) 3) 4), some (165, true), []⟩,
    ⟨some 171, .pick (.tmp 165) (.tmp 170) (.const (.bool false)), none, []⟩,
    ⟨some 34, .mov (.tmp 171), none, []⟩] false)
  (.seq (.seq (.region [⟨some 35, .mov (.const (.int .i64 0)), none, []⟩] false)
  (.block 0 (.loop (.seq (.seq (.region [⟨some 172, .mov (.tmp 35), none, [1, 2]⟩,
        ⟨some 173, .mov (.tmp 25), none, [0]⟩,
        ⟨some 174, .len (.tmp 173), none, [0]⟩,
        ⟨some 175, .pur (mkO (.binOp .lss 3 (.tmp 172) (.tmp 174) 3) 4), none, []⟩] false)
      (.cond (.tmp 175)
        .skip
        (.exit 0)))
      (.seq (.block 1 (.region [⟨some 178, .mov (.tmp 25), none, [1]⟩,
          ⟨some 179, .mov (.tmp 35), none, [0]⟩,
          ⟨some 180, .iad 1 (.tmp 178) (.tmp 179), none, []⟩,
          ⟨none, .store 1 (.tmp 180) (.const (.int .i32 7)), none, []⟩] false))
      (.region [⟨some 176, .mov (.tmp 35), none, []⟩,
        ⟨some 177, .pur (mkO (.binOp .add 3 (.tmp 176) (.const (.int .i64 1)) 3) 3), none, []⟩,
        ⟨some 35, .mov (.tmp 177), none, []⟩] false))))))
  (.seq (.region [⟨some 181, .mov (.tmp 33), none, []⟩,
    ⟨some 182, .mov (.tmp 181), none, []⟩,
    ⟨some 183, .mov (.tmp 34), some (182, true), []⟩,
    ⟨some 184, .pick (.tmp 182) (.tmp 183) (.const (.bool false)), none, []⟩,
    ⟨some 185, .mov (.tmp 184), none, []⟩,
    ⟨some 186, .mov (.tmp 11), some (185, true), [6]⟩,
    ⟨some 187, .mov (.tmp 1), some (185, true), [5]⟩,
    ⟨some 188, .call (.func 11) [(.tmp 186), (.tmp 187)], some (185, true), []⟩,
    ⟨some 189, .pick (.tmp 185) (.tmp 188) (.const (.bool false)), none, []⟩,
    ⟨some 190, .mov (.tmp 189), none, []⟩,
    ⟨some 191, .mov (.tmp 3), some (190, true), [12]⟩,
    ⟨some 192, .b2s (.tmp 191), some (190, true), [12]⟩,
    ⟨some 193, .mov (.tmp 12), some (190, true), [10, 11]⟩,
    ⟨some 194, .pur (mkO (.binOp .eql 9 (.tmp 192) (.tmp 193) 9) 4), some (190, true), []⟩,
    ⟨some 195, .pick (.tmp 190) (.tmp 194) (.const (.bool false)), none, []⟩,
    ⟨some 10, .mov (.tmp 195), none, []⟩] false)
  .ret))))))))))))))))))
def a6 : AFunc := ⟨196, c6, [.tmp 10], 1⟩

/-- blindstamp/runes.Check -/
def c8 : ACode :=
  (.seq (.region [⟨some 2, .mov (.const (.int .i64 0)), none, []⟩] false)
  (.seq (.region [⟨some 3, .mov (.func 22), none, []⟩] false)
  (.seq (.block 0 (.seq (.region [⟨some 5, .mov (.tmp 0), none, []⟩,
      ⟨some 6, .len (.tmp 5), none, []⟩,
      ⟨some 7, .pur (mkO (.binOp .gtr 3 (.tmp 6) (.const (.int .i64 64)) 3) 4), none, []⟩,
      ⟨some 4, .mov (.tmp 7), none, []⟩] false)
    (.cond (.tmp 4)
      (.seq (.region [⟨some 2, .mov (.const (.int .i64 4)), none, []⟩] false)
      .ret)
      (.seq (.region [⟨some 9, .mov (.tmp 0), none, [1]⟩,
        ⟨some 10, .mov (.tmp 3), none, [0]⟩,
        ⟨some 11, .call (.func 24) [(.tmp 9), (.tmp 10)], none, []⟩,
        ⟨some 8, .mov (.tmp 11), none, []⟩] false)
      (.cond (.tmp 8)
        (.seq (.region [⟨some 2, .mov (.const (.int .i64 8)), none, []⟩] false)
        .ret)
        .skip)))))
  (.seq (.region [⟨some 2, .mov (.const (.int .i64 0)), none, []⟩] false)
  .ret))))
def a8 : AFunc := ⟨12, c8, [.tmp 2], 1⟩

/-- blindstamp/runes.Hide -/
def c9 : ACode :=
  (.seq (.region [⟨some 4, .mov (.const (.slice none 0 0)), none, []⟩,
    ⟨some 5, .mov (.const (.int .i64 0)), none, []⟩] false)
  (.seq (.seq (.region [⟨some 10, .mov (.tmp 0), none, []⟩,
    ⟨some 11, .call (.func 8) [(.tmp 10)], none, []⟩,
    ⟨some 6, .mov (.tmp 11), none, []⟩] false)
  (.seq (.region [⟨some 12, .mov (.tmp 6), none, []⟩,
    ⟨some 13, .pur (mkO (.binOp .neq 25 (.tmp 12) (.const (.int .i64 0)) 25) 4), none, []⟩] false)
  (.cond (.tmp 13)
    (.seq (.region [⟨some 14, .mov (.tmp 6), none, [1]⟩,
      ⟨some 4, .mov (.const (.slice none 0 0)), none, [0]⟩,
      ⟨some 5, .mov (.tmp 14), none, []⟩] false)
    .ret)
    .skip)))
  (.seq (.seq (.region [⟨some 15, .mov (.tmp 1), none, [2, 3]⟩,
    ⟨some 16, .len (.tmp 15), none, [2, 3]⟩,
    ⟨some 17, .mov (.tmp 0), none, [0, 1]⟩,
    ⟨some 18, .len (.tmp 17), none, [0, 1]⟩,
    ⟨some 19, .pur (mkO (.binOp .neq 3 (.tmp 16) (.tmp 18) 3) 4), none, []⟩] false)
  (.cond (.tmp 19)
    (.seq (.region [⟨some 4, .mov (.const (.slice none 0 0)), none, []⟩,
      ⟨some 5, .mov (.const (.int .i64 2)), none, []⟩] false)
    .ret)
    .skip))
  (.seq (.region [⟨some 20, .mov (.tmp 0), none, []⟩,
    ⟨some 21, .call (.func 25) [(.tmp 20)], none, []⟩,
    ⟨some 7, .mov (.tmp 21), none, []⟩] false)
  (.seq (.seq (.region [⟨some 22, .mov (.tmp 1), none, [2]⟩,
    ⟨some 23, .len (.tmp 22), none, [2]⟩,
    ⟨some 24, .mov (.const (.int .i64 0)), none, [0, 1]⟩] false)
  (.block 0 (.loop (.seq (.region [⟨some 25, .pur (mkO (.binOp .lss 3 (.tmp 24) (.tmp 23) 3) 0), none, []⟩] false)
      (.seq (.cond (.tmp 25)
        .skip
        (.exit 0))
      (.seq (.block 1 (.seq (.region [⟨some 26, .mov (.tmp 24), none, [1, 2]⟩,
          ⟨some 27, .iad 1 (.tmp 22) (.tmp 24), none, [0]⟩,
          ⟨some 28, .load 1 false (.tmp 27), none, [0]⟩,
          ⟨some 8, .mov (.tmp 26), none, []⟩,
          ⟨some 9, .mov (.tmp 28), none, []⟩] false)
        (.seq (.region [⟨some 29, .mov (.tmp 9), none, []⟩] false)
        (.cond (.tmp 29)
          (.region [⟨some 30, .mov (.tmp 7), none, [1]⟩,
            ⟨some 31, .mov (.tmp 8), none, [0]⟩,
            ⟨some 32, .iad 1 (.tmp 30) (.tmp 31), none, []⟩,
            ⟨none, .store 1 (.tmp 32) (.const (.int .i32 (-1))), none, []⟩] false)
          .skip))))
      (.region [⟨some 33, .pur (mkO (.binOp .add 3 (.tmp 24) (.const (.int .i64 1)) 3) 3), none, []⟩,
        ⟨some 24, .mov (.tmp 33), none, []⟩] false)))))))
  (.seq (.region [⟨some 34, .mov (.tmp 7), none, []⟩,
    ⟨some 4, .mov (.tmp 34), none, []⟩,
    ⟨some 5, .mov (.const (.int .i64 0)), none, []⟩] false)
  .ret))))))
def a9 : AFunc := ⟨35, c9, [.tmp 4, .tmp 5], 0⟩

/-- blindstamp/runes.Put -/
def c10 : ACode :=
  (.seq (.region [⟨some 2, .mov (.const (.slice none 0 0)), none, []⟩,
    ⟨some 3, .mov (.const (.int .i64 0)), none, []⟩] false)
  (.seq (.seq (.region [⟨some 8, .mov (.tmp 0), none, []⟩,
    ⟨some 9, .call (.func 8) [(.tmp 8)], none, []⟩,
    ⟨some 4, .mov (.tmp 9), none, []⟩] false)
  (.seq (.region [⟨some 10, .mov (.tmp 4), none, []⟩,
    ⟨some 11, .pur (mkO (.binOp .neq 25 (.tmp 10) (.const (.int .i64 0)) 25) 4), none, []⟩] false)
  (.cond (.tmp 11)
    (.seq (.region [⟨some 12, .mov (.tmp 4), none, [1]⟩,
      ⟨some 2, .mov (.const (.slice none 0 0)), none, [0]⟩,
      ⟨some 3, .mov (.tmp 12), none, []⟩] false)
    .ret)
    .skip)))
  (.seq (.region [⟨some 5, .mov (.const (.slice none 0 0)), none, []⟩] false)
  (.seq (.seq (.region [⟨some 13, .mov (.tmp 0), none, [2]⟩,
    ⟨some 14, .len (.tmp 13), none, [2]⟩,
    ⟨some 15, .mov (.const (.int .i64 0)), none, [0, 1]⟩] false)
  (.block 0 (.loop (.seq (.region [⟨some 16, .pur (mkO (.binOp .lss 3 (.tmp 15) (.tmp 14) 3) 0), none, []⟩] false)
      (.seq (.cond (.tmp 16)
        .skip
        (.exit 0))
      (.seq (.block 1 (.seq (.region [⟨some 17, .iad 1 (.tmp 13) (.tmp 15), none, []⟩,
          ⟨some 18, .load 1 false (.tmp 17), none, []⟩,
          ⟨some 7, .mov (.tmp 18), none, []⟩] false)
        (.region [⟨some 19, .mov (.tmp 5), none, [1, 2, 3, 4, 5, 6, 7, 8, 9, 10, 11, 12]⟩,
          ⟨some 20, .mov (.tmp 7), none, [0, 4, 5, 6, 7, 8, 9, 10, 11]⟩,
          ⟨some 21, .pur (mkO (.binOp .shr 21 (.tmp 20) (.const (.int .u64 24)) 53) 21), none, [0, 4, 5, 6, 7, 8, 9, 10, 11]⟩,
          ⟨some 22, .pur (mkO (.convert 21 5 (.tmp 21)) 5), none, [0, 4, 5, 6, 7, 8, 9, 10, 11]⟩,
          ⟨some 23, .mov (.tmp 7), none, [0, 1, 2, 3, 7, 8, 9, 10, 11]⟩,
          ⟨some 24, .pur (mkO (.binOp .shr 21 (.tmp 23) (.const (.int .u64 16)) 53) 21), none, [0, 1, 2, 3, 7, 8, 9, 10, 11]⟩,
          ⟨some 25, .pur (mkO (.convert 21 5 (.tmp 24)) 5), none, [0, 1, 2, 3, 7, 8, 9, 10, 11]⟩,
          ⟨some 26, .mov (.tmp 7), none, [0, 1, 2, 3, 4, 5, 6, 10, 11]⟩,
          ⟨some 27, .pur (mkO (.binOp .shr 21 (.tmp 26) (.const (.int .u64 8)) 53) 21), none, [0, 1, 2, 3, 4, 5, 6, 10, 11]⟩,
          ⟨some 28, .pur (mkO (.convert 21 5 (.tmp 27)) 5), none, [0, 1, 2, 3, 4, 5, 6, 10, 11]⟩,
          ⟨some 29, .mov (.tmp 7), none, [0, 1, 2, 3, 4, 5, 6, 7, 8, 9]⟩,
          ⟨some 30, .pur (mkO (.convert 21 5 (.tmp 29)) 5), none, [0, 1, 2, 3, 4, 5, 6, 7, 8, 9]⟩,
          ⟨some 31, .bsl 5 1 (.int .u8 0) 4 [(0, 1, (.tmp 22)), (1, 1, (.tmp 25)), (2, 1, (.tmp 28)), (3, 1, (.tmp 30))], none, [0]⟩,
          ⟨some 32, .app 5 1 1 (.int .u8 0) (.tmp 19) (.tmp 31), none, []⟩,
          ⟨some 5, .mov (.tmp 32), none, []⟩] false)))
      (.region [⟨some 33, .pur (mkO (.binOp .add 3 (.tmp 15) (.const (.int .i64 1)) 3) 3), none, []⟩,
        ⟨some 15, .mov (.tmp 33), none, []⟩] false)))))))
  (.seq (.region [⟨some 34, .mov (.tmp 5), none, []⟩,
    ⟨some 2, .mov (.tmp 34), none, []⟩,
    ⟨some 3, .mov (.const (.int .i64 0)), none, []⟩] false)
  .ret)))))
def a10 : AFunc := ⟨35, c10, [.tmp 2, .tmp 3], 1⟩

/-- blindstamp/blindstampref04.Same -/
def c11 : ACode :=
  (.seq (.region [⟨some 4, .mov (.const (.bool false)), none, []⟩] false)
  (.seq (.seq (.region [⟨some 6, .mov (.tmp 0), none, [2, 3]⟩,
    ⟨some 7, .len (.tmp 6), none, [2, 3]⟩,
    ⟨some 8, .mov (.tmp 1), none, [0, 1]⟩,
    ⟨some 9, .len (.tmp 8), none, [0, 1]⟩,
    ⟨some 10, .pur (mkO (.binOp .neq 3 (.tmp 7) (.tmp 9) 3) 4), none, []⟩] false)
  (.cond (.tmp 10)
    (.seq (.region [⟨some 4, .mov (.const (.bool false)), none, []⟩] false)
    .ret)
    .skip))
  (.seq (.seq (.region [⟨some 5, .mov (.const (.int .i64 0)), none, []⟩] false)
  (.block 0 (.loop (.seq (.seq (.region [⟨some 11, .mov (.tmp 5), none, [1, 2]⟩,
        ⟨some 12, .mov (.tmp 0), none, [0]⟩,
        ⟨some 13, .len (.tmp 12), none, [0]⟩,
        ⟨some 14, .pur (mkO (.binOp .lss 3 (.tmp 11) (.tmp 13) 3) 4), none, []⟩] false)
      (.cond (.tmp 14)
        .skip
        (.exit 0)))
      (.seq (.block 1 (.seq (.region [⟨some 17, .mov (.tmp 0), none, [1, 4, 5, 6, 7]⟩,
          ⟨some 18, .mov (.tmp 5), none, [0, 4, 5, 6, 7]⟩,
          ⟨some 19, .iad 1 (.tmp 17) (.tmp 18), none, [4, 5, 6, 7]⟩,
          ⟨some 20, .load 1 false (.tmp 19), none, [4, 5, 6, 7]⟩,
          ⟨some 21, .mov (.tmp 1), none, [0, 1, 2, 3, 5]⟩,
          ⟨some 22, .mov (.tmp 5), none, [0, 1, 2, 3, 4]⟩,
          ⟨some 23, .iad 1 (.tmp 21) (.tmp 22), none, [0, 1, 2, 3]⟩,
          ⟨some 24, .load 1 false (.tmp 23), none, [0, 1, 2, 3]⟩,
          ⟨some 25, .pur (mkO (.binOp .neq 21 (.tmp 20) (.tmp 24) 21) 4), none, []⟩] true)
        (.cond (.tmp 25)
          (.seq (.region [⟨some 4, .mov (.const (.bool false)), none, []⟩] false)
          .ret)
          .skip)))
      (.region [⟨some 15, .mov (.tmp 5), none, []⟩,
        ⟨some 16, .pur (mkO (.binOp .add 3 (.tmp 15) (.const (.int .i64 1)) 3) 3), none, []⟩,
        ⟨some 5, .mov (.tmp 16), none, []⟩] false))))))
  (.seq (.region [⟨some 4, .mov (.const (.bool true)), none, []⟩] false)
  .ret))))
def a11 : AFunc := ⟨26, c11, [.tmp 4], 2⟩

/-- blindstamp/runes.Get -/
def c12 : ACode :=
  (.seq (.region [⟨some 2, .alloc 22 (.slice none 0 0), none, [1]⟩,
    ⟨some 3, .mov (.const (.int .i64 0)), none, [0]⟩] false)
  (.seq (.block 0 (.seq (.region [⟨some 7, .mov (.tmp 0), none, []⟩,
      ⟨some 8, .len (.tmp 7), none, []⟩,
      ⟨some 9, .pur (mkO (.binOp .gtr 3 (.tmp 8) (.const (.int .i64 256)) 3) 4), none, []⟩,
      ⟨some 6, .mov (.tmp 9), none, []⟩] false)
    (.cond (.tmp 6)
      (.seq (.region [⟨none, .store 1 (.tmp 2) (.const (.slice none 0 0)), none, []⟩,
        ⟨some 3, .mov (.const (.int .i64 4)), none, []⟩] false)
      .ret)
      (.seq (.region [⟨some 11, .mov (.tmp 0), none, []⟩,
        ⟨some 12, .len (.tmp 11), none, []⟩,
        ⟨some 13, .pur (mkO (.binOp .rem 3 (.tmp 12) (.const (.int .i64 4)) 3) 3), none, []⟩,
        ⟨some 14, .pur (mkO (.binOp .gtr 3 (.tmp 13) (.const (.int .i64 0)) 3) 4), none, []⟩,
        ⟨some 10, .mov (.tmp 14), none, []⟩] false)
      (.cond (.tmp 10)
        (.seq (.region [⟨none, .store 1 (.tmp 2) (.const (.slice none 0 0)), none, []⟩,
          ⟨some 3, .mov (.const (.int .i64 8)), none, []⟩] false)
        .ret)
        .skip)))))
  (.seq (.seq (.region [⟨some 15, .mov (.tmp 0), none, []⟩,
    ⟨some 16, .call (.func 26) [(.tmp 15), (.const (.int .i64 4))], none, []⟩] false)
  (.block 1 (.rangeFunc (.tmp 16) [17] (.region [⟨some 4, .mov (.tmp 17), none, []⟩] false) (.block 2 (.region [⟨some 18, .load 1 false (.tmp 2), none, [1, 2, 3, 4, 5, 6, 7, 8, 9, 10, 11, 12, 13, 14, 15, 16, 17, 18, 19, 20, 21, 22, 23, 24]⟩,
          ⟨some 19, .mov (.tmp 4), none, [0, 6, 7, 8, 9, 10, 12, 13, 14, 15, 16, 18, 19, 20, 21]⟩,
          ⟨some 20, .iad 1 (.tmp 19) (.const (.int .i64 0)), none, [0, 6, 7, 8, 9, 10, 12, 13, 14, 15, 16, 18, 19, 20, 21]⟩,
          ⟨some 21, .load 1 false (.tmp 20), none, [0, 6, 7, 8, 9, 10, 12, 13, 14, 15, 16, 18, 19, 20, 21]⟩,
          ⟨some 22, .pur (mkO (.convert 5 57 (.tmp 21)) 57), none, [0, 6, 7, 8, 9, 10, 12, 13, 14, 15, 16, 18, 19, 20, 21]⟩,
          ⟨some 23, .pur (mkO (.binOp .shl 57 (.tmp 22) (.const (.int .u64 24)) 53) 57), none, [0, 6, 7, 8, 9, 10, 12, 13, 14, 15, 16, 18, 19, 20, 21]⟩,
          ⟨some 24, .mov (.tmp 4), none, [0, 1, 2, 3, 4, 5, 12, 13, 14, 15, 16, 18, 19, 20, 21]⟩,
          ⟨some 25, .iad 1 (.tmp 24) (.const (.int .i64 1)), none, [0, 1, 2, 3, 4, 5, 12, 13, 14, 15, 16, 18, 19, 20, 21]⟩,
          ⟨some 26, .load 1 false (.tmp 25), none, [0, 1, 2, 3, 4, 5, 12, 13, 14, 15, 16, 18, 19, 20, 21]⟩,
          ⟨some 27, .pur (mkO (.convert 5 57 (.tmp 26)) 57), none, [0, 1, 2, 3, 4, 5, 12, 13, 14, 15, 16, 18, 19, 20, 21]⟩,
          ⟨some 28, .pur (mkO (.binOp .shl 57 (.tmp 27) (.const (.int .u64 16)) 53) 57), none, [0, 1, 2, 3, 4, 5, 12, 13, 14, 15, 16, 18, 19, 20, 21]⟩,
          ⟨some 29, .pur (mkO (.binOp .or 57 (.tmp 23) (.tmp 28) 57) 57), none, [0, 12, 13, 14, 15, 16, 18, 19, 20, 21]⟩,
          ⟨some 30, .mov (.tmp 4), none, [0, 1, 2, 3, 4, 5, 6, 7, 8, 9, 10, 11, 18, 19, 20, 21]⟩,
          ⟨some 31, .iad 1 (.tmp 30) (.const (.int .i64 2)), none, [0, 1, 2, 3, 4, 5, 6, 7, 8, 9, 10, 11, 18, 19, 20, 21]⟩,
          ⟨some 32, .load 1 false (.tmp 31), none, [0, 1, 2, 3, 4, 5, 6, 7, 8, 9, 10, 11, 18, 19, 20, 21]⟩,
          ⟨some 33, .pur (mkO (.convert 5 57 (.tmp 32)) 57), none, [0, 1, 2, 3, 4, 5, 6, 7, 8, 9, 10, 11, 18, 19, 20, 21]⟩,
          ⟨some 34, .pur (mkO (.binOp .shl 57 (.tmp 33) (.const (.int .u64 8)) 53) 57), none, [0, 1, 2, 3, 4, 5, 6, 7, 8, 9, 10, 11, 18, 19, 20, 21]⟩,
          ⟨some 35, .pur (mkO (.binOp .or 57 (.tmp 29) (.tmp 34) 57) 57), none, [0, 18, 19, 20, 21]⟩,
          ⟨some 36, .mov (.tmp 4), none, [0, 1, 2, 3, 4, 5, 6, 7, 8, 9, 10, 11, 12, 13, 14, 15, 16, 17]⟩,
          ⟨some 37, .iad 1 (.tmp 36) (.const (.int .i64 3)), none, [0, 1, 2, 3, 4, 5, 6, 7, 8, 9, 10, 11, 12, 13, 14, 15, 16, 17]⟩,
          ⟨some 38, .load 1 false (.tmp 37), none, [0, 1, 2, 3, 4, 5, 6, 7, 8, 9, 10, 11, 12, 13, 14, 15, 16, 17]⟩,
          ⟨some 39, .pur (mkO (.convert 5 57 (.tmp 38)) 57), none, [0, 1, 2, 3, 4, 5, 6, 7, 8, 9, 10, 11, 12, 13, 14, 15, 16, 17]⟩,
          ⟨some 40, .pur (mkO (.binOp .or 57 (.tmp 35) (.tmp 39) 57) 57), none, [0]⟩,
          ⟨some 41, .pur (mkO (.convert 57 21 (.tmp 40)) 21), none, [0]⟩,
          ⟨some 42, .bsl 21 1 (.int .i32 0) 1 [(0, 1, (.tmp 41))], none, [0]⟩,
          ⟨some 43, .app 21 1 4 (.int .i32 0) (.tmp 18) (.tmp 42), none, []⟩,
          ⟨none, .store 1 (.tmp 2) (.tmp 43), none, []⟩] true)))))
  (.seq (.seq (.region [⟨some 44, .load 1 false (.tmp 2), none, []⟩,
    ⟨some 45, .call (.func 8) [(.tmp 44)], none, []⟩,
    ⟨some 5, .mov (.tmp 45), none, []⟩] false)
  (.seq (.region [⟨some 46, .mov (.tmp 5), none, []⟩,
    ⟨some 47, .pur (mkO (.binOp .neq 25 (.tmp 46) (.const (.int .i64 0)) 25) 4), none, []⟩] false)
  (.cond (.tmp 47)
    (.seq (.region [⟨some 48, .mov (.tmp 5), none, [1]⟩,
      ⟨none, .store 1 (.tmp 2) (.const (.slice none 0 0)), none, [0]⟩,
      ⟨some 3, .mov (.tmp 48), none, []⟩] false)
    .ret)
    .skip)))
  (.seq (.region [⟨some 49, .load 1 false (.tmp 2), none, []⟩,
    ⟨none, .store 1 (.tmp 2) (.tmp 49), none, []⟩,
    ⟨some 3, .mov (.const (.int .i64 0)), none, []⟩] false)
  .ret)))))
def a12 : AFunc := ⟨50, c12, [.cell 2 1 false, .tmp 3], 1⟩

/-- blindstamp/runes.Of -/
def c13 : ACode :=
  (.seq (.region [⟨some 2, .mov (.const (.slice none 0 0)), none, []⟩,
    ⟨some 3, .mov (.const (.int .i64 0)), none, []⟩] false)
  (.seq (.seq (.region [⟨some 6, .mov (.tmp 0), none, []⟩,
    ⟨some 7, .rng (.tmp 6), none, []⟩] false)
  (.block 0 (.loop (.seq (.region [⟨some 8, .nxt (.tmp 7), none, []⟩,
        ⟨some 9, .ext (.tmp 8) 0, none, []⟩] false)
      (.seq (.cond (.tmp 9)
        .skip
        (.exit 0))
      (.block 1 (.seq (.region [⟨some 10, .ext (.tmp 8) 1, none, [1]⟩,
          ⟨some 11, .ext (.tmp 8) 2, none, [0, 2]⟩,
          ⟨some 4, .mov (.tmp 10), none, [1]⟩,
          ⟨some 5, .mov (.tmp 11), none, []⟩] false)
        (.seq (.seq (.region [⟨some 12, .mov (.tmp 5), none, []⟩,
          ⟨some 13, .pur (mkO (.binOp .eql 21 (.tmp 12) (.const (.int .i32 65533)) 21) 4), none, []⟩,
          ⟨some 14, .mov (.tmp 13), none, []⟩,
          ⟨some 15, .mov (.tmp 0), some (14, true), [4]⟩,
          ⟨some 16, .mov (.tmp 4), some (14, true), [3]⟩,
          ⟨some 17, .pur (mkO (.slice 9 (.tmp 15) (some (.tmp 16)) none none) 9), some (14, true), []⟩,
          ⟨some 18, .call (.func 27) [(.tmp 17), (.const (.string ⟨#[239, 191, 189]⟩))], some (14, true), []⟩,
          ⟨some 19, .pur (mkO (.unOp .not 4 (.tmp 18)) 4), some (14, true), []⟩,
          ⟨some 20, .pick (.tmp 14) (.tmp 19) (.const (.bool false)), none, []⟩] false)
        (.cond (.tmp 20)
          (.seq (.region [⟨some 2, .mov (.const (.slice none 0 0)), none, []⟩,
            ⟨some 3, .mov (.const (.int .i64 3)), none, []⟩] false)
          .ret)
          .skip))
        (.region [⟨some 21, .mov (.tmp 2), none, [1, 2]⟩,
          ⟨some 22, .mov (.tmp 5), none, [0]⟩,
          ⟨some 23, .bsl 21 1 (.int .i32 0) 1 [(0, 1, (.tmp 22))], none, [0]⟩,
          ⟨some 24, .app 21 1 4 (.int .i32 0) (.tmp 21) (.tmp 23), none, []⟩,
          ⟨some 2, .mov (.tmp 24), none, []⟩] false)))))))))
  (.seq (.seq (.region [⟨some 25, .mov (.tmp 2), none, []⟩,
    ⟨some 26, .len (.tmp 25), none, []⟩,
    ⟨some 27, .pur (mkO (.binOp .gtr 3 (.tmp 26) (.const (.int .i64 64)) 3) 4), none, []⟩] false)
  (.cond (.tmp 27)
    (.seq (.region [⟨some 2, .mov (.const (.slice none 0 0)), none, []⟩,
      ⟨some 3, .mov (.const (.int .i64 4)), none, []⟩] false)
    .ret)
    .skip))
  (.seq (.region [⟨some 28, .mov (.tmp 2), none, []⟩,
    ⟨some 2, .mov (.tmp 28), none, []⟩,
    ⟨some 3, .mov (.const (.int .i64 0)), none, []⟩] false)
  .ret))))
def a13 : AFunc := ⟨29, c13, [.tmp 2, .tmp 3], 1⟩

/-- blindstamp/runes.Text -/
def c14 : ACode := .skip
def a14 : AFunc := ⟨0, .ext extText, [], 3⟩

/-- blindstamp/blindstampref04.Of -/
def c15 : ACode :=
  (.seq (.region [⟨some 2, .mov (.const (.slice none 0 0)), none, []⟩,
    ⟨some 3, .mov (.const (.int .i64 0)), none, []⟩] false)
  (.seq (.region [⟨some 4, .mov (.const (.slice none 0 0)), none, []⟩] false)
  (.seq (.block 0 (.loop (.seq (.seq (.region [⟨some 7, .mov (.tmp 0), none, []⟩,
        ⟨some 8, .pur (mkO (.binOp .neq 9 (.tmp 7) (.const (.string ⟨#[]⟩)) 9) 4), none, []⟩] false)
      (.cond (.tmp 8)
        .skip
        (.exit 0)))
      (.block 1 (.seq (.region [⟨some 10, .mov (.tmp 0), none, []⟩,
          ⟨some 11, .call (.func 31) [(.tmp 10)], none, []⟩,
          ⟨some 9, .mov (.tmp 11), none, []⟩,
          ⟨some 12, .ext (.tmp 9) 0, none, [4]⟩,
          ⟨some 13, .ext (.tmp 9) 1, none, [3, 5]⟩,
          ⟨some 5, .mov (.tmp 12), none, [4]⟩,
          ⟨some 6, .mov (.tmp 13), none, []⟩] false)
        (.seq (.seq (.region [⟨some 14, .mov (.tmp 6), none, []⟩,
          ⟨some 15, .pur (mkO (.binOp .eql 3 (.tmp 14) (.const (.int .i64 0)) 3) 4), none, []⟩] false)
        (.cond (.tmp 15)
          (.seq (.region [⟨some 2, .mov (.const (.slice none 0 0)), none, []⟩,
            ⟨some 3, .mov (.const (.int .i64 3)), none, []⟩] false)
          .ret)
          .skip))
        (.seq (.region [⟨some 16, .mov (.tmp 4), none, [1, 2, 3]⟩,
          ⟨some 17, .mov (.tmp 5), none, [0]⟩,
          ⟨some 18, .pur (mkO (.convert 3 21 (.tmp 17)) 21), none, [0]⟩,
          ⟨some 19, .bsl 21 1 (.int .i32 0) 1 [(0, 1, (.tmp 18))], none, [0]⟩,
          ⟨some 20, .app 21 1 4 (.int .i32 0) (.tmp 16) (.tmp 19), none, []⟩,
          ⟨some 4, .mov (.tmp 20), none, []⟩] false)
        (.region [⟨some 21, .mov (.tmp 0), none, [1]⟩,
          ⟨some 22, .mov (.tmp 6), none, [0]⟩,
          ⟨some 23, .pur (mkO (.slice 9 (.tmp 21) (some (.tmp 22)) none none) 9), none, []⟩,
          ⟨some 0, .mov (.tmp 23), none, []⟩] false))))))))
  (.seq (.seq (.region [⟨some 24, .mov (.tmp 4), none, []⟩,
    ⟨some 25, .len (.tmp 24), none, []⟩,
    ⟨some 26, .pur (mkO (.binOp .gtr 3 (.tmp 25) (.const (.int .i64 64)) 3) 4), none, []⟩] false)
  (.cond (.tmp 26)
    (.seq (.region [⟨some 2, .mov (.const (.slice none 0 0)), none, []⟩,
      ⟨some 3, .mov (.const (.int .i64 4)), none, []⟩] false)
    .ret)
    .skip))
  (.seq (.region [⟨some 27, .mov (.tmp 4), none, []⟩,
    ⟨some 2, .mov (.tmp 27), none, []⟩,
    ⟨some 3, .mov (.const (.int .i64 0)), none, []⟩] false)
  .ret)))))
def a15 : AFunc := ⟨28, c15, [.tmp 2, .tmp 3], 1⟩

/-- blindstamp/blindstampref04.Put -/
def c16 : ACode :=
  (.seq (.region [⟨some 2, .mov (.const (.slice none 0 0)), none, []⟩,
    ⟨some 3, .mov (.const (.int .i64 0)), none, []⟩] false)
  (.seq (.region [⟨some 5, .mov (.tmp 0), none, []⟩,
    ⟨some 6, .call (.func 20) [(.tmp 5)], none, []⟩,
    ⟨some 4, .mov (.tmp 6), none, []⟩] false)
  (.seq (.seq (.region [⟨some 7, .mov (.tmp 4), none, []⟩,
    ⟨some 8, .pur (mkO (.binOp .neq 3 (.tmp 7) (.const (.int .i64 0)) 3) 4), none, []⟩] false)
  (.cond (.tmp 8)
    (.seq (.region [⟨some 9, .mov (.tmp 4), none, [1]⟩,
      ⟨some 2, .mov (.const (.slice none 0 0)), none, [0]⟩,
      ⟨some 3, .mov (.tmp 9), none, []⟩] false)
    .ret)
    .skip))
  (.seq (.region [⟨some 10, .mov (.tmp 0), none, []⟩,
    ⟨some 11, .call (.func 32) [(.tmp 10)], none, []⟩,
    ⟨some 2, .mov (.tmp 11), none, []⟩,
    ⟨some 3, .mov (.const (.int .i64 0)), none, []⟩] false)
  .ret))))
def a16 : AFunc := ⟨12, c16, [.tmp 2, .tmp 3], 1⟩

/-- blindstamp/blindstampref04.Get -/
def c17 : ACode :=
  (.seq (.region [⟨some 2, .mov (.const (.slice none 0 0)), none, []⟩,
    ⟨some 3, .mov (.const (.int .i64 0)), none, []⟩] false)
  (.seq (.seq (.region [⟨some 7, .mov (.tmp 0), none, []⟩,
    ⟨some 8, .len (.tmp 7), none, []⟩,
    ⟨some 9, .pur (mkO (.binOp .gtr 3 (.tmp 8) (.const (.int .i64 256)) 3) 4), none, []⟩] false)
  (.cond (.tmp 9)
    (.seq (.region [⟨some 2, .mov (.const (.slice none 0 0)), none, []⟩,
      ⟨some 3, .mov (.const (.int .i64 4)), none, []⟩] false)
    .ret)
    .skip))
  (.seq (.region [⟨some 4, .mov (.const (.slice none 0 0)), none, []⟩] false)
  (.seq (.seq (.region [⟨some 5, .mov (.const (.int .i64 0)), none, []⟩] false)
  (.block 0 (.loop (.seq (.seq (.region [⟨some 10, .mov (.tmp 5), none, [2, 3]⟩,
        ⟨some 11, .pur (mkO (.binOp .add 3 (.tmp 10) (.const (.int .i64 3)) 3) 3), none, [2, 3]⟩,
        ⟨some 12, .mov (.tmp 0), none, [0, 1]⟩,
        ⟨some 13, .len (.tmp 12), none, [0, 1]⟩,
        ⟨some 14, .pur (mkO (.binOp .lss 3 (.tmp 11) (.tmp 13) 3) 4), none, []⟩] false)
      (.cond (.tmp 14)
        .skip
        (.exit 0)))
      (.seq (.block 1 (.seq (.region [⟨some 17, .mov (.tmp 0), none, [1, 6, 7, 8, 9, 10, 11, 12, 14, 15, 16, 17, 18, 19, 20, 22, 23, 24, 25, 26, 27]⟩,
          ⟨some 18, .mov (.tmp 5), none, [0, 6, 7, 8, 9, 10, 11, 12, 14, 15, 16, 17, 18, 19, 20, 22, 23, 24, 25, 26, 27]⟩,
          ⟨some 19, .iad 1 (.tmp 17) (.tmp 18), none, [6, 7, 8, 9, 10, 11, 12, 14, 15, 16, 17, 18, 19, 20, 22, 23, 24, 25, 26, 27]⟩,
          ⟨some 20, .load 1 false (.tmp 19), none, [6, 7, 8, 9, 10, 11, 12, 14, 15, 16, 17, 18, 19, 20, 22, 23, 24, 25, 26, 27]⟩,
          ⟨some 21, .pur (mkO (.convert 5 3 (.tmp 20)) 3), none, [6, 7, 8, 9, 10, 11, 12, 14, 15, 16, 17, 18, 19, 20, 22, 23, 24, 25, 26, 27]⟩,
          ⟨some 22, .pur (mkO (.binOp .mul 3 (.const (.int .i64 16777216)) (.tmp 21) 3) 3), none, [6, 7, 8, 9, 10, 11, 12, 14, 15, 16, 17, 18, 19, 20, 22, 23, 24, 25, 26, 27]⟩,
          ⟨some 23, .mov (.tmp 0), none, [0, 1, 2, 3, 4, 5, 7, 8, 14, 15, 16, 17, 18, 19, 20, 22, 23, 24, 25, 26, 27]⟩,
          ⟨some 24, .mov (.tmp 5), none, [0, 1, 2, 3, 4, 5, 6, 14, 15, 16, 17, 18, 19, 20, 22, 23, 24, 25, 26, 27]⟩,
          ⟨some 25, .pur (mkO (.binOp .add 3 (.tmp 24) (.const (.int .i64 1)) 3) 3), none, [0, 1, 2, 3, 4, 5, 6, 14, 15, 16, 17, 18, 19, 20, 22, 23, 24, 25, 26, 27]⟩,
          ⟨some 26, .iad 1 (.tmp 23) (.tmp 25), none, [0, 1, 2, 3, 4, 5, 14, 15, 16, 17, 18, 19, 20, 22, 23, 24, 25, 26, 27]⟩,
          ⟨some 27, .load 1 false (.tmp 26), none, [0, 1, 2, 3, 4, 5, 14, 15, 16, 17, 18, 19, 20, 22, 23, 24, 25, 26, 27]⟩,
          ⟨some 28, .pur (mkO (.convert 5 3 (.tmp 27)) 3), none, [0, 1, 2, 3, 4, 5, 14, 15, 16, 17, 18, 19, 20, 22, 23, 24, 25, 26, 27]⟩,
          ⟨some 29, .pur (mkO (.binOp .mul 3 (.const (.int .i64 65536)) (.tmp 28) 3) 3), none, [0, 1, 2, 3, 4, 5, 14, 15, 16, 17, 18, 19, 20, 22, 23, 24, 25, 26, 27]⟩,
          ⟨some 30, .pur (mkO (.binOp .add 3 (.tmp 22) (.tmp 29) 3) 3), none, [14, 15, 16, 17, 18, 19, 20, 22, 23, 24, 25, 26, 27]⟩,
          ⟨some 31, .mov (.tmp 0), none, [0, 1, 2, 3, 4, 5, 6, 7, 8, 9, 10, 11, 12, 13, 15, 16, 22, 23, 24, 25, 26, 27]⟩,
          ⟨some 32, .mov (.tmp 5), none, [0, 1, 2, 3, 4, 5, 6, 7, 8, 9, 10, 11, 12, 13, 14, 22, 23, 24, 25, 26, 27]⟩,
          ⟨some 33, .pur (mkO (.binOp .add 3 (.tmp 32) (.const (.int .i64 2)) 3) 3), none, [0, 1, 2, 3, 4, 5, 6, 7, 8, 9, 10, 11, 12, 13, 14, 22, 23, 24, 25, 26, 27]⟩,
          ⟨some 34, .iad 1 (.tmp 31) (.tmp 33), none, [0, 1, 2, 3, 4, 5, 6, 7, 8, 9, 10, 11, 12, 13, 22, 23, 24, 25, 26, 27]⟩,
          ⟨some 35, .load 1 false (.tmp 34), none, [0, 1, 2, 3, 4, 5, 6, 7, 8, 9, 10, 11, 12, 13, 22, 23, 24, 25, 26, 27]⟩,
          ⟨some 36, .pur (mkO (.convert 5 3 (.tmp 35)) 3), none, [0, 1, 2, 3, 4, 5, 6, 7, 8, 9, 10, 11, 12, 13, 22, 23, 24, 25, 26, 27]⟩,
          ⟨some 37, .pur (mkO (.binOp .mul 3 (.const (.int .i64 256)) (.tmp 36) 3) 3), none, [0, 1, 2, 3, 4, 5, 6, 7, 8, 9, 10, 11, 12, 13, 22, 23, 24, 25, 26, 27]⟩,
          ⟨some 38, .pur (mkO (.binOp .add 3 (.tmp 30) (.tmp 37) 3) 3), none, [22, 23, 24, 25, 26, 27]⟩,
          ⟨some 39, .mov (.tmp 0), none, [0, 1, 2, 3, 4, 5, 6, 7, 8, 9, 10, 11, 12, 13, 14, 15, 16, 17, 18, 19, 20, 21, 23, 24]⟩,
          ⟨some 40, .mov (.tmp 5), none, [0, 1, 2, 3, 4, 5, 6, 7, 8, 9, 10, 11, 12, 13, 14, 15, 16, 17, 18, 19, 20, 21, 22]⟩,
          ⟨some 41, .pur (mkO (.binOp .add 3 (.tmp 40) (.const (.int .i64 3)) 3) 3), none, [0, 1, 2, 3, 4, 5, 6, 7, 8, 9, 10, 11, 12, 13, 14, 15, 16, 17, 18, 19, 20, 21, 22]⟩,
          ⟨some 42, .iad 1 (.tmp 39) (.tmp 41), none, [0, 1, 2, 3, 4, 5, 6, 7, 8, 9, 10, 11, 12, 13, 14, 15, 16, 17, 18, 19, 20, 21]⟩,
          ⟨some 43, .load 1 false (.tmp 42), none, [0, 1, 2, 3, 4, 5, 6, 7, 8, 9, 10, 11, 12, 13, 14, 15, 16, 17, 18, 19, 20, 21]⟩,
          ⟨some 44, .pur (mkO (.convert 5 3 (.tmp 43)) 3), none, [0, 1, 2, 3, 4, 5, 6, 7, 8, 9, 10, 11, 12, 13, 14, 15, 16, 17, 18, 19, 20, 21]⟩,
          ⟨some 45, .pur (mkO (.binOp .add 3 (.tmp 38) (.tmp 44) 3) 3), none, []⟩,
          ⟨some 6, .mov (.tmp 45), none, []⟩] true)
        (.seq (.region [⟨some 46, .mov (.tmp 6), none, []⟩,
          ⟨some 47, .pur (mkO (.binOp .eql 3 (.tmp 46) (.const (.int .i64 4294967295)) 3) 4), none, []⟩] false)
        (.cond (.tmp 47)
          (.region [⟨some 48, .mov (.tmp 4), none, [1]⟩,
            ⟨some 49, .bsl 21 1 (.int .i32 0) 1 [(0, 1, (.const (.int .i32 (-1))))], none, [0]⟩,
            ⟨some 50, .app 21 1 4 (.int .i32 0) (.tmp 48) (.tmp 49), none, []⟩,
            ⟨some 4, .mov (.tmp 50), none, []⟩] false)
          (.seq (.region [⟨some 51, .mov (.tmp 6), none, []⟩,
            ⟨some 52, .call (.func 33) [(.tmp 51)], none, []⟩] false)
          (.cond (.tmp 52)
            (.region [⟨some 53, .mov (.tmp 4), none, [1, 2, 3]⟩,
              ⟨some 54, .mov (.tmp 6), none, [0]⟩,
              ⟨some 55, .pur (mkO (.convert 3 21 (.tmp 54)) 21), none, [0]⟩,
              ⟨some 56, .bsl 21 1 (.int .i32 0) 1 [(0, 1, (.tmp 55))], none, [0]⟩,
              ⟨some 57, .app 21 1 4 (.int .i32 0) (.tmp 53) (.tmp 56), none, []⟩,
              ⟨some 4, .mov (.tmp 57), none, []⟩] false)
            (.seq (.region [⟨some 2, .mov (.const (.slice none 0 0)), none, []⟩,
              ⟨some 3, .mov (.const (.int .i64 8)), none, []⟩] false)
            .ret)))))))
      (.region [⟨some 15, .mov (.tmp 5), none, []⟩,
        ⟨some 16, .pur (mkO (.binOp .add 3 (.tmp 15) (.const (.int .i64 4)) 3) 3), none, []⟩,
        ⟨some 5, .mov (.tmp 16), none, []⟩] false))))))
  (.seq (.seq (.region [⟨some 58, .mov (.tmp 0), none, []⟩,
    ⟨some 59, .len (.tmp 58), none, []⟩,
    ⟨some 60, .pur (mkO (.binOp .rem 3 (.tmp 59) (.const (.int .i64 4)) 3) 3), none, []⟩,
    ⟨some 61, .pur (mkO (.binOp .neq 3 (.tmp 60) (.const (.int .i64 0)) 3) 4), none, []⟩] false)
  (.cond (.tmp 61)
    (.seq (.region [⟨some 2, .mov (.const (.slice none 0 0)), none, []⟩,
      ⟨some 3, .mov (.const (.int .i64 8)), none, []⟩] false)
    .ret)
    .skip))
  (.seq (.region [⟨some 62, .mov (.tmp 4), none, []⟩,
    ⟨some 2, .mov (.tmp 62), none, []⟩,
    ⟨some 3, .mov (.const (.int .i64 0)), none, []⟩] false)
  .ret))))))
def a17 : AFunc := ⟨63, c17, [.tmp 2, .tmp 3], 1⟩

/-- blindstamp/blindstampref04.Hide -/
def c18 : ACode :=
  (.seq (.region [⟨some 4, .mov (.const (.slice none 0 0)), none, []⟩,
    ⟨some 5, .mov (.const (.int .i64 0)), none, []⟩] false)
  (.seq (.region [⟨some 7, .mov (.tmp 0), none, []⟩,
    ⟨some 8, .call (.func 20) [(.tmp 7)], none, []⟩,
    ⟨some 6, .mov (.tmp 8), none, []⟩] false)
  (.seq (.seq (.region [⟨some 9, .mov (.tmp 6), none, []⟩,
    ⟨some 10, .pur (mkO (.binOp .neq 3 (.tmp 9) (.const (.int .i64 0)) 3) 4), none, []⟩] false)
  (.cond (.tmp 10)
    (.seq (.region [⟨some 11, .mov (.tmp 6), none, [1]⟩,
      ⟨some 4, .mov (.const (.slice none 0 0)), none, [0]⟩,
      ⟨some 5, .mov (.tmp 11), none, []⟩] false)
    .ret)
    .skip))
  (.seq (.seq (.region [⟨some 12, .mov (.tmp 0), none, [2, 3]⟩,
    ⟨some 13, .len (.tmp 12), none, [2, 3]⟩,
    ⟨some 14, .mov (.tmp 1), none, [0, 1]⟩,
    ⟨some 15, .len (.tmp 14), none, [0, 1]⟩,
    ⟨some 16, .pur (mkO (.binOp .neq 3 (.tmp 13) (.tmp 15) 3) 4), none, []⟩] false)
  (.cond (.tmp 16)
    (.seq (.region [⟨some 4, .mov (.const (.slice none 0 0)), none, []⟩,
      ⟨some 5, .mov (.const (.int .i64 2)), none, []⟩] false)
    .ret)
    .skip))
  (.seq (.region [⟨some 17, .mov (.tmp 0), none, [1]⟩,
    ⟨some 18, .mov (.tmp 1), none, [0]⟩,
    ⟨some 19, .call (.func 34) [(.tmp 17), (.tmp 18)], none, []⟩,
    ⟨some 4, .mov (.tmp 19), none, []⟩,
    ⟨some 5, .mov (.const (.int .i64 0)), none, []⟩] false)
  .ret)))))
def a18 : AFunc := ⟨20, c18, [.tmp 4, .tmp 5], 1⟩

/-- blindstamp/blindstampref04.Text -/
def c19 : ACode :=
  (.seq (.region [⟨some 4, .mov (.const (.string ⟨#[]⟩)), none, []⟩,
    ⟨some 5, .mov (.const (.int .i64 0)), none, []⟩] false)
  (.seq (.region [⟨some 9, .mov (.tmp 0), none, []⟩,
    ⟨some 10, .call (.func 20) [(.tmp 9)], none, []⟩,
    ⟨some 6, .mov (.tmp 10), none, []⟩] false)
  (.seq (.seq (.region [⟨some 11, .mov (.tmp 6), none, []⟩,
    ⟨some 12, .pur (mkO (.binOp .neq 3 (.tmp 11) (.const (.int .i64 0)) 3) 4), none, []⟩] false)
  (.cond (.tmp 12)
    (.seq (.region [⟨some 13, .mov (.tmp 6), none, [1]⟩,
      ⟨some 4, .mov (.const (.string ⟨#[]⟩)), none, [0]⟩,
      ⟨some 5, .mov (.tmp 13), none, []⟩] false)
    .ret)
    .skip))
  (.seq (.region [⟨some 7, .mov (.const (.slice none 0 0)), none, []⟩] false)
  (.seq (.seq (.region [⟨some 8, .mov (.const (.int .i64 0)), none, []⟩] false)
  (.block 0 (.loop (.seq (.seq (.region [⟨some 14, .mov (.tmp 8), none, [1, 2]⟩,
        ⟨some 15, .mov (.tmp 0), none, [0]⟩,
        ⟨some 16, .len (.tmp 15), none, [0]⟩,
        ⟨some 17, .pur (mkO (.binOp .lss 3 (.tmp 14) (.tmp 16) 3) 4), none, []⟩] false)
      (.cond (.tmp 17)
        .skip
        (.exit 0)))
      (.seq (.block 1 (.seq (.region [⟨some 20, .mov (.tmp 0), none, [1]⟩,
          ⟨some 21, .mov (.tmp 8), none, [0]⟩,
          ⟨some 22, .iad 1 (.tmp 20) (.tmp 21), none, []⟩,
          ⟨some 23, .load 1 false (.tmp 22), none, []⟩,
          ⟨some 24, .pur (mkO (.binOp .lss 21 (.tmp 23) (.const (.int .i32 0)) 21) 4), none, []⟩] false)
        (.cond (.tmp 24)
          (.region [⟨some 25, .mov (.tmp 7), none, [1]⟩,
            ⟨some 26, .mov (.tmp 1), none, [0]⟩,
            ⟨some 27, .app 5 1 1 (.int .u8 0) (.tmp 25) (.tmp 26), none, []⟩,
            ⟨some 7, .mov (.tmp 27), none, []⟩] false)
          (.region [⟨some 28, .mov (.tmp 7), none, [1, 2, 3, 4, 5, 6]⟩,
            ⟨some 29, .mov (.tmp 0), none, [0, 2]⟩,
            ⟨some 30, .mov (.tmp 8), none, [0, 1]⟩,
            ⟨some 31, .iad 1 (.tmp 29) (.tmp 30), none, [0]⟩,
            ⟨some 32, .load 1 false (.tmp 31), none, [0]⟩,
            ⟨some 33, .pur (mkO (.convert 21 3 (.tmp 32)) 3), none, [0]⟩,
            ⟨some 34, .call (.func 35) [(.tmp 33)], none, [0]⟩,
            ⟨some 35, .app 5 1 1 (.int .u8 0) (.tmp 28) (.tmp 34), none, []⟩,
            ⟨some 7, .mov (.tmp 35), none, []⟩] false))))
      (.region [⟨some 18, .mov (.tmp 8), none, []⟩,
        ⟨some 19, .pur (mkO (.binOp .add 3 (.tmp 18) (.const (.int .i64 1)) 3) 3), none, []⟩,
        ⟨some 8, .mov (.tmp 19), none, []⟩] false))))))
  (.seq (.region [⟨some 36, .mov (.tmp 7), none, []⟩,
    ⟨some 37, .b2s (.tmp 36), none, []⟩,
    ⟨some 4, .mov (.tmp 37), none, []⟩,
    ⟨some 5, .mov (.const (.int .i64 0)), none, []⟩] false)
  .ret))))))
def a19 : AFunc := ⟨38, c19, [.tmp 4, .tmp 5], 1⟩

/-- blindstamp/blindstampref04.Check -/
def c20 : ACode :=
  (.seq (.region [⟨some 2, .mov (.const (.int .i64 0)), none, []⟩] false)
  (.seq (.seq (.region [⟨some 4, .mov (.tmp 0), none, []⟩,
    ⟨some 5, .len (.tmp 4), none, []⟩,
    ⟨some 6, .pur (mkO (.binOp .gtr 3 (.tmp 5) (.const (.int .i64 64)) 3) 4), none, []⟩] false)
  (.cond (.tmp 6)
    (.seq (.region [⟨some 2, .mov (.const (.int .i64 4)), none, []⟩] false)
    .ret)
    .skip))
  (.seq (.seq (.region [⟨some 3, .mov (.const (.int .i64 0)), none, []⟩] false)
  (.block 0 (.loop (.seq (.seq (.region [⟨some 7, .mov (.tmp 3), none, [1, 2]⟩,
        ⟨some 8, .mov (.tmp 0), none, [0]⟩,
        ⟨some 9, .len (.tmp 8), none, [0]⟩,
        ⟨some 10, .pur (mkO (.binOp .lss 3 (.tmp 7) (.tmp 9) 3) 4), none, []⟩] false)
      (.cond (.tmp 10)
        .skip
        (.exit 0)))
      (.seq (.block 1 (.seq (.region [⟨some 13, .mov (.tmp 0), none, [1]⟩,
          ⟨some 14, .mov (.tmp 3), none, [0]⟩,
          ⟨some 15, .iad 1 (.tmp 13) (.tmp 14), none, []⟩,
          ⟨some 16, .load 1 false (.tmp 15), none, []⟩,
          ⟨some 17, .pur (mkO (.binOp .neq 21 (.tmp 16) (.const (.int .i32 (-1))) 21) 4), none, []⟩,
          ⟨some 18, .mov (.tmp 17), none, []⟩,
          ⟨some 19, .mov (.tmp 0), some (18, true), [7]⟩,
          ⟨some 20, .mov (.tmp 3), some (18, true), [6]⟩,
          ⟨some 21, .iad 1 (.tmp 19) (.tmp 20), some (18, true), []⟩,
          ⟨some 22, .load 1 false (.tmp 21), some (18, true), []⟩,
          ⟨some 23, .pur (mkO (.convert 21 3 (.tmp 22)) 3), some (18, true), []⟩,
          ⟨some 24, .call (.func 33) [(.tmp 23)], some (18, true), []⟩,
          ⟨some 25, .pur (mkO (.unOp .not 4 (.tmp 24)) 4), some (18, true), []⟩,
          ⟨some 26, .pick (.tmp 18) (.tmp 25) (.const (.bool false)), none, []⟩] false)
        (.cond (.tmp 26)
          (.seq (.region [⟨some 2, .mov (.const (.int .i64 8)), none, []⟩] false)
          .ret)
          .skip)))
      (.region [⟨some 11, .mov (.tmp 3), none, []⟩,
        ⟨some 12, .pur (mkO (.binOp .add 3 (.tmp 11) (.const (.int .i64 1)) 3) 3), none, []⟩,
        ⟨some 3, .mov (.tmp 12), none, []⟩] false))))))
  (.seq (.region [⟨some 2, .mov (.const (.int .i64 0)), none, []⟩] false)
  .ret))))
def a20 : AFunc := ⟨27, c20, [.tmp 2], 1⟩

/-- blindstamp/runes.Check$1 -/
def c22 : ACode :=
  (.seq (.region [⟨some 2, .mov (.const (.bool false)), none, []⟩] false)
  (.seq (.region [⟨some 3, .mov (.tmp 0), none, []⟩,
    ⟨some 4, .pur (mkO (.binOp .neq 21 (.tmp 3) (.const (.int .i32 (-1))) 21) 4), none, []⟩,
    ⟨some 5, .mov (.tmp 4), none, []⟩,
    ⟨some 6, .mov (.tmp 0), some (5, true), []⟩,
    ⟨some 7, .call (.func 23) [(.tmp 6)], some (5, true), []⟩,
    ⟨some 8, .pur (mkO (.unOp .not 4 (.tmp 7)) 4), some (5, true), []⟩,
    ⟨some 9, .pick (.tmp 5) (.tmp 8) (.const (.bool false)), none, []⟩,
    ⟨some 2, .mov (.tmp 9), none, []⟩] false)
  .ret))
def a22 : AFunc := ⟨10, c22, [.tmp 2], 1⟩

/-- unicode/utf8.ValidRune -/
def c23 : ACode :=
  (.seq (.region [⟨some 2, .mov (.const (.bool false)), none, []⟩] false)
  (.seq (.block 0 (.seq (.region [⟨some 4, .mov (.tmp 0), none, []⟩,
      ⟨some 5, .pur (mkO (.binOp .leq 21 (.const (.int .i32 0)) (.tmp 4) 21) 4), none, []⟩,
      ⟨some 6, .mov (.tmp 5), none, []⟩,
      ⟨some 7, .mov (.tmp 0), some (6, true), []⟩,
      ⟨some 8, .pur (mkO (.binOp .lss 21 (.tmp 7) (.const (.int .i32 55296)) 21) 4), some (6, true), []⟩,
      ⟨some 9, .pick (.tmp 6) (.tmp 8) (.const (.bool false)), none, []⟩,
      ⟨some 3, .mov (.tmp 9), none, []⟩] false)
    (.cond (.tmp 3)
      (.seq (.region [⟨some 2, .mov (.const (.bool true)), none, []⟩] false)
      .ret)
      (.seq (.region [⟨some 11, .mov (.tmp 0), none, []⟩,
        ⟨some 12, .pur (mkO (.binOp .lss 21 (.const (.int .i32 57343)) (.tmp 11) 21) 4), none, []⟩,
        ⟨some 13, .mov (.tmp 12), none, []⟩,
        ⟨some 14, .mov (.tmp 0), some (13, true), []⟩,
        ⟨some 15, .pur (mkO (.binOp .leq 21 (.tmp 14) (.const (.int .i32 1114111)) 21) 4), some (13, true), []⟩,
        ⟨some 16, .pick (.tmp 13) (.tmp 15) (.const (.bool false)), none, []⟩,
        ⟨some 10, .mov (.tmp 16), none, []⟩] false)
      (.cond (.tmp 10)
        (.seq (.region [⟨some 2, .mov (.const (.bool true)), none, []⟩] false)
        .ret)
        .skip)))))
  (.seq (.region [⟨some 2, .mov (.const (.bool false)), none, []⟩] false)
  .ret)))
def a23 : AFunc := ⟨17, c23, [.tmp 2], 1⟩

/-- slices.ContainsFunc[[]int32,rune] -/
def c24 : ACode :=
  (.seq (.region [⟨some 4, .mov (.const (.bool false)), none, []⟩] false)
  (.seq (.region [⟨some 5, .mov (.tmp 0), none, [1]⟩,
    ⟨some 6, .mov (.tmp 1), none, [0]⟩,
    ⟨some 7, .call (.func 36) [(.tmp 5), (.tmp 6)], none, []⟩,
    ⟨some 8, .pur (mkO (.binOp .geq 3 (.tmp 7) (.const (.int .i64 0)) 3) 4), none, []⟩,
    ⟨some 4, .mov (.tmp 8), none, []⟩] false)
  .ret))
def a24 : AFunc := ⟨9, c24, [.tmp 4], 1⟩

/-- slices.Clone[[]int32,int32] -/
def c25 : ACode :=
  (.seq (.region [⟨some 2, .mov (.const (.slice none 0 0)), none, []⟩] false)
  (.seq (.seq (.region [⟨some 3, .mov (.tmp 0), none, []⟩,
    ⟨some 4, .eqnil false 1 (.tmp 3) (mkO (.binOp .eql 22 (.tmp 3) (.const (.slice none 0 0)) 22) 4), none, []⟩] false)
  (.cond (.tmp 4)
    (.seq (.region [⟨some 2, .mov (.const (.slice none 0 0)), none, []⟩] false)
    .ret)
    .skip))
  (.seq (.region [⟨some 5, .bsl 21 1 (.int .i32 0) 0 [], none, [1]⟩,
    ⟨some 6, .mov (.tmp 0), none, [0]⟩,
    ⟨some 7, .app 21 1 4 (.int .i32 0) (.tmp 5) (.tmp 6), none, []⟩,
    ⟨some 2, .mov (.tmp 7), none, []⟩] false)
  .ret)))
def a25 : AFunc := ⟨8, c25, [.tmp 2], 0⟩

/-- slices.Chunk[[]byte,byte] -/
def c26 : ACode :=
  (.seq (.region [⟨some 2, .box 29 (.tmp 0), none, [1, 2]⟩,
    ⟨some 3, .box 3 (.tmp 1), none, [0, 2]⟩,
    ⟨some 4, .mov (.const .nilFunc), none, [0, 1]⟩] false)
  (.seq (.seq (.region [⟨some 5, .load 1 false (.tmp 3), none, []⟩,
    ⟨some 6, .pur (mkO (.binOp .lss 3 (.tmp 5) (.const (.int .i64 1)) 3) 4), none, []⟩] false)
  (.cond (.tmp 6)
    (.region [⟨some 7, .bad "op", none, []⟩,
      ⟨none, .bad "op", none, []⟩] false)
    .skip))
  (.seq (.region [⟨some 8, .mkfn 37 [] [(.tmp 2), (.tmp 3)], none, []⟩,
    ⟨some 4, .mov (.tmp 8), none, []⟩] false)
  .ret)))
def a26 : AFunc := ⟨9, c26, [.tmp 4], 0⟩

/-- strings.HasPrefix -/
def c27 : ACode :=
  (.seq (.region [⟨some 4, .mov (.const (.bool false)), none, []⟩] false)
  (.seq (.region [⟨some 5, .mov (.tmp 0), none, [1]⟩,
    ⟨some 6, .mov (.tmp 1), none, [0]⟩,
    ⟨some 7, .call (.func 38) [(.tmp 5), (.tmp 6)], none, []⟩,
    ⟨some 4, .mov (.tmp 7), none, []⟩] false)
  .ret))
def a27 : AFunc := ⟨8, c27, [.tmp 4], 1⟩

/-- (*strings.Builder).WriteString -/
def c28 : ACode :=
  (.seq (.region [⟨some 4, .mov (.const (.int .i64 0)), none, []⟩,
    ⟨some 5, .mov (.const .nilIface), none, []⟩] false)
  (.seq (.region [⟨some 6, .mov (.tmp 0), none, []⟩,
    ⟨some 7, .call (.func 39) [(.tmp 6)], none, []⟩] false)
  (.seq (.region [⟨some 8, .mov (.tmp 0), none, [1, 2, 3, 4, 5, 6]⟩,
    ⟨some 9, .mov (.tmp 0), none, [0, 5]⟩,
    ⟨some 10, .nilck (.tmp 9), none, [0, 5]⟩,
    ⟨some 11, .fad 1 (.tmp 10), none, [0, 5]⟩,
    ⟨some 12, .load 1 false (.tmp 11), none, [0, 5]⟩,
    ⟨some 13, .mov (.tmp 1), none, [0, 1, 2, 3, 4]⟩,
    ⟨some 14, .app 5 1 1 (.int .u8 0) (.tmp 12) (.tmp 13), none, [0]⟩,
    ⟨some 15, .nilck (.tmp 8), none, []⟩,
    ⟨some 16, .fad 1 (.tmp 15), none, []⟩,
    ⟨none, .store 1 (.tmp 16) (.tmp 14), none, []⟩] false)
  (.seq (.region [⟨some 17, .mov (.tmp 1), none, []⟩,
    ⟨some 18, .pur (mkO (.call ⟨.builtin .len, #[(.tmp 17)], #[9]⟩) 3), none, []⟩,
    ⟨some 4, .mov (.tmp 18), none, []⟩,
    ⟨some 5, .mov (.const .nilIface), none, []⟩] false)
  .ret))))
def a28 : AFunc := ⟨19, c28, [.tmp 4, .tmp 5], 1⟩

/-- (*strings.Builder).WriteRune -/
def c29 : ACode :=
  (.seq (.region [⟨some 4, .mov (.const (.int .i64 0)), none, []⟩,
    ⟨some 5, .mov (.const .nilIface), none, []⟩] false)
  (.seq (.region [⟨some 7, .mov (.tmp 0), none, []⟩,
    ⟨some 8, .call (.func 39) [(.tmp 7)], none, []⟩] false)
  (.seq (.region [⟨some 9, .mov (.tmp 0), none, []⟩,
    ⟨some 10, .nilck (.tmp 9), none, []⟩,
    ⟨some 11, .fad 1 (.tmp 10), none, []⟩,
    ⟨some 12, .load 1 false (.tmp 11), none, []⟩,
    ⟨some 13, .len (.tmp 12), none, []⟩,
    ⟨some 6, .mov (.tmp 13), none, []⟩] false)
  (.seq (.region [⟨some 14, .mov (.tmp 0), none, [1, 2, 3, 4, 5, 6]⟩,
    ⟨some 15, .mov (.tmp 0), none, [0, 5]⟩,
    ⟨some 16, .nilck (.tmp 15), none, [0, 5]⟩,
    ⟨some 17, .fad 1 (.tmp 16), none, [0, 5]⟩,
    ⟨some 18, .load 1 false (.tmp 17), none, [0, 5]⟩,
    ⟨some 19, .mov (.tmp 1), none, [0, 1, 2, 3, 4]⟩,
    ⟨some 20, .call (.func 40) [(.tmp 18), (.tmp 19)], none, [0]⟩,
    ⟨some 21, .nilck (.tmp 14), none, []⟩,
    ⟨some 22, .fad 1 (.tmp 21), none, []⟩,
    ⟨none, .store 1 (.tmp 22) (.tmp 20), none, []⟩] false)
  (.seq (.region [⟨some 23, .mov (.tmp 0), none, [5]⟩,
    ⟨some 24, .nilck (.tmp 23), none, [5]⟩,
    ⟨some 25, .fad 1 (.tmp 24), none, [5]⟩,
    ⟨some 26, .load 1 false (.tmp 25), none, [5]⟩,
    ⟨some 27, .len (.tmp 26), none, [5]⟩,
    ⟨some 28, .mov (.tmp 6), none, [0, 1, 2, 3, 4]⟩,
    ⟨some 29, .pur (mkO (.binOp .sub 3 (.tmp 27) (.tmp 28) 3) 3), none, []⟩,
    ⟨some 4, .mov (.tmp 29), none, []⟩,
    ⟨some 5, .mov (.const .nilIface), none, []⟩] false)
  .ret)))))
def a29 : AFunc := ⟨30, c29, [.tmp 4, .tmp 5], 1⟩

/-- (*strings.Builder).String -/
def c30 : ACode :=
  (.seq (.region [⟨some 2, .mov (.const (.string ⟨#[]⟩)), none, []⟩] false)
  (.seq (.region [⟨some 3, .mov (.tmp 0), none, [5, 6, 7, 8, 9]⟩,
    ⟨some 4, .nilck (.tmp 3), none, [5, 6, 7, 8, 9]⟩,
    ⟨some 5, .fad 1 (.tmp 4), none, [5, 6, 7, 8, 9]⟩,
    ⟨some 6, .load 1 false (.tmp 5), none, [5, 6, 7, 8, 9]⟩,
    ⟨some 7, .bad "op", none, [5, 6, 7, 8, 9]⟩,
    ⟨some 8, .mov (.tmp 0), none, [0, 1, 2, 3, 4]⟩,
    ⟨some 9, .nilck (.tmp 8), none, [0, 1, 2, 3, 4]⟩,
    ⟨some 10, .fad 1 (.tmp 9), none, [0, 1, 2, 3, 4]⟩,
    ⟨some 11, .load 1 false (.tmp 10), none, [0, 1, 2, 3, 4]⟩,
    ⟨some 12, .len (.tmp 11), none, [0, 1, 2, 3, 4]⟩,
    ⟨some 13, .bad "op", none, []⟩,
    ⟨some 2, .mov (.tmp 13), none, []⟩] true)
  .ret))
def a30 : AFunc := ⟨14, c30, [.tmp 2], 1⟩

/-- blindstamp/blindstampref04.first -/
def c31 : ACode :=
  (.seq (.region [⟨some 2, .mov (.const (.int .i64 0)), none, []⟩,
    ⟨some 3, .mov (.const (.int .i64 0)), none, []⟩] false)
  (.seq (.region [⟨some 8, .mov (.tmp 0), none, []⟩,
    ⟨some 9, .pur (mkO (.index 9 (.tmp 8) (.const (.int .i64 0))) 5), none, []⟩,
    ⟨some 10, .pur (mkO (.convert 5 3 (.tmp 9)) 3), none, []⟩,
    ⟨some 11, .call (.func 41) [(.tmp 10)], none, []⟩,
    ⟨some 7, .mov (.tmp 11), none, []⟩,
    ⟨some 12, .ext (.tmp 7) 0, none, [6]⟩,
    ⟨some 13, .ext (.tmp 7) 1, none, [5, 7]⟩,
    ⟨some 4, .mov (.tmp 12), none, [6]⟩,
    ⟨some 5, .mov (.tmp 13), none, []⟩] false)
  (.seq (.seq (.region [⟨some 14, .mov (.tmp 4), none, []⟩,
    ⟨some 15, .pur (mkO (.binOp .eql 3 (.tmp 14) (.const (.int .i64 0)) 3) 4), none, []⟩,
    ⟨some 16, .mov (.tmp 15), none, []⟩,
    ⟨some 17, .mov (.tmp 4), some (16, false), [4, 5]⟩,
    ⟨some 18, .mov (.tmp 0), some (16, false), [3]⟩,
    ⟨some 19, .pur (mkO (.call ⟨.builtin .len, #[(.tmp 18)], #[9]⟩) 3), some (16, false), [3]⟩,
    ⟨some 20, .pur (mkO (.binOp .gtr 3 (.tmp 17) (.tmp 19) 3) 4), some (16, false), []⟩,
    ⟨some 21, .pick (.tmp 16) (.const (.bool true)) (.tmp 20), none, []⟩] false)
  (.cond (.tmp 21)
    (.seq (.region [⟨some 2, .mov (.const (.int .i64 0)), none, []⟩,
      ⟨some 3, .mov (.const (.int .i64 0)), none, []⟩] false)
    .ret)
    .skip))
  (.seq (.seq (.region [⟨some 6, .mov (.const (.int .i64 1)), none, []⟩] false)
  (.block 0 (.loop (.seq (.seq (.region [⟨some 22, .mov (.tmp 6), none, [1]⟩,
        ⟨some 23, .mov (.tmp 4), none, [0]⟩,
        ⟨some 24, .pur (mkO (.binOp .lss 3 (.tmp 22) (.tmp 23) 3) 4), none, []⟩] false)
      (.cond (.tmp 24)
        .skip
        (.exit 0)))
      (.seq (.block 1 (.region [⟨some 27, .mov (.tmp 5), none, [2, 3, 4, 5, 6]⟩,
          ⟨some 28, .pur (mkO (.binOp .mul 3 (.const (.int .i64 64)) (.tmp 27) 3) 3), none, [2, 3, 4, 5, 6]⟩,
          ⟨some 29, .mov (.tmp 0), none, [0, 1, 3]⟩,
          ⟨some 30, .mov (.tmp 6), none, [0, 1, 2]⟩,
          ⟨some 31, .pur (mkO (.index 9 (.tmp 29) (.tmp 30)) 5), none, [0, 1]⟩,
          ⟨some 32, .pur (mkO (.convert 5 3 (.tmp 31)) 3), none, [0, 1]⟩,
          ⟨some 33, .pur (mkO (.binOp .rem 3 (.tmp 32) (.const (.int .i64 64)) 3) 3), none, [0, 1]⟩,
          ⟨some 34, .pur (mkO (.binOp .add 3 (.tmp 28) (.tmp 33) 3) 3), none, []⟩,
          ⟨some 5, .mov (.tmp 34), none, []⟩] false))
      (.region [⟨some 25, .mov (.tmp 6), none, []⟩,
        ⟨some 26, .pur (mkO (.binOp .add 3 (.tmp 25) (.const (.int .i64 1)) 3) 3), none, []⟩,
        ⟨some 6, .mov (.tmp 26), none, []⟩] false))))))
  (.seq (.seq (.region [⟨some 35, .mov (.tmp 5), none, []⟩,
    ⟨some 36, .call (.func 33) [(.tmp 35)], none, []⟩,
    ⟨some 37, .pur (mkO (.unOp .not 4 (.tmp 36)) 4), none, []⟩,
    ⟨some 38, .mov (.tmp 37), none, []⟩,
    ⟨some 39, .mov (.tmp 5), some (38, false), [7, 8, 9]⟩,
    ⟨some 40, .call (.func 35) [(.tmp 39)], some (38, false), [7, 8, 9]⟩,
    ⟨some 41, .b2s (.tmp 40), some (38, false), [7, 8, 9]⟩,
    ⟨some 42, .mov (.tmp 0), some (38, false), [4, 5, 6, 8]⟩,
    ⟨some 43, .mov (.tmp 4), some (38, false), [4, 5, 6, 7]⟩,
    ⟨some 44, .pur (mkO (.slice 9 (.tmp 42) none (some (.tmp 43)) none) 9), some (38, false), [4, 5, 6]⟩,
    ⟨some 45, .pur (mkO (.binOp .neq 9 (.tmp 41) (.tmp 44) 9) 4), some (38, false), []⟩,
    ⟨some 46, .pick (.tmp 38) (.const (.bool true)) (.tmp 45), none, []⟩] true)
  (.cond (.tmp 46)
    (.seq (.region [⟨some 2, .mov (.const (.int .i64 0)), none, []⟩,
      ⟨some 3, .mov (.const (.int .i64 0)), none, []⟩] false)
    .ret)
    .skip))
  (.seq (.region [⟨some 47, .mov (.tmp 5), none, [1]⟩,
    ⟨some 48, .mov (.tmp 4), none, [0, 2]⟩,
    ⟨some 2, .mov (.tmp 47), none, [1]⟩,
    ⟨some 3, .mov (.tmp 48), none, []⟩] false)
  .ret))))))
def a31 : AFunc := ⟨49, c31, [.tmp 2, .tmp 3], 1⟩

/-- blindstamp/blindstampref04.Wide -/
def c32 : ACode :=
  (.seq (.region [⟨some 2, .mov (.const (.slice none 0 0)), none, []⟩] false)
  (.seq (.region [⟨some 3, .mov (.const (.slice none 0 0)), none, []⟩] false)
  (.seq (.seq (.region [⟨some 4, .mov (.const (.int .i64 0)), none, []⟩] false)
  (.block 0 (.loop (.seq (.seq (.region [⟨some 6, .mov (.tmp 4), none, [1, 2]⟩,
        ⟨some 7, .mov (.tmp 0), none, [0]⟩,
        ⟨some 8, .len (.tmp 7), none, [0]⟩,
        ⟨some 9, .pur (mkO (.binOp .lss 3 (.tmp 6) (.tmp 8) 3) 4), none, []⟩] false)
      (.cond (.tmp 9)
        .skip
        (.exit 0)))
      (.seq (.block 1 (.seq (.region [⟨some 12, .mov (.tmp 0), none, [1]⟩,
          ⟨some 13, .mov (.tmp 4), none, [0]⟩,
          ⟨some 14, .iad 1 (.tmp 12) (.tmp 13), none, []⟩,
          ⟨some 15, .load 1 false (.tmp 14), none, []⟩,
          ⟨some 16, .pur (mkO (.convert 21 3 (.tmp 15)) 3), none, []⟩,
          ⟨some 5, .mov (.tmp 16), none, []⟩] false)
        (.seq (.seq (.region [⟨some 17, .mov (.tmp 5), none, []⟩,
          ⟨some 18, .pur (mkO (.binOp .lss 3 (.tmp 17) (.const (.int .i64 0)) 3) 4), none, []⟩] false)
        (.cond (.tmp 18)
          (.region [⟨some 5, .mov (.const (.int .i64 4294967295)), none, []⟩] false)
          .skip))
        (.region [⟨some 19, .mov (.tmp 3), none, [1, 2, 3, 4, 5, 6, 7, 8, 9, 10, 11, 12, 13, 14, 15]⟩,
          ⟨some 20, .mov (.tmp 5), none, [0, 4, 5, 6, 7, 8, 9, 10, 11, 12, 13, 14]⟩,
          ⟨some 21, .pur (mkO (.binOp .quo 3 (.tmp 20) (.const (.int .i64 16777216)) 3) 3), none, [0, 4, 5, 6, 7, 8, 9, 10, 11, 12, 13, 14]⟩,
          ⟨some 22, .pur (mkO (.convert 3 5 (.tmp 21)) 5), none, [0, 4, 5, 6, 7, 8, 9, 10, 11, 12, 13, 14]⟩,
          ⟨some 23, .mov (.tmp 5), none, [0, 1, 2, 3, 8, 9, 10, 11, 12, 13, 14]⟩,
          ⟨some 24, .pur (mkO (.binOp .quo 3 (.tmp 23) (.const (.int .i64 65536)) 3) 3), none, [0, 1, 2, 3, 8, 9, 10, 11, 12, 13, 14]⟩,
          ⟨some 25, .pur (mkO (.binOp .rem 3 (.tmp 24) (.const (.int .i64 256)) 3) 3), none, [0, 1, 2, 3, 8, 9, 10, 11, 12, 13, 14]⟩,
          ⟨some 26, .pur (mkO (.convert 3 5 (.tmp 25)) 5), none, [0, 1, 2, 3, 8, 9, 10, 11, 12, 13, 14]⟩,
          ⟨some 27, .mov (.tmp 5), none, [0, 1, 2, 3, 4, 5, 6, 7, 12, 13, 14]⟩,
          ⟨some 28, .pur (mkO (.binOp .quo 3 (.tmp 27) (.const (.int .i64 256)) 3) 3), none, [0, 1, 2, 3, 4, 5, 6, 7, 12, 13, 14]⟩,
          ⟨some 29, .pur (mkO (.binOp .rem 3 (.tmp 28) (.const (.int .i64 256)) 3) 3), none, [0, 1, 2, 3, 4, 5, 6, 7, 12, 13, 14]⟩,
          ⟨some 30, .pur (mkO (.convert 3 5 (.tmp 29)) 5), none, [0, 1, 2, 3, 4, 5, 6, 7, 12, 13, 14]⟩,
          ⟨some 31, .mov (.tmp 5), none, [0, 1, 2, 3, 4, 5, 6, 7, 8, 9, 10, 11]⟩,
          ⟨some 32, .pur (mkO (.binOp .rem 3 (.tmp 31) (.const (.int .i64 256)) 3) 3), none, [0, 1, 2, 3, 4, 5, 6, 7, 8, 9, 10, 11]⟩,
          ⟨some 33, .pur (mkO (.convert 3 5 (.tmp 32)) 5), none, [0, 1, 2, 3, 4, 5, 6, 7, 8, 9, 10, 11]⟩,
          ⟨some 34, .bsl 5 1 (.int .u8 0) 4 [(0, 1, (.tmp 22)), (1, 1, (.tmp 26)), (2, 1, (.tmp 30)), (3, 1, (.tmp 33))], none, [0]⟩,
          ⟨some 35, .app 5 1 1 (.int .u8 0) (.tmp 19) (.tmp 34), none, []⟩,
          ⟨some 3, .mov (.tmp 35), none, []⟩] false))))
      (.region [⟨some 10, .mov (.tmp 4), none, []⟩,
        ⟨some 11, .pur (mkO (.binOp .add 3 (.tmp 10) (.const (.int .i64 1)) 3) 3), none, []⟩,
        ⟨some 4, .mov (.tmp 11), none, []⟩] false))))))
  (.seq (.region [⟨some 36, .mov (.tmp 3), none, []⟩,
    ⟨some 2, .mov (.tmp 36), none, []⟩] false)
  .ret))))
def a32 : AFunc := ⟨37, c32, [.tmp 2], 1⟩

/-- blindstamp/blindstampref04.Is -/
def c33 : ACode :=
  (.seq (.region [⟨some 2, .mov (.const (.bool false)), none, []⟩] false)
  (.seq (.region [⟨some 3, .mov (.tmp 0), none, []⟩,
    ⟨some 4, .pur (mkO (.binOp .geq 3 (.tmp 3) (.const (.int .i64 0)) 3) 4), none, []⟩,
    ⟨some 5, .mov (.tmp 4), none, []⟩,
    ⟨some 6, .mov (.tmp 0), some (5, true), []⟩,
    ⟨some 7, .pur (mkO (.binOp .leq 3 (.tmp 6) (.const (.int .i64 1114111)) 3) 4), some (5, true), []⟩,
    ⟨some 8, .pick (.tmp 5) (.tmp 7) (.const (.bool false)), none, []⟩,
    ⟨some 9, .mov (.tmp 8), none, []⟩,
    ⟨some 10, .mov (.tmp 0), some (9, true), []⟩,
    ⟨some 11, .pur (mkO (.binOp .lss 3 (.tmp 10) (.const (.int .i64 55296)) 3) 4), some (9, true), []⟩,
    ⟨some 12, .mov (.tmp 11), some (9, true), []⟩,
    ⟨some 13, .mov (.tmp 0), some (12, false), []⟩,
    ⟨some 14, .pur (mkO (.binOp .gtr 3 (.tmp 13) (.const (.int .i64 57343)) 3) 4), some (12, false), []⟩,
    ⟨some 15, .pick (.tmp 12) (.const (.bool true)) (.tmp 14), some (9, true), []⟩,
    ⟨some 16, .pick (.tmp 9) (.tmp 15) (.const (.bool false)), none, []⟩,
    ⟨some 2, .mov (.tmp 16), none, []⟩] false)
  .ret))
def a33 : AFunc := ⟨17, c33, [.tmp 2], 1⟩

/-- blindstamp/blindstampref04.Blanked -/
def c34 : ACode :=
  (.seq (.region [⟨some 4, .mov (.const (.slice none 0 0)), none, []⟩] false)
  (.seq (.region [⟨some 5, .mov (.const (.slice none 0 0)), none, []⟩] false)
  (.seq (.seq (.region [⟨some 6, .mov (.const (.int .i64 0)), none, []⟩] false)
  (.block 0 (.loop (.seq (.seq (.region [⟨some 7, .mov (.tmp 6), none, [1, 2]⟩,
        ⟨some 8, .mov (.tmp 0), none, [0]⟩,
        ⟨some 9, .len (.tmp 8), none, [0]⟩,
        ⟨some 10, .pur (mkO (.binOp .lss 3 (.tmp 7) (.tmp 9) 3) 4), none, []⟩] false)
      (.cond (.tmp 10)
        .skip
        (.exit 0)))
      (.seq (.block 1 (.seq (.region [⟨some 13, .mov (.tmp 1), none, [1]⟩,
          ⟨some 14, .mov (.tmp 6), none, [0]⟩,
          ⟨some 15, .iad 1 (.tmp 13) (.tmp 14), none, []⟩,
          ⟨some 16, .load 1 false (.tmp 15), none, []⟩] false)
        (.cond (.tmp 16)
          (.region [⟨some 17, .mov (.tmp 5), none, [1]⟩,
            ⟨some 18, .bsl 21 1 (.int .i32 0) 1 [(0, 1, (.const (.int .i32 (-1))))], none, [0]⟩,
            ⟨some 19, .app 21 1 4 (.int .i32 0) (.tmp 17) (.tmp 18), none, []⟩,
            ⟨some 5, .mov (.tmp 19), none, []⟩] false)
          (.region [⟨some 20, .mov (.tmp 5), none, [1, 2, 3, 4, 5]⟩,
            ⟨some 21, .mov (.tmp 0), none, [0, 2]⟩,
            ⟨some 22, .mov (.tmp 6), none, [0, 1]⟩,
            ⟨some 23, .iad 1 (.tmp 21) (.tmp 22), none, [0]⟩,
            ⟨some 24, .load 1 false (.tmp 23), none, [0]⟩,
            ⟨some 25, .bsl 21 1 (.int .i32 0) 1 [(0, 1, (.tmp 24))], none, [0]⟩,
            ⟨some 26, .app 21 1 4 (.int .i32 0) (.tmp 20) (.tmp 25), none, []⟩,
            ⟨some 5, .mov (.tmp 26), none, []⟩] false))))
      (.region [⟨some 11, .mov (.tmp 6), none, []⟩,
        ⟨some 12, .pur (mkO (.binOp .add 3 (.tmp 11) (.const (.int .i64 1)) 3) 3), none, []⟩,
        ⟨some 6, .mov (.tmp 12), none, []⟩] false))))))
  (.seq (.region [⟨some 27, .mov (.tmp 5), none, []⟩,
    ⟨some 4, .mov (.tmp 27), none, []⟩] false)
  .ret))))
def a34 : AFunc := ⟨28, c34, [.tmp 4], 1⟩

/-- blindstamp/blindstampref04.Bytes -/
def c35 : ACode :=
  (.seq (.region [⟨some 2, .mov (.const (.slice none 0 0)), none, []⟩] false)
  (.seq (.seq (.region [⟨some 3, .mov (.tmp 0), none, []⟩,
    ⟨some 4, .pur (mkO (.binOp .lss 3 (.tmp 3) (.const (.int .i64 128)) 3) 4), none, []⟩] false)
  (.cond (.tmp 4)
    (.seq (.region [⟨some 5, .mov (.tmp 0), none, []⟩,
      ⟨some 6, .pur (mkO (.convert 3 5 (.tmp 5)) 5), none, []⟩,
      ⟨some 7, .bsl 5 1 (.int .u8 0) 1 [(0, 1, (.tmp 6))], none, []⟩,
      ⟨some 2, .mov (.tmp 7), none, []⟩] false)
    .ret)
    .skip))
  (.seq (.seq (.region [⟨some 8, .mov (.tmp 0), none, []⟩,
    ⟨some 9, .pur (mkO (.binOp .lss 3 (.tmp 8) (.const (.int .i64 2048)) 3) 4), none, []⟩] false)
  (.cond (.tmp 9)
    (.seq (.region [⟨some 10, .mov (.tmp 0), none, [4, 5]⟩,
      ⟨some 11, .pur (mkO (.binOp .quo 3 (.tmp 10) (.const (.int .i64 64)) 3) 3), none, [4, 5]⟩,
      ⟨some 12, .pur (mkO (.binOp .add 3 (.const (.int .i64 192)) (.tmp 11) 3) 3), none, [4, 5]⟩,
      ⟨some 13, .pur (mkO (.convert 3 5 (.tmp 12)) 5), none, [4, 5]⟩,
      ⟨some 14, .mov (.tmp 0), none, [0, 1, 2, 3]⟩,
      ⟨some 15, .call (.func 42) [(.tmp 14), (.const (.int .i64 0))], none, [0, 1, 2, 3]⟩,
      ⟨some 16, .bsl 5 1 (.int .u8 0) 2 [(0, 1, (.tmp 13)), (1, 1, (.tmp 15))], none, []⟩,
      ⟨some 2, .mov (.tmp 16), none, []⟩] false)
    .ret)
    .skip))
  (.seq (.seq (.region [⟨some 17, .mov (.tmp 0), none, []⟩,
    ⟨some 18, .pur (mkO (.binOp .lss 3 (.tmp 17) (.const (.int .i64 65536)) 3) 4), none, []⟩] false)
  (.cond (.tmp 18)
    (.seq (.region [⟨some 19, .mov (.tmp 0), none, [4, 5, 6, 7]⟩,
      ⟨some 20, .pur (mkO (.binOp .quo 3 (.tmp 19) (.const (.int .i64 4096)) 3) 3), none, [4, 5, 6, 7]⟩,
      ⟨some 21, .pur (mkO (.binOp .add 3 (.const (.int .i64 224)) (.tmp 20) 3) 3), none, [4, 5, 6, 7]⟩,
      ⟨some 22, .pur (mkO (.convert 3 5 (.tmp 21)) 5), none, [4, 5, 6, 7]⟩,
      ⟨some 23, .mov (.tmp 0), none, [0, 1, 2, 3, 6]⟩,
      ⟨some 24, .call (.func 42) [(.tmp 23), (.const (.int .i64 1))], none, [0, 1, 2, 3, 6]⟩,
      ⟨some 25, .mov (.tmp 0), none, [0, 1, 2, 3, 4, 5]⟩,
      ⟨some 26, .call (.func 42) [(.tmp 25), (.const (.int .i64 0))], none, [0, 1, 2, 3]⟩,
      ⟨some 27, .bsl 5 1 (.int .u8 0) 3 [(0, 1, (.tmp 22)), (1, 1, (.tmp 24)), (2, 1, (.tmp 26))], none, []⟩,
      ⟨some 2, .mov (.tmp 27), none, []⟩] false)
    .ret)
    .skip))
  (.seq (.region [⟨some 28, .mov (.tmp 0), none, [4, 5, 6, 7, 8, 9]⟩,
    ⟨some 29, .pur (mkO (.binOp .quo 3 (.tmp 28) (.const (.int .i64 262144)) 3) 3), none, [4, 5, 6, 7, 8, 9]⟩,
    ⟨some 30, .pur (mkO (.binOp .add 3 (.const (.int .i64 240)) (.tmp 29) 3) 3), none, [4, 5, 6, 7, 8, 9]⟩,
    ⟨some 31, .pur (mkO (.convert 3 5 (.tmp 30)) 5), none, [4, 5, 6, 7, 8, 9]⟩,
    ⟨some 32, .mov (.tmp 0), none, [0, 1, 2, 3, 6, 8]⟩,
    ⟨some 33, .call (.func 42) [(.tmp 32), (.const (.int .i64 2))], none, [0, 1, 2, 3, 6, 8]⟩,
    ⟨some 34, .mov (.tmp 0), none, [0, 1, 2, 3, 4, 5, 8]⟩,
    ⟨some 35, .call (.func 42) [(.tmp 34), (.const (.int .i64 1))], none, [0, 1, 2, 3, 8]⟩,
    ⟨some 36, .mov (.tmp 0), none, [0, 1, 2, 3, 4, 5, 6, 7]⟩,
    ⟨some 37, .call (.func 42) [(.tmp 36), (.const (.int .i64 0))], none, [0, 1, 2, 3]⟩,
    ⟨some 38, .bsl 5 1 (.int .u8 0) 4 [(0, 1, (.tmp 31)), (1, 1, (.tmp 33)), (2, 1, (.tmp 35)), (3, 1, (.tmp 37))], none, []⟩,
    ⟨some 2, .mov (.tmp 38), none, []⟩] false)
  .ret)))))
def a35 : AFunc := ⟨39, c35, [.tmp 2], 1⟩

/-- slices.IndexFunc[[]int32,rune] -/
def c36 : ACode :=
  (.seq (.region [⟨some 4, .mov (.const (.int .i64 0)), none, []⟩] false)
  (.seq (.seq (.region [⟨some 6, .mov (.tmp 0), none, [2]⟩,
    ⟨some 7, .len (.tmp 6), none, [2]⟩,
    ⟨some 8, .mov (.const (.int .i64 0)), none, [0, 1]⟩] false)
  (.block 0 (.loop (.seq (.region [⟨some 9, .pur (mkO (.binOp .lss 3 (.tmp 8) (.tmp 7) 3) 0), none, []⟩] false)
      (.seq (.cond (.tmp 9)
        .skip
        (.exit 0))
      (.seq (.block 1 (.seq (.region [⟨some 10, .mov (.tmp 8), none, []⟩,
          ⟨some 5, .mov (.tmp 10), none, []⟩] false)
        (.seq (.region [⟨some 11, .mov (.tmp 1), none, [1, 2, 3, 4]⟩,
          ⟨some 12, .mov (.tmp 0), none, [0, 2]⟩,
          ⟨some 13, .mov (.tmp 5), none, [0, 1]⟩,
          ⟨some 14, .iad 1 (.tmp 12) (.tmp 13), none, [0]⟩,
          ⟨some 15, .load 1 false (.tmp 14), none, [0]⟩,
          ⟨some 16, .call (.tmp 11) [(.tmp 15)], none, []⟩] false)
        (.cond (.tmp 16)
          (.seq (.region [⟨some 17, .mov (.tmp 5), none, []⟩,
            ⟨some 4, .mov (.tmp 17), none, []⟩] false)
          .ret)
          .skip))))
      (.region [⟨some 18, .pur (mkO (.binOp .add 3 (.tmp 8) (.const (.int .i64 1)) 3) 3), none, []⟩,
        ⟨some 8, .mov (.tmp 18), none, []⟩] false)))))))
  (.seq (.region [⟨some 4, .mov (.const (.int .i64 (-1))), none, []⟩] false)
  .ret)))
def a36 : AFunc := ⟨19, c36, [.tmp 4], 1⟩

/-- slices.Chunk[[]byte,byte]$1 -/
def c37 : ACode :=
  (.seq (.region [⟨some 4, .mov (.const (.int .i64 0)), none, []⟩] false)
  (.block 0 (.loop (.seq (.seq (.region [⟨some 6, .mov (.tmp 4), none, [1, 2]⟩,
        ⟨some 7, .load 1 false (.tmp 1), none, [0]⟩,
        ⟨some 8, .len (.tmp 7), none, [0]⟩,
        ⟨some 9, .pur (mkO (.binOp .lss 3 (.tmp 6) (.tmp 8) 3) 4), none, []⟩] false)
      (.cond (.tmp 9)
        .skip
        (.exit 0)))
      (.seq (.block 1 (.seq (.region [⟨some 13, .load 1 false (.tmp 2), none, [1, 2, 3, 4]⟩,
          ⟨some 14, .load 1 false (.tmp 1), none, [0, 2]⟩,
          ⟨some 15, .mov (.tmp 4), none, [0, 1]⟩,
          ⟨some 16, .slc 1 (.tmp 14) (some (.tmp 15)) none none, none, [0]⟩,
          ⟨some 17, .len (.tmp 16), none, [0]⟩,
          ⟨some 18, .pur (mkO (.call ⟨.builtin .min, #[(.tmp 13), (.tmp 17)], #[3, 3]⟩) 3), none, []⟩,
          ⟨some 5, .mov (.tmp 18), none, []⟩] true)
        (.seq (.region [⟨some 19, .mov (.tmp 0), none, [1, 2, 3, 4, 5, 6, 7, 8, 9]⟩,
          ⟨some 20, .load 1 false (.tmp 1), none, [0, 2, 3, 4, 5, 6, 7, 8]⟩,
          ⟨some 21, .mov (.tmp 4), none, [0, 1, 3, 4, 5, 6, 7, 8]⟩,
          ⟨some 22, .mov (.tmp 4), none, [0, 1, 2, 4, 6, 7, 8]⟩,
          ⟨some 23, .mov (.tmp 5), none, [0, 1, 2, 3, 6, 7, 8]⟩,
          ⟨some 24, .pur (mkO (.binOp .add 3 (.tmp 22) (.tmp 23) 3) 3), none, [0, 1, 2, 6, 7, 8]⟩,
          ⟨some 25, .mov (.tmp 4), none, [0, 1, 2, 3, 4, 5, 7]⟩,
          ⟨some 26, .mov (.tmp 5), none, [0, 1, 2, 3, 4, 5, 6]⟩,
          ⟨some 27, .pur (mkO (.binOp .add 3 (.tmp 25) (.tmp 26) 3) 3), none, [0, 1, 2, 3, 4, 5]⟩,
          ⟨some 28, .slc 1 (.tmp 20) (some (.tmp 21)) (some (.tmp 24)) (some (.tmp 27)), none, [0]⟩,
          ⟨some 29, .call (.tmp 19) [(.tmp 28)], none, []⟩,
          ⟨some 30, .pur (mkO (.unOp .not 4 (.tmp 29)) 4), none, []⟩] false)
        (.cond (.tmp 30)
          .ret
          .skip))))
      (.region [⟨some 10, .mov (.tmp 4), none, [1]⟩,
        ⟨some 11, .load 1 false (.tmp 2), none, [0]⟩,
        ⟨some 12, .pur (mkO (.binOp .add 3 (.tmp 10) (.tmp 11) 3) 3), none, []⟩,
        ⟨some 4, .mov (.tmp 12), none, []⟩] false))))))
def a37 : AFunc := ⟨31, c37, [], 0⟩

/-- internal/stringslite.HasPrefix -/
def c38 : ACode :=
  (.seq (.region [⟨some 4, .mov (.const (.bool false)), none, []⟩] false)
  (.seq (.region [⟨some 5, .mov (.tmp 0), none, [2, 3]⟩,
    ⟨some 6, .pur (mkO (.call ⟨.builtin .len, #[(.tmp 5)], #[9]⟩) 3), none, [2, 3]⟩,
    ⟨some 7, .mov (.tmp 1), none, [0, 1]⟩,
    ⟨some 8, .pur (mkO (.call ⟨.builtin .len, #[(.tmp 7)], #[9]⟩) 3), none, [0, 1]⟩,
    ⟨some 9, .pur (mkO (.binOp .geq 3 (.tmp 6) (.tmp 8) 3) 4), none, []⟩,
    ⟨some 10, .mov (.tmp 9), none, []⟩,
    ⟨some 11, .mov (.tmp 0), some (10, true), [7, 8, 10]⟩,
    ⟨some 12, .mov (.tmp 1), some (10, true), [6, 10]⟩,
    ⟨some 13, .pur (mkO (.call ⟨.builtin .len, #[(.tmp 12)], #[9]⟩) 3), some (10, true), [6, 10]⟩,
    ⟨some 14, .pur (mkO (.slice 9 (.tmp 11) none (some (.tmp 13)) none) 9), some (10, true), [10]⟩,
    ⟨some 15, .mov (.tmp 1), some (10, true), [6, 7, 8, 9]⟩,
    ⟨some 16, .pur (mkO (.binOp .eql 9 (.tmp 14) (.tmp 15) 9) 4), some (10, true), []⟩,
    ⟨some 17, .pick (.tmp 10) (.tmp 16) (.const (.bool false)), none, []⟩,
    ⟨some 4, .mov (.tmp 17), none, []⟩] false)
  .ret))
def a38 : AFunc := ⟨18, c38, [.tmp 4], 1⟩

/-- (*strings.Builder).copyCheck -/
def c39 : ACode :=
  (.seq (.region [⟨some 2, .mov (.tmp 0), none, []⟩,
    ⟨some 3, .nilck (.tmp 2), none, []⟩,
    ⟨some 4, .fad 0 (.tmp 3), none, []⟩,
    ⟨some 5, .load 1 false (.tmp 4), none, []⟩,
    ⟨some 6, .eqnil false 0 (.tmp 5) (mkO (.binOp .eql 59 (.tmp 5) (.const (.pointer none)) 59) 4), none, []⟩] false)
  (.cond (.tmp 6)
    (.region [⟨some 7, .mov (.tmp 0), none, [1, 2, 3, 4]⟩,
      ⟨some 8, .mov (.tmp 0), none, [0]⟩,
      ⟨some 9, .pur (mkO (.convert 59 80 (.tmp 8)) 80), none, [0]⟩,
      ⟨some 10, .bad "op", none, [0]⟩,
      ⟨some 11, .pur (mkO (.convert 80 59 (.tmp 10)) 59), none, [0]⟩,
      ⟨some 12, .nilck (.tmp 7), none, []⟩,
      ⟨some 13, .fad 0 (.tmp 12), none, []⟩,
      ⟨none, .store 1 (.tmp 13) (.tmp 11), none, []⟩] false)
    (.seq (.region [⟨some 14, .mov (.tmp 0), none, [4]⟩,
      ⟨some 15, .nilck (.tmp 14), none, [4]⟩,
      ⟨some 16, .fad 0 (.tmp 15), none, [4]⟩,
      ⟨some 17, .load 1 false (.tmp 16), none, [4]⟩,
      ⟨some 18, .mov (.tmp 0), none, [0, 1, 2, 3]⟩,
      ⟨some 19, .pur (mkO (.binOp .neq 59 (.tmp 17) (.tmp 18) 59) 4), none, []⟩] false)
    (.cond (.tmp 19)
      (.bad "(*strings.Builder).copyCheck builder.go:41: unsupported: a written strings.Builder's value in another place: whether the library's copy check passes hangs on where the compiler lays the two")
      .skip))))
def a39 : AFunc := ⟨20, c39, [], 1⟩

/-- unicode/utf8.AppendRune -/
def c40 : ACode :=
  (.seq (.region [⟨some 4, .mov (.const (.slice none 0 0)), none, []⟩] false)
  (.seq (.seq (.region [⟨some 5, .mov (.tmp 1), none, []⟩,
    ⟨some 6, .pur (mkO (.convert 21 57 (.tmp 5)) 57), none, []⟩,
    ⟨some 7, .pur (mkO (.binOp .leq 57 (.tmp 6) (.const (.int .u32 127)) 57) 4), none, []⟩] false)
  (.cond (.tmp 7)
    (.seq (.region [⟨some 8, .mov (.tmp 0), none, [1, 2, 3]⟩,
      ⟨some 9, .mov (.tmp 1), none, [0]⟩,
      ⟨some 10, .pur (mkO (.convert 21 5 (.tmp 9)) 5), none, [0]⟩,
      ⟨some 11, .bsl 5 1 (.int .u8 0) 1 [(0, 1, (.tmp 10))], none, [0]⟩,
      ⟨some 12, .app 5 1 1 (.int .u8 0) (.tmp 8) (.tmp 11), none, []⟩,
      ⟨some 4, .mov (.tmp 12), none, []⟩] false)
    .ret)
    .skip))
  (.seq (.region [⟨some 13, .mov (.tmp 0), none, [1]⟩,
    ⟨some 14, .mov (.tmp 1), none, [0]⟩,
    ⟨some 15, .call (.func 44) [(.tmp 13), (.tmp 14)], none, []⟩,
    ⟨some 4, .mov (.tmp 15), none, []⟩] false)
  .ret)))
def a40 : AFunc := ⟨16, c40, [.tmp 4], 1⟩

/-- blindstamp/blindstampref04.head -/
def c41 : ACode :=
  (.seq (.region [⟨some 2, .mov (.const (.int .i64 0)), none, []⟩,
    ⟨some 3, .mov (.const (.int .i64 0)), none, []⟩] false)
  (.seq (.seq (.region [⟨some 4, .mov (.tmp 0), none, []⟩,
    ⟨some 5, .pur (mkO (.binOp .lss 3 (.tmp 4) (.const (.int .i64 128)) 3) 4), none, []⟩] false)
  (.cond (.tmp 5)
    (.seq (.region [⟨some 6, .mov (.tmp 0), none, [1]⟩,
      ⟨some 2, .mov (.const (.int .i64 1)), none, [0]⟩,
      ⟨some 3, .mov (.tmp 6), none, []⟩] false)
    .ret)
    .skip))
  (.seq (.seq (.region [⟨some 7, .mov (.tmp 0), none, []⟩,
    ⟨some 8, .pur (mkO (.binOp .geq 3 (.tmp 7) (.const (.int .i64 192)) 3) 4), none, []⟩,
    ⟨some 9, .mov (.tmp 8), none, []⟩,
    ⟨some 10, .mov (.tmp 0), some (9, true), []⟩,
    ⟨some 11, .pur (mkO (.binOp .lss 3 (.tmp 10) (.const (.int .i64 224)) 3) 4), some (9, true), []⟩,
    ⟨some 12, .pick (.tmp 9) (.tmp 11) (.const (.bool false)), none, []⟩] false)
  (.cond (.tmp 12)
    (.seq (.region [⟨some 13, .mov (.tmp 0), none, [2]⟩,
      ⟨some 14, .pur (mkO (.binOp .sub 3 (.tmp 13) (.const (.int .i64 192)) 3) 3), none, [2]⟩,
      ⟨some 2, .mov (.const (.int .i64 2)), none, [0, 1]⟩,
      ⟨some 3, .mov (.tmp 14), none, []⟩] false)
    .ret)
    .skip))
  (.seq (.seq (.region [⟨some 15, .mov (.tmp 0), none, []⟩,
    ⟨some 16, .pur (mkO (.binOp .geq 3 (.tmp 15) (.const (.int .i64 224)) 3) 4), none, []⟩,
    ⟨some 17, .mov (.tmp 16), none, []⟩,
    ⟨some 18, .mov (.tmp 0), some (17, true), []⟩,
    ⟨some 19, .pur (mkO (.binOp .lss 3 (.tmp 18) (.const (.int .i64 240)) 3) 4), some (17, true), []⟩,
    ⟨some 20, .pick (.tmp 17) (.tmp 19) (.const (.bool false)), none, []⟩] false)
  (.cond (.tmp 20)
    (.seq (.region [⟨some 21, .mov (.tmp 0), none, [2]⟩,
      ⟨some 22, .pur (mkO (.binOp .sub 3 (.tmp 21) (.const (.int .i64 224)) 3) 3), none, [2]⟩,
      ⟨some 2, .mov (.const (.int .i64 3)), none, [0, 1]⟩,
      ⟨some 3, .mov (.tmp 22), none, []⟩] false)
    .ret)
    .skip))
  (.seq (.seq (.region [⟨some 23, .mov (.tmp 0), none, []⟩,
    ⟨some 24, .pur (mkO (.binOp .geq 3 (.tmp 23) (.const (.int .i64 240)) 3) 4), none, []⟩,
    ⟨some 25, .mov (.tmp 24), none, []⟩,
    ⟨some 26, .mov (.tmp 0), some (25, true), []⟩,
    ⟨some 27, .pur (mkO (.binOp .lss 3 (.tmp 26) (.const (.int .i64 248)) 3) 4), some (25, true), []⟩,
    ⟨some 28, .pick (.tmp 25) (.tmp 27) (.const (.bool false)), none, []⟩] false)
  (.cond (.tmp 28)
    (.seq (.region [⟨some 29, .mov (.tmp 0), none, [2]⟩,
      ⟨some 30, .pur (mkO (.binOp .sub 3 (.tmp 29) (.const (.int .i64 240)) 3) 3), none, [2]⟩,
      ⟨some 2, .mov (.const (.int .i64 4)), none, [0, 1]⟩,
      ⟨some 3, .mov (.tmp 30), none, []⟩] false)
    .ret)
    .skip))
  (.seq (.region [⟨some 2, .mov (.const (.int .i64 0)), none, []⟩,
    ⟨some 3, .mov (.const (.int .i64 0)), none, []⟩] false)
  .ret))))))
def a41 : AFunc := ⟨31, c41, [.tmp 2, .tmp 3], 1⟩

/-- blindstamp/blindstampref04.six -/
def c42 : ACode :=
  (.seq (.region [⟨some 4, .mov (.const (.int .u8 0)), none, []⟩] false)
  (.seq (.seq (.region [⟨some 5, .mov (.const (.int .i64 0)), none, []⟩] false)
  (.block 0 (.loop (.seq (.seq (.region [⟨some 6, .mov (.tmp 5), none, [1]⟩,
        ⟨some 7, .mov (.tmp 1), none, [0]⟩,
        ⟨some 8, .pur (mkO (.binOp .lss 3 (.tmp 6) (.tmp 7) 3) 4), none, []⟩] false)
      (.cond (.tmp 8)
        .skip
        (.exit 0)))
      (.seq (.block 1 (.region [⟨some 11, .mov (.tmp 0), none, []⟩,
          ⟨some 12, .pur (mkO (.binOp .quo 3 (.tmp 11) (.const (.int .i64 64)) 3) 3), none, []⟩,
          ⟨some 0, .mov (.tmp 12), none, []⟩] false))
      (.region [⟨some 9, .mov (.tmp 5), none, []⟩,
        ⟨some 10, .pur (mkO (.binOp .add 3 (.tmp 9) (.const (.int .i64 1)) 3) 3), none, []⟩,
        ⟨some 5, .mov (.tmp 10), none, []⟩] false))))))
  (.seq (.region [⟨some 13, .mov (.tmp 0), none, []⟩,
    ⟨some 14, .pur (mkO (.binOp .rem 3 (.tmp 13) (.const (.int .i64 64)) 3) 3), none, []⟩,
    ⟨some 15, .pur (mkO (.binOp .add 3 (.const (.int .i64 128)) (.tmp 14) 3) 3), none, []⟩,
    ⟨some 16, .pur (mkO (.convert 3 5 (.tmp 15)) 5), none, []⟩,
    ⟨some 4, .mov (.tmp 16), none, []⟩] false)
  .ret)))
def a42 : AFunc := ⟨17, c42, [.tmp 4], 1⟩

/-- unicode/utf8.appendRuneNonASCII -/
def c44 : ACode :=
  (.seq (.region [⟨some 4, .mov (.const (.slice none 0 0)), none, []⟩] false)
  (.seq (.region [⟨some 6, .mov (.tmp 1), none, []⟩,
    ⟨some 7, .pur (mkO (.convert 21 57 (.tmp 6)) 57), none, []⟩,
    ⟨some 5, .mov (.tmp 7), none, []⟩] false)
  (.block 0 (.seq (.region [⟨some 12, .mov (.tmp 5), none, []⟩,
      ⟨some 13, .pur (mkO (.binOp .leq 57 (.tmp 12) (.const (.int .u32 2047)) 57) 4), none, []⟩,
      ⟨some 11, .mov (.tmp 13), none, []⟩] false)
    (.cond (.tmp 11)
      (.seq (.region [⟨some 14, .mov (.tmp 0), none, [1, 2, 3, 4, 5, 6, 7, 8, 9]⟩,
        ⟨some 15, .mov (.tmp 1), none, [0, 5, 6, 7, 8]⟩,
        ⟨some 16, .pur (mkO (.binOp .shr 21 (.tmp 15) (.const (.int .u64 6)) 53) 21), none, [0, 5, 6, 7, 8]⟩,
        ⟨some 17, .pur (mkO (.convert 21 5 (.tmp 16)) 5), none, [0, 5, 6, 7, 8]⟩,
        ⟨some 18, .pur (mkO (.binOp .or 5 (.const (.int .u8 192)) (.tmp 17) 5) 5), none, [0, 5, 6, 7, 8]⟩,
        ⟨some 19, .mov (.tmp 1), none, [0, 1, 2, 3, 4]⟩,
        ⟨some 20, .pur (mkO (.convert 21 5 (.tmp 19)) 5), none, [0, 1, 2, 3, 4]⟩,
        ⟨some 21, .pur (mkO (.binOp .and 5 (.tmp 20) (.const (.int .u8 63)) 5) 5), none, [0, 1, 2, 3, 4]⟩,
        ⟨some 22, .pur (mkO (.binOp .or 5 (.const (.int .u8 128)) (.tmp 21) 5) 5), none, [0, 1, 2, 3, 4]⟩,
        ⟨some 23, .bsl 5 1 (.int .u8 0) 2 [(0, 1, (.tmp 18)), (1, 1, (.tmp 22))], none, [0]⟩,
        ⟨some 24, .app 5 1 1 (.int .u8 0) (.tmp 14) (.tmp 23), none, []⟩,
        ⟨some 4, .mov (.tmp 24), none, []⟩] false)
      .ret)
      (.seq (.seq (.region [⟨some 26, .mov (.tmp 5), none, []⟩,
        ⟨some 27, .pur (mkO (.binOp .lss 57 (.tmp 26) (.const (.int .u32 55296)) 57) 4), none, []⟩,
        ⟨some 25, .mov (.tmp 27), none, []⟩] false)
      (.cond (.tmp 25)
        .skip
        (.region [⟨some 28, .mov (.tmp 5), none, []⟩,
          ⟨some 29, .pur (mkO (.binOp .lss 57 (.const (.int .u32 57343)) (.tmp 28) 57) 4), none, []⟩,
          ⟨some 30, .mov (.tmp 29), none, []⟩,
          ⟨some 31, .mov (.tmp 5), some (30, true), []⟩,
          ⟨some 32, .pur (mkO (.binOp .leq 57 (.tmp 31) (.const (.int .u32 65535)) 57) 4), some (30, true), []⟩,
          ⟨some 33, .pick (.tmp 30) (.tmp 32) (.const (.bool false)), none, []⟩,
          ⟨some 25, .mov (.tmp 33), none, []⟩] false)))
      (.cond (.tmp 25)
        (.seq (.region [⟨some 34, .mov (.tmp 0), none, [1, 2, 3, 4, 5, 6, 7, 8, 9, 10, 11, 12, 13, 14]⟩,
          ⟨some 35, .mov (.tmp 1), none, [0, 5, 6, 7, 8, 9, 10, 11, 12, 13]⟩,
          ⟨some 36, .pur (mkO (.binOp .shr 21 (.tmp 35) (.const (.int .u64 12)) 53) 21), none, [0, 5, 6, 7, 8, 9, 10, 11, 12, 13]⟩,
          ⟨some 37, .pur (mkO (.convert 21 5 (.tmp 36)) 5), none, [0, 5, 6, 7, 8, 9, 10, 11, 12, 13]⟩,
          ⟨some 38, .pur (mkO (.binOp .or 5 (.const (.int .u8 224)) (.tmp 37) 5) 5), none, [0, 5, 6, 7, 8, 9, 10, 11, 12, 13]⟩,
          ⟨some 39, .mov (.tmp 1), none, [0, 1, 2, 3, 4, 10, 11, 12, 13]⟩,
          ⟨some 40, .pur (mkO (.binOp .shr 21 (.tmp 39) (.const (.int .u64 6)) 53) 21), none, [0, 1, 2, 3, 4, 10, 11, 12, 13]⟩,
          ⟨some 41, .pur (mkO (.convert 21 5 (.tmp 40)) 5), none, [0, 1, 2, 3, 4, 10, 11, 12, 13]⟩,
          ⟨some 42, .pur (mkO (.binOp .and 5 (.tmp 41) (.const (.int .u8 63)) 5) 5), none, [0, 1, 2, 3, 4, 10, 11, 12, 13]⟩,
          ⟨some 43, .pur (mkO (.binOp .or 5 (.const (.int .u8 128)) (.tmp 42) 5) 5), none, [0, 1, 2, 3, 4, 10, 11, 12, 13]⟩,
          ⟨some 44, .mov (.tmp 1), none, [0, 1, 2, 3, 4, 5, 6, 7, 8, 9]⟩,
          ⟨some 45, .pur (mkO (.convert 21 5 (.tmp 44)) 5), none, [0, 1, 2, 3, 4, 5, 6, 7, 8, 9]⟩,
          ⟨some 46, .pur (mkO (.binOp .and 5 (.tmp 45) (.const (.int .u8 63)) 5) 5), none, [0, 1, 2, 3, 4, 5, 6, 7, 8, 9]⟩,
          ⟨some 47, .pur (mkO (.binOp .or 5 (.const (.int .u8 128)) (.tmp 46) 5) 5), none, [0, 1, 2, 3, 4, 5, 6, 7, 8, 9]⟩,
          ⟨some 48, .bsl 5 1 (.int .u8 0) 3 [(0, 1, (.tmp 38)), (1, 1, (.tmp 43)), (2, 1, (.tmp 47))], none, [0]⟩,
          ⟨some 49, .app 5 1 1 (.int .u8 0) (.tmp 34) (.tmp 48), none, []⟩,
          ⟨some 4, .mov (.tmp 49), none, []⟩] false)
        .ret)
        (.seq (.region [⟨some 51, .mov (.tmp 5), none, []⟩,
          ⟨some 52, .pur (mkO (.binOp .gtr 57 (.tmp 51) (.const (.int .u32 65535)) 57) 4), none, []⟩,
          ⟨some 53, .mov (.tmp 52), none, []⟩,
          ⟨some 54, .mov (.tmp 5), some (53, true), []⟩,
          ⟨some 55, .pur (mkO (.binOp .leq 57 (.tmp 54) (.const (.int .u32 1114111)) 57) 4), some (53, true), []⟩,
          ⟨some 56, .pick (.tmp 53) (.tmp 55) (.const (.bool false)), none, []⟩,
          ⟨some 50, .mov (.tmp 56), none, []⟩] false)
        (.cond (.tmp 50)
          (.seq (.region [⟨some 57, .mov (.tmp 0), none, [1, 2, 3, 4, 5, 6, 7, 8, 9, 10, 11, 12, 13, 14, 15, 16, 17, 18, 19]⟩,
            ⟨some 58, .mov (.tmp 1), none, [0, 5, 6, 7, 8, 9, 10, 11, 12, 13, 14, 15, 16, 17, 18]⟩,
            ⟨some 59, .pur (mkO (.binOp .shr 21 (.tmp 58) (.const (.int .u64 18)) 53) 21), none, [0, 5, 6, 7, 8, 9, 10, 11, 12, 13, 14, 15, 16, 17, 18]⟩,
            ⟨some 60, .pur (mkO (.convert 21 5 (.tmp 59)) 5), none, [0, 5, 6, 7, 8, 9, 10, 11, 12, 13, 14, 15, 16, 17, 18]⟩,
            ⟨some 61, .pur (mkO (.binOp .or 5 (.const (.int .u8 240)) (.tmp 60) 5) 5), none, [0, 5, 6, 7, 8, 9, 10, 11, 12, 13, 14, 15, 16, 17, 18]⟩,
            ⟨some 62, .mov (.tmp 1), none, [0, 1, 2, 3, 4, 10, 11, 12, 13, 14, 15, 16, 17, 18]⟩,
            ⟨some 63, .pur (mkO (.binOp .shr 21 (.tmp 62) (.const (.int .u64 12)) 53) 21), none, [0, 1, 2, 3, 4, 10, 11, 12, 13, 14, 15, 16, 17, 18]⟩,
            ⟨some 64, .pur (mkO (.convert 21 5 (.tmp 63)) 5), none, [0, 1, 2, 3, 4, 10, 11, 12, 13, 14, 15, 16, 17, 18]⟩,
            ⟨some 65, .pur (mkO (.binOp .and 5 (.tmp 64) (.const (.int .u8 63)) 5) 5), none, [0, 1, 2, 3, 4, 10, 11, 12, 13, 14, 15, 16, 17, 18]⟩,
            ⟨some 66, .pur (mkO (.binOp .or 5 (.const (.int .u8 128)) (.tmp 65) 5) 5), none, [0, 1, 2, 3, 4, 10, 11, 12, 13, 14, 15, 16, 17, 18]⟩,
            ⟨some 67, .mov (.tmp 1), none, [0, 1, 2, 3, 4, 5, 6, 7, 8, 9, 15, 16, 17, 18]⟩,
            ⟨some 68, .pur (mkO (.binOp .shr 21 (.tmp 67) (.const (.int .u64 6)) 53) 21), none, [0, 1, 2, 3, 4, 5, 6, 7, 8, 9, 15, 16, 17, 18]⟩,
            ⟨some 69, .pur (mkO (.convert 21 5 (.tmp 68)) 5), none, [0, 1, 2, 3, 4, 5, 6, 7, 8, 9, 15, 16, 17, 18]⟩,
            ⟨some 70, .pur (mkO (.binOp .and 5 (.tmp 69) (.const (.int .u8 63)) 5) 5), none, [0, 1, 2, 3, 4, 5, 6, 7, 8, 9, 15, 16, 17, 18]⟩,
            ⟨some 71, .pur (mkO (.binOp .or 5 (.const (.int .u8 128)) (.tmp 70) 5) 5), none, [0, 1, 2, 3, 4, 5, 6, 7, 8, 9, 15, 16, 17, 18]⟩,
            ⟨some 72, .mov (.tmp 1), none, [0, 1, 2, 3, 4, 5, 6, 7, 8, 9, 10, 11, 12, 13, 14]⟩,
            ⟨some 73, .pur (mkO (.convert 21 5 (.tmp 72)) 5), none, [0, 1, 2, 3, 4, 5, 6, 7, 8, 9, 10, 11, 12, 13, 14]⟩,
            ⟨some 74, .pur (mkO (.binOp .and 5 (.tmp 73) (.const (.int .u8 63)) 5) 5), none, [0, 1, 2, 3, 4, 5, 6, 7, 8, 9, 10, 11, 12, 13, 14]⟩,
            ⟨some 75, .pur (mkO (.binOp .or 5 (.const (.int .u8 128)) (.tmp 74) 5) 5), none, [0, 1, 2, 3, 4, 5, 6, 7, 8, 9, 10, 11, 12, 13, 14]⟩,
            ⟨some 76, .bsl 5 1 (.int .u8 0) 4 [(0, 1, (.tmp 61)), (1, 1, (.tmp 66)), (2, 1, (.tmp 71)), (3, 1, (.tmp 75))], none, [0]⟩,
            ⟨some 77, .app 5 1 1 (.int .u8 0) (.tmp 57) (.tmp 76), none, []⟩,
            ⟨some 4, .mov (.tmp 77), none, []⟩] false)
          .ret)
          (.seq (.region [⟨some 8, .mov (.tmp 0), none, [1]⟩,
            ⟨some 9, .bsl 5 1 (.int .u8 0) 3 [(0, 1, (.const (.int .u8 239))), (1, 1, (.const (.int .u8 191))), (2, 1, (.const (.int .u8 189)))], none, [0]⟩,
            ⟨some 10, .app 5 1 1 (.int .u8 0) (.tmp 8) (.tmp 9), none, []⟩,
            ⟨some 4, .mov (.tmp 10), none, []⟩] false)
          .ret))))))))))
def a44 : AFunc := ⟨78, c44, [.tmp 4], 1⟩

def tbl : List (Option AFunc) := [none, none, none, none, none, none, some a6, none, some a8, some a9, some a10, some a11, some a12, some a13, some a14, some a15, some a16, some a17, some a18, some a19, some a20, none, some a22, some a23, some a24, some a25, some a26, some a27, some a28, some a29, some a30, some a31, some a32, some a33, some a34, some a35, some a36, some a37, some a38, some a39, some a40, some a41, some a42, none, some a44]
theorem tf6 : fsT tbl 6 = some a6 := rfl
theorem tf8 : fsT tbl 8 = some a8 := rfl
theorem tf9 : fsT tbl 9 = some a9 := rfl
theorem tf10 : fsT tbl 10 = some a10 := rfl
theorem tf11 : fsT tbl 11 = some a11 := rfl
theorem tf12 : fsT tbl 12 = some a12 := rfl
theorem tf13 : fsT tbl 13 = some a13 := rfl
theorem tf14 : fsT tbl 14 = some a14 := rfl
theorem tf15 : fsT tbl 15 = some a15 := rfl
theorem tf16 : fsT tbl 16 = some a16 := rfl
theorem tf17 : fsT tbl 17 = some a17 := rfl
theorem tf18 : fsT tbl 18 = some a18 := rfl
theorem tf19 : fsT tbl 19 = some a19 := rfl
theorem tf20 : fsT tbl 20 = some a20 := rfl
theorem tf22 : fsT tbl 22 = some a22 := rfl
theorem tf23 : fsT tbl 23 = some a23 := rfl
theorem tf24 : fsT tbl 24 = some a24 := rfl
theorem tf25 : fsT tbl 25 = some a25 := rfl
theorem tf26 : fsT tbl 26 = some a26 := rfl
theorem tf27 : fsT tbl 27 = some a27 := rfl
theorem tf28 : fsT tbl 28 = some a28 := rfl
theorem tf29 : fsT tbl 29 = some a29 := rfl
theorem tf30 : fsT tbl 30 = some a30 := rfl
theorem tf31 : fsT tbl 31 = some a31 := rfl
theorem tf32 : fsT tbl 32 = some a32 := rfl
theorem tf33 : fsT tbl 33 = some a33 := rfl
theorem tf34 : fsT tbl 34 = some a34 := rfl
theorem tf35 : fsT tbl 35 = some a35 := rfl
theorem tf36 : fsT tbl 36 = some a36 := rfl
theorem tf37 : fsT tbl 37 = some a37 := rfl
theorem tf38 : fsT tbl 38 = some a38 := rfl
theorem tf39 : fsT tbl 39 = some a39 := rfl
theorem tf40 : fsT tbl 40 = some a40 := rfl
theorem tf41 : fsT tbl 41 = some a41 := rfl
theorem tf42 : fsT tbl 42 = some a42 := rfl
theorem tf44 : fsT tbl 44 = some a44 := rfl
end Go.Proofs.Ytlccfbaibcdodaa
