/-
  The program's functions, as the executor has them: the table.
-/
import Derived.Test.YtjbninmklbkklaaDoorRows
import Derived.Test.YtjbninmklbkklaaDoorEe
import Derived.Test.YtjbninmklbkklaaDoorPuX
set_option linter.unusedSimpArgs false
set_option linter.unusedVariables false
set_option maxRecDepth 100000
namespace Go.Proofs.YtjbninmklbkklaaDoor
open Go Go.Ax
/-- blindstamp/blindstamplaw30.PurgeAgain -/
def c5 : ACode :=
  (.seq (.region [⟨some 4, .box 25 (.tmp 1), none, [1, 2]⟩,
    ⟨some 5, .box 25 (.tmp 2), none, [0, 2]⟩,
    ⟨some 6, .mov (.const (.bool false)), none, [0, 1]⟩] false)
  (.seq (.region [⟨some 26, .call (.func 7) [], none, []⟩,
    ⟨some 7, .mov (.tmp 26), none, []⟩] false)
  (.seq (.seq (.region [⟨some 27, .mov (.tmp 0), none, []⟩,
    ⟨some 28, .call (.func 8) [(.tmp 27), (.const (.int .i64 100))], none, []⟩,
    ⟨some 29, .mov (.tmp 28), none, []⟩,
    ⟨some 30, .mov (.tmp 7), some (29, false), []⟩,
    ⟨some 31, .pur (mkO (.unOp .not 4 (.tmp 30)) 4), some (29, false), []⟩,
    ⟨some 32, .pick (.tmp 29) (.const (.bool true)) (.tmp 31), none, []⟩] false)
  (.cond (.tmp 32)
    (.seq (.region [⟨some 33, .mov (.tmp 7), none, []⟩,
      ⟨some 6, .mov (.tmp 33), none, []⟩] false)
    .ret)
    .skip))
  (.seq (.region [⟨some 35, .mov (.tmp 0), none, [1]⟩,
    ⟨some 36, .load 2 true (.tmp 4), none, [0]⟩,
    ⟨some 37, .call (.func 9) [(.tmp 35), (.tmp 36)], none, []⟩,
    ⟨some 34, .mov (.tmp 37), none, []⟩,
    ⟨some 38, .ext (.tmp 34) 0, none, [5]⟩,
    ⟨some 39, .ext (.tmp 34) 1, none, [4, 6]⟩,
    ⟨some 8, .mov (.tmp 38), none, [5]⟩,
    ⟨some 9, .mov (.tmp 39), none, []⟩] false)
  (.seq (.seq (.region [⟨some 40, .mov (.tmp 9), none, []⟩,
    ⟨some 41, .pur (mkO (.binOp .neq 28 (.tmp 40) (.const (.int .i64 0)) 28) 4), none, []⟩] false)
  (.cond (.tmp 41)
    (.seq (.region [⟨some 42, .mov (.tmp 7), none, []⟩,
      ⟨some 43, .mov (.tmp 42), none, []⟩,
      ⟨some 44, .mov (.tmp 8), some (43, true), []⟩,
      ⟨some 45, .len (.tmp 44), some (43, true), []⟩,
      ⟨some 46, .pur (mkO (.binOp .eql 3 (.tmp 45) (.const (.int .i64 0)) 3) 4), some (43, true), []⟩,
      ⟨some 47, .pick (.tmp 43) (.tmp 46) (.const (.bool false)), none, []⟩,
      ⟨some 6, .mov (.tmp 47), none, []⟩] false)
    .ret)
    .skip))
  (.seq (.region [⟨some 49, .mov (.tmp 8), none, [1]⟩,
    ⟨some 50, .load 2 true (.tmp 4), none, [0]⟩,
    ⟨some 51, .call (.func 9) [(.tmp 49), (.tmp 50)], none, []⟩,
    ⟨some 48, .mov (.tmp 51), none, []⟩,
    ⟨some 52, .ext (.tmp 48) 0, none, [5]⟩,
    ⟨some 53, .ext (.tmp 48) 1, none, [4, 6]⟩,
    ⟨some 10, .mov (.tmp 52), none, [5]⟩,
    ⟨some 11, .mov (.tmp 53), none, []⟩] false)
  (.seq (.region [⟨some 55, .mov (.tmp 0), none, []⟩,
    ⟨some 56, .call (.func 11) [(.tmp 55)], none, []⟩,
    ⟨some 54, .mov (.tmp 56), none, []⟩,
    ⟨some 57, .ext (.tmp 54) 0, none, [4]⟩,
    ⟨some 58, .ext (.tmp 54) 1, none, [3, 5]⟩,
    ⟨some 12, .mov (.tmp 57), none, [4]⟩,
    ⟨some 13, .mov (.tmp 58), none, []⟩] false)
  (.seq (.region [⟨some 60, .mov (.tmp 8), none, []⟩,
    ⟨some 61, .call (.func 11) [(.tmp 60)], none, []⟩,
    ⟨some 59, .mov (.tmp 61), none, []⟩,
    ⟨some 62, .ext (.tmp 59) 0, none, [4]⟩,
    ⟨some 63, .ext (.tmp 59) 1, none, [3, 5]⟩,
    ⟨some 14, .mov (.tmp 62), none, [4]⟩,
    ⟨some 15, .mov (.tmp 63), none, []⟩] false)
  (.seq (.seq (.region [⟨some 64, .mov (.tmp 11), none, []⟩,
    ⟨some 65, .pur (mkO (.binOp .neq 28 (.tmp 64) (.const (.int .i64 0)) 28) 4), none, []⟩,
    ⟨some 66, .mov (.tmp 65), none, []⟩,
    ⟨some 67, .mov (.tmp 13), some (66, false), []⟩,
    ⟨some 68, .pur (mkO (.binOp .neq 28 (.tmp 67) (.const (.int .i64 0)) 28) 4), some (66, false), []⟩,
    ⟨some 69, .pick (.tmp 66) (.const (.bool true)) (.tmp 68), none, []⟩,
    ⟨some 70, .mov (.tmp 69), none, []⟩,
    ⟨some 71, .mov (.tmp 15), some (70, false), []⟩,
    ⟨some 72, .pur (mkO (.binOp .neq 28 (.tmp 71) (.const (.int .i64 0)) 28) 4), some (70, false), []⟩,
    ⟨some 73, .pick (.tmp 70) (.const (.bool true)) (.tmp 72), none, []⟩,
    ⟨some 74, .mov (.tmp 73), none, []⟩,
    ⟨some 75, .mov (.tmp 12), some (74, false), [12]⟩,
    ⟨some 76, .mov (.tmp 14), some (74, false), [11]⟩,
    ⟨some 77, .pur (mkO (.binOp .neq 3 (.tmp 75) (.tmp 76) 3) 4), some (74, false), []⟩,
    ⟨some 78, .pick (.tmp 74) (.const (.bool true)) (.tmp 77), none, []⟩,
    ⟨some 79, .mov (.tmp 78), none, []⟩,
    ⟨some 80, .mov (.tmp 8), some (79, false), [17]⟩,
    ⟨some 81, .mov (.tmp 10), some (79, false), [16]⟩,
    ⟨some 82, .call (.func 10) [(.tmp 80), (.tmp 81)], some (79, false), []⟩,
    ⟨some 83, .pur (mkO (.unOp .not 4 (.tmp 82)) 4), some (79, false), []⟩,
    ⟨some 84, .pick (.tmp 79) (.const (.bool true)) (.tmp 83), none, []⟩,
    ⟨some 85, .mov (.tmp 84), none, []⟩,
    ⟨some 86, .mov (.tmp 8), some (85, false), []⟩,
    ⟨some 87, .call (.func 13) [(.tmp 86)], some (85, false), []⟩,
    ⟨some 88, .pur (mkO (.binOp .neq 28 (.tmp 87) (.const (.int .i64 0)) 28) 4), some (85, false), []⟩,
    ⟨some 89, .pick (.tmp 85) (.const (.bool true)) (.tmp 88), none, []⟩] false)
  (.cond (.tmp 89)
    (.seq (.region [⟨some 6, .mov (.const (.bool false)), none, []⟩] false)
    .ret)
    .skip))
  (.seq (.region [⟨some 90, .mov (.tmp 0), none, [2]⟩,
    ⟨some 91, .call (.func 14) [(.tmp 90)], none, [2]⟩,
    ⟨some 92, .mov (.tmp 8), none, [0, 1]⟩,
    ⟨some 93, .call (.func 14) [(.tmp 92)], none, []⟩,
    ⟨some 16, .mov (.tmp 91), none, []⟩,
    ⟨some 17, .mov (.tmp 93), none, []⟩] false)
  (.seq (.seq (.region [⟨some 18, .mov (.const (.int .i64 0)), none, []⟩] false)
  (.block 0 (.loop (.seq (.seq (.region [⟨some 94, .mov (.tmp 18), none, [1, 2]⟩,
        ⟨some 95, .mov (.tmp 16), none, [0]⟩,
        ⟨some 96, .len (.tmp 95), none, [0]⟩,
        ⟨some 97, .pur (mkO (.binOp .lss 3 (.tmp 94) (.tmp 96) 3) 4), none, []⟩] false)
      (.cond (.tmp 97)
        .skip
        (.exit 0)))
      (.seq (.block 1 (.seq (.region [⟨some 100, .mov (.tmp 18), none, [1, 2]⟩,
          ⟨some 101, .mov (.tmp 17), none, [0]⟩,
          ⟨some 102, .len (.tmp 101), none, [0]⟩,
          ⟨some 103, .pur (mkO (.binOp .geq 3 (.tmp 100) (.tmp 102) 3) 4), none, []⟩,
          ⟨some 104, .mov (.tmp 103), none, []⟩,
          ⟨some 105, .mov (.tmp 16), some (104, false), [6, 9, 10, 11, 12]⟩,
          ⟨some 106, .mov (.tmp 18), some (104, false), [5, 9, 10, 11, 12]⟩,
          ⟨some 107, .iad 1 (.tmp 105) (.tmp 106), some (104, false), [9, 10, 11, 12]⟩,
          ⟨some 108, .load 1 false (.tmp 107), some (104, false), [9, 10, 11, 12]⟩,
          ⟨some 109, .mov (.tmp 17), some (104, false), [5, 6, 7, 8, 10]⟩,
          ⟨some 110, .mov (.tmp 18), some (104, false), [5, 6, 7, 8, 9]⟩,
          ⟨some 111, .iad 1 (.tmp 109) (.tmp 110), some (104, false), [5, 6, 7, 8]⟩,
          ⟨some 112, .load 1 false (.tmp 111), some (104, false), [5, 6, 7, 8]⟩,
          ⟨some 113, .pur (mkO (.binOp .neq 3 (.tmp 108) (.tmp 112) 3) 4), some (104, false), []⟩,
          ⟨some 114, .pick (.tmp 104) (.const (.bool true)) (.tmp 113), none, []⟩] true)
        (.cond (.tmp 114)
          (.seq (.region [⟨some 6, .mov (.const (.bool false)), none, []⟩] false)
          .ret)
          .skip)))
      (.region [⟨some 98, .mov (.tmp 18), none, []⟩,
        ⟨some 99, .pur (mkO (.binOp .add 3 (.tmp 98) (.const (.int .i64 1)) 3) 3), none, []⟩,
        ⟨some 18, .mov (.tmp 99), none, []⟩] false))))))
  (.seq (.region [⟨some 19, .mov (.const (.int .i64 0)), none, []⟩] false)
  (.seq (.seq (.region [⟨some 20, .mov (.const (.int .i64 0)), none, []⟩] false)
  (.block 2 (.loop (.seq (.seq (.region [⟨some 115, .mov (.tmp 20), none, [1, 2]⟩,
        ⟨some 116, .mov (.tmp 0), none, [0]⟩,
        ⟨some 117, .len (.tmp 116), none, [0]⟩,
        ⟨some 118, .pur (mkO (.binOp .lss 3 (.tmp 115) (.tmp 117) 3) 4), none, []⟩] false)
      (.cond (.tmp 118)
        .skip
        (.exit 2)))
      (.seq (.block 3 (.seq (.region [⟨some 121, .mov (.tmp 0), none, [1]⟩,
          ⟨some 122, .mov (.tmp 20), none, [0]⟩,
          ⟨some 123, .iad 17 (.tmp 121) (.tmp 122), none, []⟩,
          ⟨some 124, .fad 0 (.tmp 123), none, []⟩,
          ⟨some 125, .load 1 false (.tmp 124), none, []⟩,
          ⟨some 126, .pur (mkO (.binOp .geq 5 (.tmp 125) (.const (.int .u8 17)) 5) 4), none, []⟩,
          ⟨some 127, .mov (.tmp 126), none, []⟩,
          ⟨some 128, .mov (.tmp 0), some (127, true), [8]⟩,
          ⟨some 129, .mov (.tmp 20), some (127, true), [7]⟩,
          ⟨some 130, .iad 17 (.tmp 128) (.tmp 129), some (127, true), []⟩,
          ⟨some 131, .fad 0 (.tmp 130), some (127, true), []⟩,
          ⟨some 132, .load 1 false (.tmp 131), some (127, true), []⟩,
          ⟨some 133, .pur (mkO (.binOp .lss 5 (.tmp 132) (.const (.int .u8 20)) 5) 4), some (127, true), []⟩,
          ⟨some 134, .pick (.tmp 127) (.tmp 133) (.const (.bool false)), none, []⟩] false)
        (.cond (.tmp 134)
          (.region [⟨some 135, .mov (.tmp 19), none, []⟩,
            ⟨some 136, .pur (mkO (.binOp .add 3 (.tmp 135) (.const (.int .i64 1)) 3) 3), none, []⟩,
            ⟨some 19, .mov (.tmp 136), none, []⟩] false)
          .skip)))
      (.region [⟨some 119, .mov (.tmp 20), none, []⟩,
        ⟨some 120, .pur (mkO (.binOp .add 3 (.tmp 119) (.const (.int .i64 1)) 3) 3), none, []⟩,
        ⟨some 20, .mov (.tmp 120), none, []⟩] false))))))
  (.seq (.seq (.region [⟨some 21, .mov (.const (.int .i64 0)), none, []⟩] false)
  (.block 4 (.loop (.seq (.seq (.region [⟨some 137, .mov (.tmp 21), none, [1, 2]⟩,
        ⟨some 138, .mov (.tmp 8), none, [0]⟩,
        ⟨some 139, .len (.tmp 138), none, [0]⟩,
        ⟨some 140, .pur (mkO (.binOp .lss 3 (.tmp 137) (.tmp 139) 3) 4), none, []⟩] false)
      (.cond (.tmp 140)
        .skip
        (.exit 4)))
      (.seq (.block 5 (.seq (.seq (.region [⟨some 143, .mov (.tmp 8), none, [1]⟩,
          ⟨some 144, .mov (.tmp 21), none, [0]⟩,
          ⟨some 145, .iad 17 (.tmp 143) (.tmp 144), none, []⟩,
          ⟨some 146, .fad 0 (.tmp 145), none, []⟩,
          ⟨some 147, .load 1 false (.tmp 146), none, []⟩,
          ⟨some 148, .pur (mkO (.binOp .geq 5 (.tmp 147) (.const (.int .u8 17)) 5) 4), none, []⟩,
          ⟨some 149, .mov (.tmp 148), none, []⟩,
          ⟨some 150, .mov (.tmp 8), some (149, true), [8]⟩,
          ⟨some 151, .mov (.tmp 21), some (149, true), [7]⟩,
          ⟨some 152, .iad 17 (.tmp 150) (.tmp 151), some (149, true), []⟩,
          ⟨some 153, .fad 0 (.tmp 152), some (149, true), []⟩,
          ⟨some 154, .load 1 false (.tmp 153), some (149, true), []⟩,
          ⟨some 155, .pur (mkO (.binOp .lss 5 (.tmp 154) (.const (.int .u8 20)) 5) 4), some (149, true), []⟩,
          ⟨some 156, .pick (.tmp 149) (.tmp 155) (.const (.bool false)), none, []⟩] false)
        (.cond (.tmp 156)
          (.region [⟨some 157, .mov (.tmp 19), none, []⟩,
            ⟨some 158, .pur (mkO (.binOp .sub 3 (.tmp 157) (.const (.int .i64 1)) 3) 3), none, []⟩,
            ⟨some 19, .mov (.tmp 158), none, []⟩] false)
          .skip))
        (.seq (.region [⟨some 159, .mov (.tmp 8), none, [1]⟩,
          ⟨some 160, .mov (.tmp 21), none, [0]⟩,
          ⟨some 161, .iad 17 (.tmp 159) (.tmp 160), none, []⟩,
          ⟨some 162, .fad 0 (.tmp 161), none, []⟩,
          ⟨some 163, .load 1 false (.tmp 162), none, []⟩,
          ⟨some 164, .pur (mkO (.binOp .lss 5 (.tmp 163) (.const (.int .u8 17)) 5) 4), none, []⟩,
          ⟨some 165, .mov (.tmp 164), none, []⟩,
          ⟨some 166, .mov (.tmp 8), some (165, true), [8, 13]⟩,
          ⟨some 167, .mov (.tmp 21), some (165, true), [7, 13]⟩,
          ⟨some 168, .iad 17 (.tmp 166) (.tmp 167), some (165, true), [13]⟩,
          ⟨some 169, .fad 1 (.tmp 168), some (165, true), [13]⟩,
          ⟨some 170, .fad 0 (.tmp 169), some (165, true), [13]⟩,
          ⟨some 171, .load 2 true (.tmp 170), some (165, true), [13]⟩,
          ⟨some 172, .load 2 true (.tmp 4), some (165, true), [7, 8, 9, 10, 11, 12]⟩,
          ⟨some 173, .call (.func 15) [(.tmp 171), (.tmp 172)], some (165, true), []⟩,
          ⟨some 174, .pur (mkO (.unOp .not 4 (.tmp 173)) 4), some (165, true), []⟩,
          ⟨some 175, .pick (.tmp 165) (.tmp 174) (.const (.bool false)), none, []⟩] true)
        (.cond (.tmp 175)
          (.seq (.region [⟨some 6, .mov (.const (.bool false)), none, []⟩] false)
          .ret)
          .skip))))
      (.region [⟨some 141, .mov (.tmp 21), none, []⟩,
        ⟨some 142, .pur (mkO (.binOp .add 3 (.tmp 141) (.const (.int .i64 1)) 3) 3), none, []⟩,
        ⟨some 21, .mov (.tmp 142), none, []⟩] false))))))
  (.seq (.region [⟨some 177, .mov (.tmp 8), none, [1]⟩,
    ⟨some 178, .load 2 true (.tmp 5), none, [0]⟩,
    ⟨some 179, .call (.func 9) [(.tmp 177), (.tmp 178)], none, []⟩,
    ⟨some 176, .mov (.tmp 179), none, []⟩,
    ⟨some 180, .ext (.tmp 176) 0, none, [5]⟩,
    ⟨some 181, .ext (.tmp 176) 1, none, [4, 6]⟩,
    ⟨some 22, .mov (.tmp 180), none, [5]⟩,
    ⟨some 23, .mov (.tmp 181), none, []⟩] false)
  (.seq (.region [⟨some 183, .mov (.tmp 0), none, [1]⟩,
    ⟨some 184, .load 2 true (.tmp 5), none, [0]⟩,
    ⟨some 185, .call (.func 9) [(.tmp 183), (.tmp 184)], none, []⟩,
    ⟨some 182, .mov (.tmp 185), none, []⟩,
    ⟨some 186, .ext (.tmp 182) 0, none, [5]⟩,
    ⟨some 187, .ext (.tmp 182) 1, none, [4, 6]⟩,
    ⟨some 24, .mov (.tmp 186), none, [5]⟩,
    ⟨some 25, .mov (.tmp 187), none, []⟩] false)
  (.seq (.seq (.region [⟨some 188, .mov (.tmp 23), none, []⟩,
    ⟨some 189, .pur (mkO (.binOp .neq 28 (.tmp 188) (.const (.int .i64 0)) 28) 4), none, []⟩,
    ⟨some 190, .mov (.tmp 189), none, []⟩,
    ⟨some 191, .mov (.tmp 25), some (190, false), []⟩,
    ⟨some 192, .pur (mkO (.binOp .neq 28 (.tmp 191) (.const (.int .i64 0)) 28) 4), some (190, false), []⟩,
    ⟨some 193, .pick (.tmp 190) (.const (.bool true)) (.tmp 192), none, []⟩] false)
  (.cond (.tmp 193)
    (.seq (.region [⟨some 194, .mov (.tmp 7), none, []⟩,
      ⟨some 195, .mov (.tmp 194), none, []⟩,
      ⟨some 196, .mov (.tmp 19), some (195, true), []⟩,
      ⟨some 197, .pur (mkO (.binOp .eql 3 (.tmp 196) (.const (.int .i64 0)) 3) 4), some (195, true), []⟩,
      ⟨some 198, .pick (.tmp 195) (.tmp 197) (.const (.bool false)), none, []⟩,
      ⟨some 199, .mov (.tmp 198), none, []⟩,
      ⟨some 200, .mov (.tmp 23), some (199, true), [7]⟩,
      ⟨some 201, .mov (.tmp 25), some (199, true), [6]⟩,
      ⟨some 202, .pur (mkO (.binOp .eql 28 (.tmp 200) (.tmp 201) 28) 4), some (199, true), []⟩,
      ⟨some 203, .pick (.tmp 199) (.tmp 202) (.const (.bool false)), none, []⟩,
      ⟨some 6, .mov (.tmp 203), none, []⟩] false)
    .ret)
    .skip))
  (.seq (.region [⟨some 204, .mov (.tmp 7), none, []⟩,
    ⟨some 205, .mov (.tmp 204), none, []⟩,
    ⟨some 206, .mov (.tmp 19), some (205, true), []⟩,
    ⟨some 207, .pur (mkO (.binOp .eql 3 (.tmp 206) (.const (.int .i64 0)) 3) 4), some (205, true), []⟩,
    ⟨some 208, .pick (.tmp 205) (.tmp 207) (.const (.bool false)), none, []⟩,
    ⟨some 209, .mov (.tmp 208), none, []⟩,
    ⟨some 210, .load 2 true (.tmp 5), some (209, true), [7]⟩,
    ⟨some 211, .load 2 true (.tmp 4), some (209, true), [6]⟩,
    ⟨some 212, .call (.func 15) [(.tmp 210), (.tmp 211)], some (209, true), []⟩,
    ⟨some 213, .pur (mkO (.unOp .not 4 (.tmp 212)) 4), some (209, true), []⟩,
    ⟨some 214, .mov (.tmp 213), some (209, true), []⟩,
    ⟨some 215, .mov (.tmp 22), some (214, false), [12]⟩,
    ⟨some 216, .mov (.tmp 24), some (214, false), [11]⟩,
    ⟨some 217, .call (.func 10) [(.tmp 215), (.tmp 216)], some (214, false), []⟩,
    ⟨some 218, .pick (.tmp 214) (.const (.bool true)) (.tmp 217), some (209, true), []⟩,
    ⟨some 219, .pick (.tmp 209) (.tmp 218) (.const (.bool false)), none, []⟩,
    ⟨some 220, .mov (.tmp 219), none, []⟩,
    ⟨some 221, .load 2 true (.tmp 4), some (220, true), [18]⟩,
    ⟨some 222, .load 2 true (.tmp 5), some (220, true), [17]⟩,
    ⟨some 223, .call (.func 15) [(.tmp 221), (.tmp 222)], some (220, true), []⟩,
    ⟨some 224, .pur (mkO (.unOp .not 4 (.tmp 223)) 4), some (220, true), []⟩,
    ⟨some 225, .mov (.tmp 224), some (220, true), []⟩,
    ⟨some 226, .mov (.tmp 22), some (225, false), [23]⟩,
    ⟨some 227, .mov (.tmp 8), some (225, false), [22]⟩,
    ⟨some 228, .call (.func 10) [(.tmp 226), (.tmp 227)], some (225, false), []⟩,
    ⟨some 229, .pick (.tmp 225) (.const (.bool true)) (.tmp 228), some (220, true), []⟩,
    ⟨some 230, .pick (.tmp 220) (.tmp 229) (.const (.bool false)), none, []⟩,
    ⟨some 6, .mov (.tmp 230), none, []⟩] false)
  .ret))))))))))))))))))
def a5 : AFunc := ⟨231, c5, [.tmp 6], 1⟩

/-- blindstamp/blindstamplaw30.alive -/
def c7 : ACode :=
  (.seq (.region [⟨some 0, .mov (.const (.bool false)), none, []⟩] false)
  (.seq (.region [⟨some 4, .build (.agg #[(.int .u8 0), (.int .u8 0), (.int .u32 0), (.int .u8 0), (.int .i64 0), (.int .i64 0), (.int .i64 0), (.string ⟨#[]⟩), (.int .u8 0), (.int .u32 0), (.int .u8 0), (.slice none 0 0), (.int .i64 0), (.int .u8 0), (.int .u32 0), (.bool false), (.slice none 0 0)]) [(0, 1, (.const (.int .u8 17)))], none, [1]⟩,
    ⟨some 1, .alloc 44 (.agg #[(.int .u8 0), (.int .u8 0), (.int .u32 0), (.int .u8 0), (.int .i64 0), (.int .i64 0), (.int .i64 0), (.string ⟨#[]⟩), (.int .u8 0), (.int .u32 0), (.int .u8 0), (.slice none 0 0), (.int .i64 0), (.int .u8 0), (.int .u32 0), (.bool false), (.slice none 0 0)]), none, [0]⟩,
    ⟨none, .store 17 (.tmp 1) (.tmp 4), none, []⟩] false)
  (.seq (.region [⟨some 5, .call (.func 12) [(.const (.int .u8 1)), (.const (.int .u8 1)), (.const (.slice none 0 0))], none, [2, 5]⟩,
    ⟨some 6, .call (.func 12) [(.const (.int .u8 1)), (.const (.int .u8 2)), (.const (.slice none 0 0))], none, [2, 5]⟩,
    ⟨some 7, .load 17 true (.tmp 1), none, [0, 1, 4, 5, 6]⟩,
    ⟨some 8, .bsl 44 17 (.agg #[(.int .u8 0), (.int .u8 0), (.int .u32 0), (.int .u8 0), (.int .i64 0), (.int .i64 0), (.int .i64 0), (.string ⟨#[]⟩), (.int .u8 0), (.int .u32 0), (.int .u8 0), (.slice none 0 0), (.int .i64 0), (.int .u8 0), (.int .u32 0), (.bool false), (.slice none 0 0)]) 3 [(0, 17, (.tmp 5)), (17, 17, (.tmp 6)), (34, 17, (.tmp 7))], none, [4, 5, 6]⟩,
    ⟨some 9, .call (.func 12) [(.const (.int .u8 1)), (.const (.int .u8 1)), (.const (.slice none 0 0))], none, [2, 3, 5]⟩,
    ⟨some 10, .load 17 true (.tmp 1), none, [0, 1, 2, 3, 4]⟩,
    ⟨some 11, .bsl 44 17 (.agg #[(.int .u8 0), (.int .u8 0), (.int .u32 0), (.int .u8 0), (.int .i64 0), (.int .i64 0), (.int .i64 0), (.string ⟨#[]⟩), (.int .u8 0), (.int .u32 0), (.int .u8 0), (.slice none 0 0), (.int .i64 0), (.int .u8 0), (.int .u32 0), (.bool false), (.slice none 0 0)]) 2 [(0, 17, (.tmp 9)), (17, 17, (.tmp 10))], none, [2, 3]⟩,
    ⟨some 12, .call (.func 23) [(.tmp 8), (.const (.int .u8 1)), (.tmp 11)], none, []⟩,
    ⟨some 2, .mov (.tmp 12), none, []⟩] true)
  (.seq (.region [⟨some 13, .bsl 3 1 (.int .i64 0) 2 [(0, 1, (.const (.int .i64 2))), (1, 1, (.const (.int .i64 0)))], none, [4, 5]⟩,
    ⟨some 14, .call (.func 12) [(.const (.int .u8 8)), (.const (.int .u8 2)), (.tmp 13)], none, [4, 5]⟩,
    ⟨some 15, .call (.func 12) [(.const (.int .u8 5)), (.const (.int .u8 1)), (.const (.slice none 0 0))], none, [4, 5]⟩,
    ⟨some 16, .bsl 44 17 (.agg #[(.int .u8 0), (.int .u8 0), (.int .u32 0), (.int .u8 0), (.int .i64 0), (.int .i64 0), (.int .i64 0), (.string ⟨#[]⟩), (.int .u8 0), (.int .u32 0), (.int .u8 0), (.slice none 0 0), (.int .i64 0), (.int .u8 0), (.int .u32 0), (.bool false), (.slice none 0 0)]) 2 [(0, 17, (.tmp 14)), (17, 17, (.tmp 15))], none, [4, 5, 6, 7]⟩,
    ⟨some 17, .bsl 3 1 (.int .i64 0) 2 [(0, 1, (.const (.int .i64 2))), (1, 1, (.const (.int .i64 0)))], none, [0, 1, 2, 3, 6]⟩,
    ⟨some 18, .build (.agg #[(.int .u8 0), (.int .u8 0), (.int .u32 0), (.int .u8 0), (.int .i64 0), (.int .i64 0), (.int .i64 0), (.string ⟨#[]⟩), (.int .u8 0), (.int .u32 0), (.int .u8 0), (.slice none 0 0), (.int .i64 0), (.int .u8 0), (.int .u32 0), (.bool false), (.slice none 0 0)]) [(0, 1, (.const (.int .u8 20))), (16, 1, (.tmp 17))], none, [0, 1, 2, 3, 6]⟩,
    ⟨some 19, .call (.func 12) [(.const (.int .u8 5)), (.const (.int .u8 1)), (.const (.slice none 0 0))], none, [3, 4, 5]⟩,
    ⟨some 20, .bsl 44 17 (.agg #[(.int .u8 0), (.int .u8 0), (.int .u32 0), (.int .u8 0), (.int .i64 0), (.int .i64 0), (.int .i64 0), (.string ⟨#[]⟩), (.int .u8 0), (.int .u32 0), (.int .u8 0), (.slice none 0 0), (.int .i64 0), (.int .u8 0), (.int .u32 0), (.bool false), (.slice none 0 0)]) 2 [(0, 17, (.tmp 18)), (17, 17, (.tmp 19))], none, [3]⟩,
    ⟨some 21, .call (.func 23) [(.tmp 16), (.const (.int .u8 1)), (.tmp 20)], none, []⟩,
    ⟨some 3, .mov (.tmp 21), none, []⟩] false)
  (.seq (.region [⟨some 22, .mov (.tmp 2), none, []⟩,
    ⟨some 23, .mov (.tmp 22), none, []⟩,
    ⟨some 24, .mov (.tmp 3), some (23, true), []⟩,
    ⟨some 25, .pick (.tmp 23) (.tmp 24) (.const (.bool false)), none, []⟩,
    ⟨some 26, .mov (.tmp 25), none, []⟩,
    ⟨some 27, .bsl 3 1 (.int .i64 0) 1 [(0, 1, (.const (.int .i64 2)))], some (26, true), [8]⟩,
    ⟨some 28, .call (.func 12) [(.const (.int .u8 8)), (.const (.int .u8 2)), (.tmp 27)], some (26, true), [8]⟩,
    ⟨some 29, .bsl 44 17 (.agg #[(.int .u8 0), (.int .u8 0), (.int .u32 0), (.int .u8 0), (.int .i64 0), (.int .i64 0), (.int .i64 0), (.string ⟨#[]⟩), (.int .u8 0), (.int .u32 0), (.int .u8 0), (.slice none 0 0), (.int .i64 0), (.int .u8 0), (.int .u32 0), (.bool false), (.slice none 0 0)]) 1 [(0, 17, (.tmp 28))], some (26, true), [8, 9, 10]⟩,
    ⟨some 30, .bsl 3 1 (.int .i64 0) 1 [(0, 1, (.const (.int .i64 2)))], some (26, true), [5, 6, 7]⟩,
    ⟨some 31, .call (.func 12) [(.const (.int .u8 8)), (.const (.int .u8 2)), (.tmp 30)], some (26, true), [7]⟩,
    ⟨some 32, .bsl 44 17 (.agg #[(.int .u8 0), (.int .u8 0), (.int .u32 0), (.int .u8 0), (.int .i64 0), (.int .i64 0), (.int .i64 0), (.string ⟨#[]⟩), (.int .u8 0), (.int .u32 0), (.int .u8 0), (.slice none 0 0), (.int .i64 0), (.int .u8 0), (.int .u32 0), (.bool false), (.slice none 0 0)]) 1 [(0, 17, (.tmp 31))], some (26, true), [7]⟩,
    ⟨some 33, .call (.func 23) [(.tmp 29), (.const (.int .u8 2)), (.tmp 32)], some (26, true), []⟩,
    ⟨some 34, .pick (.tmp 26) (.tmp 33) (.const (.bool false)), none, []⟩,
    ⟨some 0, .mov (.tmp 34), none, []⟩] false)
  .ret)))))
def a7 : AFunc := ⟨35, c7, [.tmp 0], 1⟩

/-- blindstamp/blindstampref30.Great -/
def c8 : ACode :=
  (.seq (.region [⟨some 4, .mov (.const (.bool false)), none, []⟩] false)
  (.seq (.region [⟨some 5, .mov (.const (.int .i64 0)), none, []⟩] false)
  (.seq (.seq (.region [⟨some 6, .mov (.const (.int .i64 0)), none, []⟩] false)
  (.block 0 (.loop (.seq (.seq (.region [⟨some 7, .mov (.tmp 6), none, [1, 2]⟩,
        ⟨some 8, .mov (.tmp 0), none, [0]⟩,
        ⟨some 9, .len (.tmp 8), none, [0]⟩,
        ⟨some 10, .pur (mkO (.binOp .lss 3 (.tmp 7) (.tmp 9) 3) 4), none, []⟩,
        ⟨some 11, .mov (.tmp 10), none, []⟩,
        ⟨some 12, .mov (.tmp 6), some (11, true), []⟩,
        ⟨some 13, .pur (mkO (.binOp .lss 3 (.tmp 12) (.const (.int .i64 300)) 3) 4), some (11, true), []⟩,
        ⟨some 14, .pick (.tmp 11) (.tmp 13) (.const (.bool false)), none, []⟩] false)
      (.cond (.tmp 14)
        .skip
        (.exit 0)))
      (.seq (.block 1 (.region [⟨some 17, .mov (.tmp 5), none, [1, 2, 3, 4, 5, 6, 7, 9, 10, 11, 12, 13, 14, 15, 17, 18, 19, 20, 21, 22, 23]⟩,
          ⟨some 18, .mov (.tmp 0), none, [0, 2, 9, 10, 11, 12, 13, 14, 15, 17, 18, 19, 20, 21, 22, 23]⟩,
          ⟨some 19, .mov (.tmp 6), none, [0, 1, 9, 10, 11, 12, 13, 14, 15, 17, 18, 19, 20, 21, 22, 23]⟩,
          ⟨some 20, .iad 17 (.tmp 18) (.tmp 19), none, [0, 9, 10, 11, 12, 13, 14, 15, 17, 18, 19, 20, 21, 22, 23]⟩,
          ⟨some 21, .fad 7 (.tmp 20), none, [0, 9, 10, 11, 12, 13, 14, 15, 17, 18, 19, 20, 21, 22, 23]⟩,
          ⟨some 22, .load 1 false (.tmp 21), none, [0, 9, 10, 11, 12, 13, 14, 15, 17, 18, 19, 20, 21, 22, 23]⟩,
          ⟨some 23, .pur (mkO (.call ⟨.builtin .len, #[(.tmp 22)], #[9]⟩) 3), none, [0, 9, 10, 11, 12, 13, 14, 15, 17, 18, 19, 20, 21, 22, 23]⟩,
          ⟨some 24, .pur (mkO (.call ⟨.builtin .min, #[(.tmp 23), (.const (.int .i64 10000))], #[3, 3]⟩) 3), none, [0, 9, 10, 11, 12, 13, 14, 15, 17, 18, 19, 20, 21, 22, 23]⟩,
          ⟨some 25, .pur (mkO (.binOp .add 3 (.tmp 17) (.tmp 24) 3) 3), none, [9, 10, 11, 12, 13, 14, 15, 17, 18, 19, 20, 21, 22, 23]⟩,
          ⟨some 26, .mov (.tmp 0), none, [0, 1, 2, 3, 4, 5, 6, 7, 8, 10, 17, 18, 19, 20, 21, 22, 23]⟩,
          ⟨some 27, .mov (.tmp 6), none, [0, 1, 2, 3, 4, 5, 6, 7, 8, 9, 17, 18, 19, 20, 21, 22, 23]⟩,
          ⟨some 28, .iad 17 (.tmp 26) (.tmp 27), none, [0, 1, 2, 3, 4, 5, 6, 7, 8, 17, 18, 19, 20, 21, 22, 23]⟩,
          ⟨some 29, .fad 11 (.tmp 28), none, [0, 1, 2, 3, 4, 5, 6, 7, 8, 17, 18, 19, 20, 21, 22, 23]⟩,
          ⟨some 30, .load 1 false (.tmp 29), none, [0, 1, 2, 3, 4, 5, 6, 7, 8, 17, 18, 19, 20, 21, 22, 23]⟩,
          ⟨some 31, .len (.tmp 30), none, [0, 1, 2, 3, 4, 5, 6, 7, 8, 17, 18, 19, 20, 21, 22, 23]⟩,
          ⟨some 32, .pur (mkO (.call ⟨.builtin .min, #[(.tmp 31), (.const (.int .i64 10000))], #[3, 3]⟩) 3), none, [0, 1, 2, 3, 4, 5, 6, 7, 8, 17, 18, 19, 20, 21, 22, 23]⟩,
          ⟨some 33, .pur (mkO (.binOp .add 3 (.tmp 25) (.tmp 32) 3) 3), none, [17, 18, 19, 20, 21, 22, 23]⟩,
          ⟨some 34, .mov (.tmp 0), none, [0, 1, 2, 3, 4, 5, 6, 7, 8, 9, 10, 11, 12, 13, 14, 15, 16, 18]⟩,
          ⟨some 35, .mov (.tmp 6), none, [0, 1, 2, 3, 4, 5, 6, 7, 8, 9, 10, 11, 12, 13, 14, 15, 16, 17]⟩,
          ⟨some 36, .iad 17 (.tmp 34) (.tmp 35), none, [0, 1, 2, 3, 4, 5, 6, 7, 8, 9, 10, 11, 12, 13, 14, 15, 16]⟩,
          ⟨some 37, .fad 16 (.tmp 36), none, [0, 1, 2, 3, 4, 5, 6, 7, 8, 9, 10, 11, 12, 13, 14, 15, 16]⟩,
          ⟨some 38, .load 1 false (.tmp 37), none, [0, 1, 2, 3, 4, 5, 6, 7, 8, 9, 10, 11, 12, 13, 14, 15, 16]⟩,
          ⟨some 39, .len (.tmp 38), none, [0, 1, 2, 3, 4, 5, 6, 7, 8, 9, 10, 11, 12, 13, 14, 15, 16]⟩,
          ⟨some 40, .pur (mkO (.call ⟨.builtin .min, #[(.tmp 39), (.const (.int .i64 10000))], #[3, 3]⟩) 3), none, [0, 1, 2, 3, 4, 5, 6, 7, 8, 9, 10, 11, 12, 13, 14, 15, 16]⟩,
          ⟨some 41, .pur (mkO (.binOp .add 3 (.tmp 33) (.tmp 40) 3) 3), none, []⟩,
          ⟨some 5, .mov (.tmp 41), none, []⟩] true))
      (.region [⟨some 15, .mov (.tmp 6), none, []⟩,
        ⟨some 16, .pur (mkO (.binOp .add 3 (.tmp 15) (.const (.int .i64 1)) 3) 3), none, []⟩,
        ⟨some 6, .mov (.tmp 16), none, []⟩] false))))))
  (.seq (.region [⟨some 42, .mov (.tmp 0), none, [2]⟩,
    ⟨some 43, .len (.tmp 42), none, [2]⟩,
    ⟨some 44, .mov (.tmp 1), none, [0, 1]⟩,
    ⟨some 45, .pur (mkO (.binOp .gtr 3 (.tmp 43) (.tmp 44) 3) 4), none, []⟩,
    ⟨some 46, .mov (.tmp 45), none, []⟩,
    ⟨some 47, .mov (.tmp 5), some (46, false), []⟩,
    ⟨some 48, .pur (mkO (.binOp .gtr 3 (.tmp 47) (.const (.int .i64 20000)) 3) 4), some (46, false), []⟩,
    ⟨some 49, .pick (.tmp 46) (.const (.bool true)) (.tmp 48), none, []⟩,
    ⟨some 4, .mov (.tmp 49), none, []⟩] false)
  .ret))))
def a8 : AFunc := ⟨50, c8, [.tmp 4], 1⟩

/-- blindstamp/purge.Purge -/
def c9 : ACode :=
  (.seq (.region [⟨some 3, .box 25 (.tmp 1), none, [1, 2]⟩,
    ⟨some 4, .mov (.const (.slice none 0 0)), none, [0]⟩,
    ⟨some 5, .mov (.const (.int .i64 0)), none, [0]⟩] false)
  (.seq (.seq (.region [⟨some 10, .mov (.tmp 0), none, []⟩,
    ⟨some 11, .call (.func 13) [(.tmp 10)], none, []⟩,
    ⟨some 6, .mov (.tmp 11), none, []⟩] false)
  (.seq (.region [⟨some 12, .mov (.tmp 6), none, []⟩,
    ⟨some 13, .pur (mkO (.binOp .neq 28 (.tmp 12) (.const (.int .i64 0)) 28) 4), none, []⟩] false)
  (.cond (.tmp 13)
    (.seq (.region [⟨some 14, .mov (.tmp 6), none, [1]⟩,
      ⟨some 4, .mov (.const (.slice none 0 0)), none, [0]⟩,
      ⟨some 5, .mov (.tmp 14), none, []⟩] false)
    .ret)
    .skip)))
  (.seq (.seq (.region [⟨some 15, .load 2 true (.tmp 3), none, []⟩,
    ⟨some 16, .call (.func 24) [(.tmp 15)], none, []⟩,
    ⟨some 7, .mov (.tmp 16), none, []⟩] false)
  (.seq (.region [⟨some 17, .mov (.tmp 7), none, []⟩,
    ⟨some 18, .pur (mkO (.binOp .neq 28 (.tmp 17) (.const (.int .i64 0)) 28) 4), none, []⟩] false)
  (.cond (.tmp 18)
    (.seq (.region [⟨some 19, .mov (.tmp 7), none, [1]⟩,
      ⟨some 4, .mov (.const (.slice none 0 0)), none, [0]⟩,
      ⟨some 5, .mov (.tmp 19), none, []⟩] false)
    .ret)
    .skip)))
  (.seq (.region [⟨some 8, .alloc 22 (.slice none 0 0), none, []⟩] false)
  (.seq (.seq (.region [⟨some 20, .mov (.tmp 0), none, [1]⟩,
    ⟨some 21, .load 2 true (.tmp 3), none, [0]⟩,
    ⟨some 22, .call (.func 25) [(.tmp 20), (.tmp 21)], none, []⟩] false)
  (.block 0 (.rangeFunc (.tmp 22) [23] (.region [⟨some 9, .alloc 44 (.agg #[(.int .u8 0), (.int .u8 0), (.int .u32 0), (.int .u8 0), (.int .i64 0), (.int .i64 0), (.int .i64 0), (.string ⟨#[]⟩), (.int .u8 0), (.int .u32 0), (.int .u8 0), (.slice none 0 0), (.int .i64 0), (.int .u8 0), (.int .u32 0), (.bool false), (.slice none 0 0)]), none, []⟩,
        ⟨none, .store 17 (.tmp 9) (.tmp 23), none, []⟩] false) (.block 1 (.region [⟨some 24, .load 1 false (.tmp 8), none, [1, 2]⟩,
          ⟨some 25, .load 17 true (.tmp 9), none, [0]⟩,
          ⟨some 26, .bsl 44 17 (.agg #[(.int .u8 0), (.int .u8 0), (.int .u32 0), (.int .u8 0), (.int .i64 0), (.int .i64 0), (.int .i64 0), (.string ⟨#[]⟩), (.int .u8 0), (.int .u32 0), (.int .u8 0), (.slice none 0 0), (.int .i64 0), (.int .u8 0), (.int .u32 0), (.bool false), (.slice none 0 0)]) 1 [(0, 17, (.tmp 25))], none, [0]⟩,
          ⟨some 27, .app 44 17 144 (.agg #[(.int .u8 0), (.int .u8 0), (.int .u32 0), (.int .u8 0), (.int .i64 0), (.int .i64 0), (.int .i64 0), (.string ⟨#[]⟩), (.int .u8 0), (.int .u32 0), (.int .u8 0), (.slice none 0 0), (.int .i64 0), (.int .u8 0), (.int .u32 0), (.bool false), (.slice none 0 0)]) (.tmp 24) (.tmp 26), none, []⟩,
          ⟨none, .store 1 (.tmp 8) (.tmp 27), none, []⟩] false)))))
  (.seq (.region [⟨some 28, .load 1 false (.tmp 8), none, []⟩,
    ⟨some 4, .mov (.tmp 28), none, []⟩,
    ⟨some 5, .mov (.const (.int .i64 0)), none, []⟩] false)
  .ret))))))
def a9 : AFunc := ⟨29, c9, [.tmp 4, .tmp 5], 1⟩

/-- blindstamp/blindstampref30.Same -/
def c10 : ACode :=
  (.seq (.region [⟨some 4, .mov (.const (.bool false)), none, []⟩] false)
  (.seq (.seq (.region [⟨some 6, .mov (.tmp 0), none, [2, 3]⟩,
    ⟨some 7, .len (.tmp 6), none, [2, 3]⟩,
    ⟨some 8, .mov (.tmp 1), none, [0, 1]⟩,
    ⟨some 9, .len (.tmp 8), none, [0, 1]⟩,
    ⟨some 10, .pur (mkO (.binOp .neq 3 (.tmp 7) (.tmp 9) 3) 4), none, []⟩] false)
  (.cond (.tmp 10)
    (.seq (.region [⟨some 4, .mov (.const (.bool false)), none, []⟩] false)
    .ret)
    .skip))
  (.seq (.seq (.region [⟨some 5, .mov (.const (.int .i64 0)), none, []⟩] false)
  (.block 0 (.loop (.seq (.seq (.region [⟨some 11, .mov (.tmp 5), none, [1, 2]⟩,
        ⟨some 12, .mov (.tmp 0), none, [0]⟩,
        ⟨some 13, .len (.tmp 12), none, [0]⟩,
        ⟨some 14, .pur (mkO (.binOp .lss 3 (.tmp 11) (.tmp 13) 3) 4), none, []⟩] false)
      (.cond (.tmp 14)
        .skip
        (.exit 0)))
      (.seq (.block 1 (.seq (.region [⟨some 17, .mov (.tmp 0), none, [1, 4, 5, 6, 7]⟩,
          ⟨some 18, .mov (.tmp 5), none, [0, 4, 5, 6, 7]⟩,
          ⟨some 19, .iad 17 (.tmp 17) (.tmp 18), none, [4, 5, 6, 7]⟩,
          ⟨some 20, .load 17 true (.tmp 19), none, [4, 5, 6, 7]⟩,
          ⟨some 21, .mov (.tmp 1), none, [0, 1, 2, 3, 5]⟩,
          ⟨some 22, .mov (.tmp 5), none, [0, 1, 2, 3, 4]⟩,
          ⟨some 23, .iad 17 (.tmp 21) (.tmp 22), none, [0, 1, 2, 3]⟩,
          ⟨some 24, .load 17 true (.tmp 23), none, [0, 1, 2, 3]⟩,
          ⟨some 25, .call (.func 26) [(.tmp 20), (.tmp 24)], none, []⟩,
          ⟨some 26, .pur (mkO (.unOp .not 4 (.tmp 25)) 4), none, []⟩] true)
        (.cond (.tmp 26)
          (.seq (.region [⟨some 4, .mov (.const (.bool false)), none, []⟩] false)
          .ret)
          .skip)))
      (.region [⟨some 15, .mov (.tmp 5), none, []⟩,
        ⟨some 16, .pur (mkO (.binOp .add 3 (.tmp 15) (.const (.int .i64 1)) 3) 3), none, []⟩,
        ⟨some 5, .mov (.tmp 16), none, []⟩] false))))))
  (.seq (.region [⟨some 4, .mov (.const (.bool true)), none, []⟩] false)
  .ret))))
def a10 : AFunc := ⟨27, c10, [.tmp 4], 1⟩

/-- blindstamp/purge.Crashes -/
def c11 : ACode :=
  (.seq (.region [⟨some 2, .mov (.const (.int .i64 0)), none, []⟩,
    ⟨some 3, .mov (.const (.int .i64 0)), none, []⟩] false)
  (.seq (.seq (.region [⟨some 7, .mov (.tmp 0), none, []⟩,
    ⟨some 8, .call (.func 13) [(.tmp 7)], none, []⟩,
    ⟨some 4, .mov (.tmp 8), none, []⟩] false)
  (.seq (.region [⟨some 9, .mov (.tmp 4), none, []⟩,
    ⟨some 10, .pur (mkO (.binOp .neq 28 (.tmp 9) (.const (.int .i64 0)) 28) 4), none, []⟩] false)
  (.cond (.tmp 10)
    (.seq (.region [⟨some 11, .mov (.tmp 4), none, [1]⟩,
      ⟨some 2, .mov (.const (.int .i64 0)), none, [0]⟩,
      ⟨some 3, .mov (.tmp 11), none, []⟩] false)
    .ret)
    .skip)))
  (.seq (.seq (.region [⟨some 12, .mov (.tmp 0), none, [2]⟩,
    ⟨some 13, .len (.tmp 12), none, [2]⟩,
    ⟨some 14, .mov (.const (.int .i64 0)), none, [0, 1]⟩] false)
  (.block 0 (.loop (.seq (.region [⟨some 15, .pur (mkO (.binOp .lss 3 (.tmp 14) (.tmp 13) 3) 0), none, []⟩] false)
      (.seq (.cond (.tmp 15)
        .skip
        (.exit 0))
      (.seq (.block 1 (.seq (.region [⟨some 16, .iad 17 (.tmp 12) (.tmp 14), none, [2]⟩,
          ⟨some 17, .load 17 true (.tmp 16), none, [2]⟩,
          ⟨some 6, .alloc 44 (.agg #[(.int .u8 0), (.int .u8 0), (.int .u32 0), (.int .u8 0), (.int .i64 0), (.int .i64 0), (.int .i64 0), (.string ⟨#[]⟩), (.int .u8 0), (.int .u32 0), (.int .u8 0), (.slice none 0 0), (.int .i64 0), (.int .u8 0), (.int .u32 0), (.bool false), (.slice none 0 0)]), none, [0, 1]⟩,
          ⟨none, .store 17 (.tmp 6) (.tmp 17), none, []⟩] false)
        (.region [⟨some 18, .mov (.tmp 2), none, [1, 2, 3]⟩,
          ⟨some 19, .fad 16 (.tmp 6), none, [0]⟩,
          ⟨some 20, .load 1 false (.tmp 19), none, [0]⟩,
          ⟨some 21, .len (.tmp 20), none, [0]⟩,
          ⟨some 22, .pur (mkO (.binOp .add 3 (.tmp 18) (.tmp 21) 3) 3), none, []⟩,
          ⟨some 2, .mov (.tmp 22), none, []⟩] false)))
      (.region [⟨some 23, .pur (mkO (.binOp .add 3 (.tmp 14) (.const (.int .i64 1)) 3) 3), none, []⟩,
        ⟨some 14, .mov (.tmp 23), none, []⟩] false)))))))
  (.seq (.region [⟨some 24, .mov (.tmp 2), none, []⟩,
    ⟨some 2, .mov (.tmp 24), none, []⟩,
    ⟨some 3, .mov (.const (.int .i64 0)), none, []⟩] false)
  .ret))))
def a11 : AFunc := ⟨25, c11, [.tmp 2, .tmp 3], 1⟩

/-- blindstamp/blindstamplaw30.at -/
def c12 : ACode :=
  (.seq (.region [⟨some 6, .alloc 44 (.agg #[(.int .u8 0), (.int .u8 0), (.int .u32 0), (.int .u8 0), (.int .i64 0), (.int .i64 0), (.int .i64 0), (.string ⟨#[]⟩), (.int .u8 0), (.int .u32 0), (.int .u8 0), (.slice none 0 0), (.int .i64 0), (.int .u8 0), (.int .u32 0), (.bool false), (.slice none 0 0)]), none, []⟩] false)
  (.seq (.region [⟨some 7, .mov (.tmp 0), none, [1, 2, 3, 4]⟩,
    ⟨some 8, .mov (.tmp 1), none, [0, 4]⟩,
    ⟨some 9, .build (.agg #[(.int .u8 0), (.int .u32 0)]) [(0, 1, (.tmp 8))], none, [0, 4]⟩,
    ⟨some 10, .build (.agg #[(.int .u8 0), (.int .u32 0), (.int .u8 0)]) [(0, 2, (.tmp 9))], none, [0, 4]⟩,
    ⟨some 11, .mov (.tmp 2), none, [0, 1, 2, 3]⟩,
    ⟨some 12, .build (.agg #[(.int .u8 0), (.int .u8 0), (.int .u32 0), (.int .u8 0), (.int .i64 0), (.int .i64 0), (.int .i64 0), (.string ⟨#[]⟩), (.int .u8 0), (.int .u32 0), (.int .u8 0), (.slice none 0 0), (.int .i64 0), (.int .u8 0), (.int .u32 0), (.bool false), (.slice none 0 0)]) [(0, 1, (.tmp 7)), (1, 3, (.tmp 10)), (16, 1, (.tmp 11))], none, []⟩,
    ⟨none, .store 17 (.tmp 6) (.tmp 12), none, []⟩] false)
  .ret))
def a12 : AFunc := ⟨13, c12, [.cell 6 17 true], 1⟩

/-- blindstamp/purge.Check -/
def c13 : ACode :=
  (.seq (.region [⟨some 2, .mov (.const (.int .i64 0)), none, []⟩] false)
  (.seq (.block 0 (.seq (.region [⟨some 4, .mov (.tmp 0), none, []⟩,
      ⟨some 5, .len (.tmp 4), none, []⟩,
      ⟨some 6, .pur (mkO (.binOp .gtr 3 (.tmp 5) (.const (.int .i64 2048)) 3) 4), none, []⟩,
      ⟨some 3, .mov (.tmp 6), none, []⟩] false)
    (.cond (.tmp 3)
      (.seq (.region [⟨some 2, .mov (.const (.int .i64 4)), none, []⟩] false)
      .ret)
      (.seq (.region [⟨some 8, .mov (.tmp 0), none, []⟩,
        ⟨some 9, .call (.func 27) [(.tmp 8), (.func 28)], none, []⟩,
        ⟨some 7, .mov (.tmp 9), none, []⟩] false)
      (.cond (.tmp 7)
        (.seq (.region [⟨some 2, .mov (.const (.int .i64 8)), none, []⟩] false)
        .ret)
        .skip)))))
  (.seq (.region [⟨some 2, .mov (.const (.int .i64 0)), none, []⟩] false)
  .ret)))
def a13 : AFunc := ⟨10, c13, [.tmp 2], 1⟩

/-- blindstamp/blindstamplaw30.numbers -/
def c14 : ACode :=
  (.seq (.region [⟨some 2, .mov (.const (.slice none 0 0)), none, []⟩] false)
  (.seq (.region [⟨some 3, .mov (.const (.slice none 0 0)), none, []⟩] false)
  (.seq (.seq (.region [⟨some 4, .mov (.const (.int .i64 0)), none, []⟩] false)
  (.block 0 (.loop (.seq (.seq (.region [⟨some 5, .mov (.tmp 4), none, [1, 2]⟩,
        ⟨some 6, .mov (.tmp 0), none, [0]⟩,
        ⟨some 7, .len (.tmp 6), none, [0]⟩,
        ⟨some 8, .pur (mkO (.binOp .lss 3 (.tmp 5) (.tmp 7) 3) 4), none, []⟩] false)
      (.cond (.tmp 8)
        .skip
        (.exit 0)))
      (.seq (.block 1 (.region [⟨some 11, .mov (.tmp 3), none, [1, 2, 3, 4, 5]⟩,
          ⟨some 12, .mov (.tmp 0), none, [0, 2]⟩,
          ⟨some 13, .mov (.tmp 4), none, [0, 1]⟩,
          ⟨some 14, .iad 17 (.tmp 12) (.tmp 13), none, [0]⟩,
          ⟨some 15, .fad 16 (.tmp 14), none, [0]⟩,
          ⟨some 16, .load 1 false (.tmp 15), none, [0]⟩,
          ⟨some 17, .app 3 1 8 (.int .i64 0) (.tmp 11) (.tmp 16), none, []⟩,
          ⟨some 3, .mov (.tmp 17), none, []⟩] false))
      (.region [⟨some 9, .mov (.tmp 4), none, []⟩,
        ⟨some 10, .pur (mkO (.binOp .add 3 (.tmp 9) (.const (.int .i64 1)) 3) 3), none, []⟩,
        ⟨some 4, .mov (.tmp 10), none, []⟩] false))))))
  (.seq (.region [⟨some 18, .mov (.tmp 3), none, []⟩,
    ⟨some 2, .mov (.tmp 18), none, []⟩] false)
  .ret))))
def a14 : AFunc := ⟨19, c14, [.tmp 2], 1⟩

/-- blindstamp/label.Leq -/
def c15 : ACode :=
  (.seq (.region [⟨some 2, .box 25 (.tmp 0), none, [1, 2]⟩,
    ⟨some 3, .box 25 (.tmp 1), none, [0, 2]⟩,
    ⟨some 4, .mov (.const (.bool false)), none, [0, 1]⟩] false)
  (.seq (.region [⟨some 5, .fad 0 (.tmp 2), none, [2, 3]⟩,
    ⟨some 6, .load 1 false (.tmp 5), none, [2, 3]⟩,
    ⟨some 7, .fad 0 (.tmp 3), none, [0, 1]⟩,
    ⟨some 8, .load 1 false (.tmp 7), none, [0, 1]⟩,
    ⟨some 9, .pur (mkO (.binOp .leq 5 (.tmp 6) (.tmp 8) 5) 4), none, []⟩,
    ⟨some 10, .mov (.tmp 9), none, []⟩,
    ⟨some 11, .fad 1 (.tmp 2), some (10, true), [8, 9]⟩,
    ⟨some 12, .load 1 false (.tmp 11), some (10, true), [8, 9]⟩,
    ⟨some 13, .fad 1 (.tmp 3), some (10, true), [6, 7]⟩,
    ⟨some 14, .load 1 false (.tmp 13), some (10, true), [6, 7]⟩,
    ⟨some 15, .pur (mkO (.binOp .andNot 23 (.tmp 12) (.tmp 14) 23) 23), some (10, true), []⟩,
    ⟨some 16, .pur (mkO (.binOp .eql 23 (.tmp 15) (.const (.int .u32 0)) 23) 4), some (10, true), []⟩,
    ⟨some 17, .pick (.tmp 10) (.tmp 16) (.const (.bool false)), none, []⟩,
    ⟨some 4, .mov (.tmp 17), none, []⟩] false)
  .ret))
def a15 : AFunc := ⟨18, c15, [.tmp 4], 1⟩

/-- blindstamp/blindstamplaw30.purges -/
def c23 : ACode :=
  (.seq (.region [⟨some 6, .mov (.const (.bool false)), none, []⟩] false)
  (.seq (.region [⟨some 10, .mov (.tmp 0), none, [1, 2]⟩,
    ⟨some 11, .mov (.tmp 1), none, [0]⟩,
    ⟨some 12, .build (.agg #[(.int .u8 0), (.int .u32 0)]) [(0, 1, (.tmp 11))], none, [0]⟩,
    ⟨some 13, .call (.func 9) [(.tmp 10), (.tmp 12)], none, []⟩,
    ⟨some 9, .mov (.tmp 13), none, []⟩,
    ⟨some 14, .ext (.tmp 9) 0, none, [6]⟩,
    ⟨some 15, .ext (.tmp 9) 1, none, [5, 7]⟩,
    ⟨some 7, .mov (.tmp 14), none, [6]⟩,
    ⟨some 8, .mov (.tmp 15), none, []⟩] false)
  (.seq (.region [⟨some 16, .mov (.tmp 8), none, []⟩,
    ⟨some 17, .pur (mkO (.binOp .eql 28 (.tmp 16) (.const (.int .i64 0)) 28) 4), none, []⟩,
    ⟨some 18, .mov (.tmp 17), none, []⟩,
    ⟨some 19, .mov (.tmp 7), some (18, true), [4]⟩,
    ⟨some 20, .mov (.tmp 2), some (18, true), [3]⟩,
    ⟨some 21, .call (.func 10) [(.tmp 19), (.tmp 20)], some (18, true), []⟩,
    ⟨some 22, .pick (.tmp 18) (.tmp 21) (.const (.bool false)), none, []⟩,
    ⟨some 6, .mov (.tmp 22), none, []⟩] false)
  .ret)))
def a23 : AFunc := ⟨23, c23, [.tmp 6], 1⟩

/-- blindstamp/label.Check -/
def c24 : ACode :=
  (.seq (.region [⟨some 1, .box 25 (.tmp 0), none, [1]⟩,
    ⟨some 2, .mov (.const (.int .i64 0)), none, [0]⟩] false)
  (.seq (.seq (.region [⟨some 3, .fad 0 (.tmp 1), none, []⟩,
    ⟨some 4, .load 1 false (.tmp 3), none, []⟩,
    ⟨some 5, .pur (mkO (.binOp .gtr 5 (.tmp 4) (.const (.int .u8 15)) 5) 4), none, []⟩] false)
  (.cond (.tmp 5)
    (.seq (.region [⟨some 2, .mov (.const (.int .i64 8)), none, []⟩] false)
    .ret)
    .skip))
  (.seq (.region [⟨some 2, .mov (.const (.int .i64 0)), none, []⟩] false)
  .ret)))
def a24 : AFunc := ⟨6, c24, [.tmp 2], 1⟩

/-- blindstamp/purge.left -/
def c25 : ACode :=
  (.seq (.region [⟨some 2, .box 22 (.tmp 0), none, [1, 2]⟩,
    ⟨some 3, .box 25 (.tmp 1), none, [0, 2]⟩,
    ⟨some 4, .mov (.const .nilFunc), none, [0, 1]⟩] false)
  (.seq (.region [⟨some 5, .mkfn 38 [] [(.tmp 2), (.tmp 3)], none, []⟩,
    ⟨some 4, .mov (.tmp 5), none, []⟩] false)
  .ret))
def a25 : AFunc := ⟨6, c25, [.tmp 4], 0⟩

/-- blindstamp/blindstampref30.one -/
def c26 : ACode :=
  (.seq (.region [⟨some 2, .box 44 (.tmp 0), none, [1, 2]⟩,
    ⟨some 3, .box 44 (.tmp 1), none, [0, 2]⟩,
    ⟨some 4, .mov (.const (.bool false)), none, [0, 1]⟩] false)
  (.seq (.seq (.region [⟨some 5, .fad 0 (.tmp 2), none, [2, 3]⟩,
    ⟨some 6, .load 1 false (.tmp 5), none, [2, 3]⟩,
    ⟨some 7, .fad 0 (.tmp 3), none, [0, 1]⟩,
    ⟨some 8, .load 1 false (.tmp 7), none, [0, 1]⟩,
    ⟨some 9, .pur (mkO (.binOp .neq 5 (.tmp 6) (.tmp 8) 5) 4), none, []⟩,
    ⟨some 10, .mov (.tmp 9), none, []⟩,
    ⟨some 11, .fad 1 (.tmp 2), some (10, false), [8, 9]⟩,
    ⟨some 12, .load 3 true (.tmp 11), some (10, false), [8, 9]⟩,
    ⟨some 13, .fad 1 (.tmp 3), some (10, false), [6, 7]⟩,
    ⟨some 14, .load 3 true (.tmp 13), some (10, false), [6, 7]⟩,
    ⟨some 15, .pur (mkO (.binOp .neq 36 (.tmp 12) (.tmp 14) 36) 4), some (10, false), []⟩,
    ⟨some 16, .pick (.tmp 10) (.const (.bool true)) (.tmp 15), none, []⟩,
    ⟨some 17, .mov (.tmp 16), none, []⟩,
    ⟨some 18, .fad 4 (.tmp 2), some (17, false), [15, 16]⟩,
    ⟨some 19, .load 1 false (.tmp 18), some (17, false), [15, 16]⟩,
    ⟨some 20, .fad 4 (.tmp 3), some (17, false), [13, 14]⟩,
    ⟨some 21, .load 1 false (.tmp 20), some (17, false), [13, 14]⟩,
    ⟨some 22, .pur (mkO (.binOp .neq 3 (.tmp 19) (.tmp 21) 3) 4), some (17, false), []⟩,
    ⟨some 23, .pick (.tmp 17) (.const (.bool true)) (.tmp 22), none, []⟩,
    ⟨some 24, .mov (.tmp 23), none, []⟩,
    ⟨some 25, .fad 5 (.tmp 2), some (24, false), [22, 23]⟩,
    ⟨some 26, .load 1 false (.tmp 25), some (24, false), [22, 23]⟩,
    ⟨some 27, .fad 5 (.tmp 3), some (24, false), [20, 21]⟩,
    ⟨some 28, .load 1 false (.tmp 27), some (24, false), [20, 21]⟩,
    ⟨some 29, .pur (mkO (.binOp .neq 3 (.tmp 26) (.tmp 28) 3) 4), some (24, false), []⟩,
    ⟨some 30, .pick (.tmp 24) (.const (.bool true)) (.tmp 29), none, []⟩,
    ⟨some 31, .mov (.tmp 30), none, []⟩,
    ⟨some 32, .fad 6 (.tmp 2), some (31, false), [29, 30]⟩,
    ⟨some 33, .load 1 false (.tmp 32), some (31, false), [29, 30]⟩,
    ⟨some 34, .fad 6 (.tmp 3), some (31, false), [27, 28]⟩,
    ⟨some 35, .load 1 false (.tmp 34), some (31, false), [27, 28]⟩,
    ⟨some 36, .pur (mkO (.binOp .neq 3 (.tmp 33) (.tmp 35) 3) 4), some (31, false), []⟩,
    ⟨some 37, .pick (.tmp 31) (.const (.bool true)) (.tmp 36), none, []⟩,
    ⟨some 38, .mov (.tmp 37), none, []⟩,
    ⟨some 39, .fad 7 (.tmp 2), some (38, false), [36, 37]⟩,
    ⟨some 40, .load 1 false (.tmp 39), some (38, false), [36, 37]⟩,
    ⟨some 41, .fad 7 (.tmp 3), some (38, false), [34, 35]⟩,
    ⟨some 42, .load 1 false (.tmp 41), some (38, false), [34, 35]⟩,
    ⟨some 43, .pur (mkO (.binOp .neq 9 (.tmp 40) (.tmp 42) 9) 4), some (38, false), []⟩,
    ⟨some 44, .pick (.tmp 38) (.const (.bool true)) (.tmp 43), none, []⟩,
    ⟨some 45, .mov (.tmp 44), none, []⟩,
    ⟨some 46, .fad 8 (.tmp 2), some (45, false), [43, 44]⟩,
    ⟨some 47, .load 2 true (.tmp 46), some (45, false), [43, 44]⟩,
    ⟨some 48, .fad 8 (.tmp 3), some (45, false), [41, 42]⟩,
    ⟨some 49, .load 2 true (.tmp 48), some (45, false), [41, 42]⟩,
    ⟨some 50, .pur (mkO (.binOp .neq 25 (.tmp 47) (.tmp 49) 25) 4), some (45, false), []⟩,
    ⟨some 51, .pick (.tmp 45) (.const (.bool true)) (.tmp 50), none, []⟩] false)
  (.cond (.tmp 51)
    (.seq (.region [⟨some 4, .mov (.const (.bool false)), none, []⟩] false)
    .ret)
    .skip))
  (.seq (.region [⟨some 52, .fad 10 (.tmp 2), none, [2, 3]⟩,
    ⟨some 53, .load 1 false (.tmp 52), none, [2, 3]⟩,
    ⟨some 54, .fad 10 (.tmp 3), none, [0, 1]⟩,
    ⟨some 55, .load 1 false (.tmp 54), none, [0, 1]⟩,
    ⟨some 56, .pur (mkO (.binOp .eql 5 (.tmp 53) (.tmp 55) 5) 4), none, []⟩,
    ⟨some 57, .mov (.tmp 56), none, []⟩,
    ⟨some 58, .fad 11 (.tmp 2), some (57, true), [9, 10, 11]⟩,
    ⟨some 59, .load 1 false (.tmp 58), some (57, true), [9, 10, 11]⟩,
    ⟨some 60, .b2s (.tmp 59), some (57, true), [9, 10, 11]⟩,
    ⟨some 61, .fad 11 (.tmp 3), some (57, true), [6, 7, 8]⟩,
    ⟨some 62, .load 1 false (.tmp 61), some (57, true), [6, 7, 8]⟩,
    ⟨some 63, .b2s (.tmp 62), some (57, true), [6, 7, 8]⟩,
    ⟨some 64, .pur (mkO (.binOp .eql 9 (.tmp 60) (.tmp 63) 9) 4), some (57, true), []⟩,
    ⟨some 65, .pick (.tmp 57) (.tmp 64) (.const (.bool false)), none, []⟩,
    ⟨some 66, .mov (.tmp 65), none, []⟩,
    ⟨some 67, .fad 12 (.tmp 2), some (66, true), [17, 18]⟩,
    ⟨some 68, .load 4 true (.tmp 67), some (66, true), [17, 18]⟩,
    ⟨some 69, .fad 12 (.tmp 3), some (66, true), [15, 16]⟩,
    ⟨some 70, .load 4 true (.tmp 69), some (66, true), [15, 16]⟩,
    ⟨some 71, .pur (mkO (.binOp .eql 41 (.tmp 68) (.tmp 70) 41) 4), some (66, true), []⟩,
    ⟨some 72, .pick (.tmp 66) (.tmp 71) (.const (.bool false)), none, []⟩,
    ⟨some 73, .mov (.tmp 72), none, []⟩,
    ⟨some 74, .fad 16 (.tmp 2), some (73, true), [24, 25]⟩,
    ⟨some 75, .load 1 false (.tmp 74), some (73, true), [24, 25]⟩,
    ⟨some 76, .fad 16 (.tmp 3), some (73, true), [22, 23]⟩,
    ⟨some 77, .load 1 false (.tmp 76), some (73, true), [22, 23]⟩,
    ⟨some 78, .call (.func 40) [(.tmp 75), (.tmp 77)], some (73, true), []⟩,
    ⟨some 79, .pick (.tmp 73) (.tmp 78) (.const (.bool false)), none, []⟩,
    ⟨some 4, .mov (.tmp 79), none, []⟩] false)
  .ret)))
def a26 : AFunc := ⟨80, c26, [.tmp 4], 1⟩

/-- slices.ContainsFunc[[]blindstamp/api.Event,blindstamp/api.Event] -/
def c27 : ACode :=
  (.seq (.region [⟨some 4, .mov (.const (.bool false)), none, []⟩] false)
  (.seq (.region [⟨some 5, .mov (.tmp 0), none, [1]⟩,
    ⟨some 6, .mov (.tmp 1), none, [0]⟩,
    ⟨some 7, .call (.func 41) [(.tmp 5), (.tmp 6)], none, []⟩,
    ⟨some 8, .pur (mkO (.binOp .geq 3 (.tmp 7) (.const (.int .i64 0)) 3) 4), none, []⟩,
    ⟨some 4, .mov (.tmp 8), none, []⟩] false)
  .ret))
def a27 : AFunc := ⟨9, c27, [.tmp 4], 1⟩

/-- blindstamp/purge.Check$1 -/
def c28 : ACode :=
  (.seq (.region [⟨some 1, .box 44 (.tmp 0), none, [1]⟩,
    ⟨some 2, .mov (.const (.bool false)), none, [0]⟩] false)
  (.seq (.region [⟨some 3, .load 17 true (.tmp 1), none, []⟩,
    ⟨some 4, .call (.func 29) [(.tmp 3)], none, []⟩,
    ⟨some 5, .pur (mkO (.unOp .not 4 (.tmp 4)) 4), none, []⟩,
    ⟨some 2, .mov (.tmp 5), none, []⟩] false)
  .ret))
def a28 : AFunc := ⟨6, c28, [.tmp 2], 1⟩

/-- blindstamp/purge.may -/
def c29 : ACode :=
  (.seq (.region [⟨some 1, .box 44 (.tmp 0), none, [1]⟩,
    ⟨some 2, .mov (.const (.bool false)), none, [0]⟩] false)
  (.seq (.region [⟨some 5, .fad 1 (.tmp 1), none, [2]⟩,
    ⟨some 6, .load 3 true (.tmp 5), none, [2]⟩,
    ⟨some 7, .build (.agg #[(.int .u8 0), (.int .u32 0), (.int .u8 0)]) [], none, [0, 1]⟩,
    ⟨some 8, .pur (mkO (.binOp .eql 36 (.tmp 6) (.tmp 7) 36) 4), none, []⟩,
    ⟨some 9, .mov (.tmp 8), none, []⟩,
    ⟨some 10, .load 17 true (.tmp 1), some (9, false), []⟩,
    ⟨some 11, .call (.func 39) [(.tmp 10)], some (9, false), []⟩,
    ⟨some 12, .mov (.tmp 11), some (9, false), []⟩,
    ⟨some 13, .fad 1 (.tmp 1), some (12, true), []⟩,
    ⟨some 14, .load 3 true (.tmp 13), some (12, true), []⟩,
    ⟨some 15, .call (.func 42) [(.tmp 14)], some (12, true), []⟩,
    ⟨some 16, .pur (mkO (.binOp .eql 28 (.tmp 15) (.const (.int .i64 0)) 28) 4), some (12, true), []⟩,
    ⟨some 17, .pick (.tmp 12) (.tmp 16) (.const (.bool false)), some (9, false), []⟩,
    ⟨some 18, .pick (.tmp 9) (.const (.bool true)) (.tmp 17), none, []⟩,
    ⟨some 3, .mov (.tmp 18), none, []⟩] false)
  (.seq (.region [⟨some 4, .mov (.func 43), none, []⟩] false)
  (.seq (.region [⟨some 19, .fad 0 (.tmp 1), none, []⟩,
    ⟨some 20, .load 1 false (.tmp 19), none, []⟩,
    ⟨some 21, .pur (mkO (.binOp .geq 5 (.tmp 20) (.const (.int .u8 1)) 5) 4), none, []⟩,
    ⟨some 22, .mov (.tmp 21), none, []⟩,
    ⟨some 23, .fad 0 (.tmp 1), some (22, true), []⟩,
    ⟨some 24, .load 1 false (.tmp 23), some (22, true), []⟩,
    ⟨some 25, .pur (mkO (.binOp .leq 5 (.tmp 24) (.const (.int .u8 20)) 5) 4), some (22, true), []⟩,
    ⟨some 26, .pick (.tmp 22) (.tmp 25) (.const (.bool false)), none, []⟩,
    ⟨some 27, .mov (.tmp 26), none, []⟩,
    ⟨some 28, .mov (.tmp 3), some (27, true), []⟩,
    ⟨some 29, .pick (.tmp 27) (.tmp 28) (.const (.bool false)), none, []⟩,
    ⟨some 30, .mov (.tmp 29), none, []⟩,
    ⟨some 31, .fad 7 (.tmp 1), some (30, true), []⟩,
    ⟨some 32, .load 1 false (.tmp 31), some (30, true), []⟩,
    ⟨some 33, .pur (mkO (.call ⟨.builtin .len, #[(.tmp 32)], #[9]⟩) 3), some (30, true), []⟩,
    ⟨some 34, .pur (mkO (.binOp .leq 3 (.tmp 33) (.const (.int .i64 400)) 3) 4), some (30, true), []⟩,
    ⟨some 35, .pick (.tmp 30) (.tmp 34) (.const (.bool false)), none, []⟩,
    ⟨some 36, .mov (.tmp 35), none, []⟩,
    ⟨some 37, .fad 11 (.tmp 1), some (36, true), []⟩,
    ⟨some 38, .load 1 false (.tmp 37), some (36, true), []⟩,
    ⟨some 39, .len (.tmp 38), some (36, true), []⟩,
    ⟨some 40, .pur (mkO (.binOp .leq 3 (.tmp 39) (.const (.int .i64 1100)) 3) 4), some (36, true), []⟩,
    ⟨some 41, .pick (.tmp 36) (.tmp 40) (.const (.bool false)), none, []⟩,
    ⟨some 42, .mov (.tmp 41), none, []⟩,
    ⟨some 43, .fad 16 (.tmp 1), some (42, true), []⟩,
    ⟨some 44, .load 1 false (.tmp 43), some (42, true), []⟩,
    ⟨some 45, .len (.tmp 44), some (42, true), []⟩,
    ⟨some 46, .pur (mkO (.binOp .leq 3 (.tmp 45) (.const (.int .i64 3)) 3) 4), some (42, true), []⟩,
    ⟨some 47, .pick (.tmp 42) (.tmp 46) (.const (.bool false)), none, []⟩,
    ⟨some 48, .mov (.tmp 47), none, []⟩,
    ⟨some 49, .fad 16 (.tmp 1), some (48, true), [32]⟩,
    ⟨some 50, .load 1 false (.tmp 49), some (48, true), [32]⟩,
    ⟨some 51, .mov (.tmp 4), some (48, true), [30, 31]⟩,
    ⟨some 52, .call (.func 44) [(.tmp 50), (.tmp 51)], some (48, true), []⟩,
    ⟨some 53, .pur (mkO (.unOp .not 4 (.tmp 52)) 4), some (48, true), []⟩,
    ⟨some 54, .pick (.tmp 48) (.tmp 53) (.const (.bool false)), none, []⟩,
    ⟨some 2, .mov (.tmp 54), none, []⟩] false)
  .ret))))
def a29 : AFunc := ⟨55, c29, [.tmp 2], 1⟩

/-- blindstamp/purge.twin -/
def c32 : ACode :=
  (.seq (.region [⟨some 1, .box 44 (.tmp 0), none, [1]⟩,
    ⟨some 2, .alloc 44 (.agg #[(.int .u8 0), (.int .u8 0), (.int .u32 0), (.int .u8 0), (.int .i64 0), (.int .i64 0), (.int .i64 0), (.string ⟨#[]⟩), (.int .u8 0), (.int .u32 0), (.int .u8 0), (.slice none 0 0), (.int .i64 0), (.int .u8 0), (.int .u32 0), (.bool false), (.slice none 0 0)]), none, [0]⟩] false)
  (.seq (.region [⟨some 3, .fad 11 (.tmp 1), none, [3, 4]⟩,
    ⟨some 4, .load 1 false (.tmp 3), none, [3, 4]⟩,
    ⟨some 5, .call (.func 47) [(.tmp 4)], none, [3, 4]⟩,
    ⟨some 6, .fad 16 (.tmp 1), none, [0, 1, 2]⟩,
    ⟨some 7, .load 1 false (.tmp 6), none, [0, 1, 2]⟩,
    ⟨some 8, .call (.func 48) [(.tmp 7)], none, [6]⟩,
    ⟨some 9, .fad 11 (.tmp 1), none, [5]⟩,
    ⟨none, .store 1 (.tmp 9) (.tmp 5), none, []⟩,
    ⟨some 10, .fad 16 (.tmp 1), none, []⟩,
    ⟨none, .store 1 (.tmp 10) (.tmp 8), none, []⟩] true)
  (.seq (.region [⟨some 11, .load 17 true (.tmp 1), none, []⟩,
    ⟨none, .store 17 (.tmp 2) (.tmp 11), none, []⟩] false)
  .ret)))
def a32 : AFunc := ⟨12, c32, [.cell 2 17 true], 1⟩

/-- blindstamp/purge.left$1 -/
def c38 : ACode :=
  (.seq (.region [⟨some 6, .load 1 false (.tmp 1), none, [2]⟩,
    ⟨some 7, .len (.tmp 6), none, [2]⟩,
    ⟨some 8, .mov (.const (.int .i64 0)), none, [0, 1]⟩] false)
  (.block 0 (.loop (.seq (.region [⟨some 9, .pur (mkO (.binOp .lss 3 (.tmp 8) (.tmp 7) 3) 0), none, []⟩] false)
      (.seq (.cond (.tmp 9)
        .skip
        (.exit 0))
      (.seq (.block 1 (.seq (.region [⟨some 10, .iad 17 (.tmp 6) (.tmp 8), none, [2]⟩,
          ⟨some 11, .load 17 true (.tmp 10), none, [2]⟩,
          ⟨some 5, .alloc 44 (.agg #[(.int .u8 0), (.int .u8 0), (.int .u32 0), (.int .u8 0), (.int .i64 0), (.int .i64 0), (.int .i64 0), (.string ⟨#[]⟩), (.int .u8 0), (.int .u32 0), (.int .u8 0), (.slice none 0 0), (.int .i64 0), (.int .u8 0), (.int .u32 0), (.bool false), (.slice none 0 0)]), none, [0, 1]⟩,
          ⟨none, .store 17 (.tmp 5) (.tmp 11), none, []⟩] false)
        (.seq (.seq (.region [⟨some 12, .load 17 true (.tmp 5), none, []⟩,
          ⟨some 13, .call (.func 39) [(.tmp 12)], none, []⟩,
          ⟨some 14, .mov (.tmp 13), none, []⟩,
          ⟨some 15, .fad 1 (.tmp 5), some (14, true), [6]⟩,
          ⟨some 16, .fad 0 (.tmp 15), some (14, true), [6]⟩,
          ⟨some 17, .load 2 true (.tmp 16), some (14, true), [6]⟩,
          ⟨some 18, .load 2 true (.tmp 2), some (14, true), [3, 4, 5]⟩,
          ⟨some 19, .call (.func 15) [(.tmp 17), (.tmp 18)], some (14, true), []⟩,
          ⟨some 20, .pur (mkO (.unOp .not 4 (.tmp 19)) 4), some (14, true), []⟩,
          ⟨some 21, .pick (.tmp 14) (.tmp 20) (.const (.bool false)), none, []⟩] false)
        (.cond (.tmp 21)
          (.seq (.seq (.region [⟨some 22, .fad 16 (.tmp 5), none, []⟩,
            ⟨some 23, .load 1 false (.tmp 22), none, []⟩,
            ⟨some 24, .len (.tmp 23), none, []⟩,
            ⟨some 25, .pur (mkO (.binOp .eql 3 (.tmp 24) (.const (.int .i64 0)) 3) 4), none, []⟩] false)
          (.cond (.tmp 25)
            (.exit 1)
            .skip))
          (.region [⟨some 26, .fad 16 (.tmp 5), none, []⟩,
            ⟨some 27, .load 1 false (.tmp 26), none, []⟩,
            ⟨some 28, .build (.agg #[(.int .u8 0), (.int .u8 0), (.int .u32 0), (.int .u8 0), (.int .i64 0), (.int .i64 0), (.int .i64 0), (.string ⟨#[]⟩), (.int .u8 0), (.int .u32 0), (.int .u8 0), (.slice none 0 0), (.int .i64 0), (.int .u8 0), (.int .u32 0), (.bool false), (.slice none 0 0)]) [(0, 1, (.const (.int .u8 20))), (16, 1, (.tmp 27))], none, []⟩,
            ⟨none, .store 17 (.tmp 5) (.tmp 28), none, []⟩] false))
          .skip))
        (.seq (.region [⟨some 29, .mov (.tmp 0), none, [1, 2]⟩,
          ⟨some 30, .load 17 true (.tmp 5), none, [0]⟩,
          ⟨some 31, .call (.func 32) [(.tmp 30)], none, [0]⟩,
          ⟨some 32, .call (.tmp 29) [(.tmp 31)], none, []⟩,
          ⟨some 33, .pur (mkO (.unOp .not 4 (.tmp 32)) 4), none, []⟩] false)
        (.cond (.tmp 33)
          .ret
          .skip)))))
      (.region [⟨some 34, .pur (mkO (.binOp .add 3 (.tmp 8) (.const (.int .i64 1)) 3) 3), none, []⟩,
        ⟨some 8, .mov (.tmp 34), none, []⟩] false)))))))
def a38 : AFunc := ⟨35, c38, [], 0⟩

/-- blindstamp/purge.handles -/
def c39 : ACode := .skip
def a39 : AFunc := ⟨0, .ext extHandles, [], 3⟩

/-- blindstamp/blindstampref30.sameNumbers -/
def c40 : ACode :=
  (.seq (.region [⟨some 4, .mov (.const (.bool false)), none, []⟩] false)
  (.seq (.seq (.region [⟨some 6, .mov (.tmp 0), none, [2, 3]⟩,
    ⟨some 7, .len (.tmp 6), none, [2, 3]⟩,
    ⟨some 8, .mov (.tmp 1), none, [0, 1]⟩,
    ⟨some 9, .len (.tmp 8), none, [0, 1]⟩,
    ⟨some 10, .pur (mkO (.binOp .neq 3 (.tmp 7) (.tmp 9) 3) 4), none, []⟩] false)
  (.cond (.tmp 10)
    (.seq (.region [⟨some 4, .mov (.const (.bool false)), none, []⟩] false)
    .ret)
    .skip))
  (.seq (.seq (.region [⟨some 5, .mov (.const (.int .i64 0)), none, []⟩] false)
  (.block 0 (.loop (.seq (.seq (.region [⟨some 11, .mov (.tmp 5), none, [1, 2]⟩,
        ⟨some 12, .mov (.tmp 0), none, [0]⟩,
        ⟨some 13, .len (.tmp 12), none, [0]⟩,
        ⟨some 14, .pur (mkO (.binOp .lss 3 (.tmp 11) (.tmp 13) 3) 4), none, []⟩] false)
      (.cond (.tmp 14)
        .skip
        (.exit 0)))
      (.seq (.block 1 (.seq (.region [⟨some 17, .mov (.tmp 0), none, [1, 4, 5, 6, 7]⟩,
          ⟨some 18, .mov (.tmp 5), none, [0, 4, 5, 6, 7]⟩,
          ⟨some 19, .iad 1 (.tmp 17) (.tmp 18), none, [4, 5, 6, 7]⟩,
          ⟨some 20, .load 1 false (.tmp 19), none, [4, 5, 6, 7]⟩,
          ⟨some 21, .mov (.tmp 1), none, [0, 1, 2, 3, 5]⟩,
          ⟨some 22, .mov (.tmp 5), none, [0, 1, 2, 3, 4]⟩,
          ⟨some 23, .iad 1 (.tmp 21) (.tmp 22), none, [0, 1, 2, 3]⟩,
          ⟨some 24, .load 1 false (.tmp 23), none, [0, 1, 2, 3]⟩,
          ⟨some 25, .pur (mkO (.binOp .neq 3 (.tmp 20) (.tmp 24) 3) 4), none, []⟩] true)
        (.cond (.tmp 25)
          (.seq (.region [⟨some 4, .mov (.const (.bool false)), none, []⟩] false)
          .ret)
          .skip)))
      (.region [⟨some 15, .mov (.tmp 5), none, []⟩,
        ⟨some 16, .pur (mkO (.binOp .add 3 (.tmp 15) (.const (.int .i64 1)) 3) 3), none, []⟩,
        ⟨some 5, .mov (.tmp 16), none, []⟩] false))))))
  (.seq (.region [⟨some 4, .mov (.const (.bool true)), none, []⟩] false)
  .ret))))
def a40 : AFunc := ⟨26, c40, [.tmp 4], 1⟩

/-- slices.IndexFunc[[]blindstamp/api.Event,blindstamp/api.Event] -/
def c41 : ACode :=
  (.seq (.region [⟨some 4, .mov (.const (.int .i64 0)), none, []⟩] false)
  (.seq (.seq (.region [⟨some 6, .mov (.tmp 0), none, [2]⟩,
    ⟨some 7, .len (.tmp 6), none, [2]⟩,
    ⟨some 8, .mov (.const (.int .i64 0)), none, [0, 1]⟩] false)
  (.block 0 (.loop (.seq (.region [⟨some 9, .pur (mkO (.binOp .lss 3 (.tmp 8) (.tmp 7) 3) 0), none, []⟩] false)
      (.seq (.cond (.tmp 9)
        .skip
        (.exit 0))
      (.seq (.block 1 (.seq (.region [⟨some 10, .mov (.tmp 8), none, []⟩,
          ⟨some 5, .mov (.tmp 10), none, []⟩] false)
        (.seq (.region [⟨some 11, .mov (.tmp 1), none, [1, 2, 3, 4]⟩,
          ⟨some 12, .mov (.tmp 0), none, [0, 2]⟩,
          ⟨some 13, .mov (.tmp 5), none, [0, 1]⟩,
          ⟨some 14, .iad 17 (.tmp 12) (.tmp 13), none, [0]⟩,
          ⟨some 15, .load 17 true (.tmp 14), none, [0]⟩,
          ⟨some 16, .call (.tmp 11) [(.tmp 15)], none, []⟩] false)
        (.cond (.tmp 16)
          (.seq (.region [⟨some 17, .mov (.tmp 5), none, []⟩,
            ⟨some 4, .mov (.tmp 17), none, []⟩] false)
          .ret)
          .skip))))
      (.region [⟨some 18, .pur (mkO (.binOp .add 3 (.tmp 8) (.const (.int .i64 1)) 3) 3), none, []⟩,
        ⟨some 8, .mov (.tmp 18), none, []⟩] false)))))))
  (.seq (.region [⟨some 4, .mov (.const (.int .i64 (-1))), none, []⟩] false)
  .ret)))
def a41 : AFunc := ⟨19, c41, [.tmp 4], 1⟩

/-- blindstamp/ids.CheckHandle -/
def c42 : ACode :=
  (.seq (.region [⟨some 1, .box 36 (.tmp 0), none, [1]⟩,
    ⟨some 2, .mov (.const (.int .i64 0)), none, [0]⟩] false)
  (.seq (.region [⟨some 3, .fad 0 (.tmp 1), none, []⟩,
    ⟨some 4, .load 2 true (.tmp 3), none, []⟩,
    ⟨some 5, .call (.func 24) [(.tmp 4)], none, []⟩,
    ⟨some 6, .pur (mkO (.binOp .eql 28 (.tmp 5) (.const (.int .i64 0)) 28) 4), none, []⟩,
    ⟨some 7, .mov (.tmp 6), none, []⟩,
    ⟨some 8, .fad 2 (.tmp 1), some (7, true), []⟩,
    ⟨some 9, .load 1 false (.tmp 8), some (7, true), []⟩,
    ⟨some 10, .pur (mkO (.binOp .lss 5 (.tmp 9) (.const (.int .u8 8)) 5) 4), some (7, true), []⟩,
    ⟨some 11, .pick (.tmp 7) (.tmp 10) (.const (.bool false)), none, []⟩,
    ⟨some 12, .call (.func 50) [(.tmp 11)], none, []⟩,
    ⟨some 2, .mov (.tmp 12), none, []⟩] false)
  .ret))
def a42 : AFunc := ⟨13, c42, [.tmp 2], 1⟩

/-- blindstamp/purge.may$1 -/
def c43 : ACode :=
  (.seq (.region [⟨some 2, .mov (.const (.bool false)), none, []⟩] false)
  (.seq (.region [⟨some 3, .mov (.tmp 0), none, []⟩,
    ⟨some 4, .pur (mkO (.binOp .lss 3 (.tmp 3) (.const (.int .i64 0)) 3) 4), none, []⟩,
    ⟨some 5, .mov (.tmp 4), none, []⟩,
    ⟨some 6, .mov (.tmp 0), some (5, false), []⟩,
    ⟨some 7, .pur (mkO (.binOp .geq 3 (.tmp 6) (.const (.int .i64 16777216)) 3) 4), some (5, false), []⟩,
    ⟨some 8, .pick (.tmp 5) (.const (.bool true)) (.tmp 7), none, []⟩,
    ⟨some 2, .mov (.tmp 8), none, []⟩] false)
  .ret))
def a43 : AFunc := ⟨9, c43, [.tmp 2], 1⟩

/-- slices.ContainsFunc[[]int,int] -/
def c44 : ACode :=
  (.seq (.region [⟨some 4, .mov (.const (.bool false)), none, []⟩] false)
  (.seq (.region [⟨some 5, .mov (.tmp 0), none, [1]⟩,
    ⟨some 6, .mov (.tmp 1), none, [0]⟩,
    ⟨some 7, .call (.func 51) [(.tmp 5), (.tmp 6)], none, []⟩,
    ⟨some 8, .pur (mkO (.binOp .geq 3 (.tmp 7) (.const (.int .i64 0)) 3) 4), none, []⟩,
    ⟨some 4, .mov (.tmp 8), none, []⟩] false)
  .ret))
def a44 : AFunc := ⟨9, c44, [.tmp 4], 1⟩

/-- bytes.Clone -/
def c47 : ACode :=
  (.seq (.region [⟨some 2, .mov (.const (.slice none 0 0)), none, []⟩] false)
  (.seq (.seq (.region [⟨some 3, .mov (.tmp 0), none, []⟩,
    ⟨some 4, .eqnil false 1 (.tmp 3) (mkO (.binOp .eql 37 (.tmp 3) (.const (.slice none 0 0)) 37) 4), none, []⟩] false)
  (.cond (.tmp 4)
    (.seq (.region [⟨some 2, .mov (.const (.slice none 0 0)), none, []⟩] false)
    .ret)
    .skip))
  (.seq (.region [⟨some 5, .bsl 5 1 (.int .u8 0) 0 [], none, [1]⟩,
    ⟨some 6, .mov (.tmp 0), none, [0]⟩,
    ⟨some 7, .app 5 1 1 (.int .u8 0) (.tmp 5) (.tmp 6), none, []⟩,
    ⟨some 2, .mov (.tmp 7), none, []⟩] false)
  .ret)))
def a47 : AFunc := ⟨8, c47, [.tmp 2], 1⟩

/-- slices.Clone[[]int,int] -/
def c48 : ACode :=
  (.seq (.region [⟨some 2, .mov (.const (.slice none 0 0)), none, []⟩] false)
  (.seq (.seq (.region [⟨some 3, .mov (.tmp 0), none, []⟩,
    ⟨some 4, .eqnil false 1 (.tmp 3) (mkO (.binOp .eql 42 (.tmp 3) (.const (.slice none 0 0)) 42) 4), none, []⟩] false)
  (.cond (.tmp 4)
    (.seq (.region [⟨some 2, .mov (.const (.slice none 0 0)), none, []⟩] false)
    .ret)
    .skip))
  (.seq (.region [⟨some 5, .bsl 3 1 (.int .i64 0) 0 [], none, [1]⟩,
    ⟨some 6, .mov (.tmp 0), none, [0]⟩,
    ⟨some 7, .app 3 1 8 (.int .i64 0) (.tmp 5) (.tmp 6), none, []⟩,
    ⟨some 2, .mov (.tmp 7), none, []⟩] false)
  .ret)))
def a48 : AFunc := ⟨8, c48, [.tmp 2], 1⟩

/-- blindstamp/ids.right -/
def c50 : ACode :=
  (.seq (.region [⟨some 2, .mov (.const (.int .i64 0)), none, []⟩] false)
  (.seq (.seq (.region [⟨some 3, .mov (.tmp 0), none, []⟩] false)
  (.cond (.tmp 3)
    (.seq (.region [⟨some 2, .mov (.const (.int .i64 0)), none, []⟩] false)
    .ret)
    .skip))
  (.seq (.region [⟨some 2, .mov (.const (.int .i64 8)), none, []⟩] false)
  .ret)))
def a50 : AFunc := ⟨4, c50, [.tmp 2], 1⟩

/-- slices.IndexFunc[[]int,int] -/
def c51 : ACode :=
  (.seq (.region [⟨some 4, .mov (.const (.int .i64 0)), none, []⟩] false)
  (.seq (.seq (.region [⟨some 6, .mov (.tmp 0), none, [2]⟩,
    ⟨some 7, .len (.tmp 6), none, [2]⟩,
    ⟨some 8, .mov (.const (.int .i64 0)), none, [0, 1]⟩] false)
  (.block 0 (.loop (.seq (.region [⟨some 9, .pur (mkO (.binOp .lss 3 (.tmp 8) (.tmp 7) 3) 0), none, []⟩] false)
      (.seq (.cond (.tmp 9)
        .skip
        (.exit 0))
      (.seq (.block 1 (.seq (.region [⟨some 10, .mov (.tmp 8), none, []⟩,
          ⟨some 5, .mov (.tmp 10), none, []⟩] false)
        (.seq (.region [⟨some 11, .mov (.tmp 1), none, [1, 2, 3, 4]⟩,
          ⟨some 12, .mov (.tmp 0), none, [0, 2]⟩,
          ⟨some 13, .mov (.tmp 5), none, [0, 1]⟩,
          ⟨some 14, .iad 1 (.tmp 12) (.tmp 13), none, [0]⟩,
          ⟨some 15, .load 1 false (.tmp 14), none, [0]⟩,
          ⟨some 16, .call (.tmp 11) [(.tmp 15)], none, []⟩] false)
        (.cond (.tmp 16)
          (.seq (.region [⟨some 17, .mov (.tmp 5), none, []⟩,
            ⟨some 4, .mov (.tmp 17), none, []⟩] false)
          .ret)
          .skip))))
      (.region [⟨some 18, .pur (mkO (.binOp .add 3 (.tmp 8) (.const (.int .i64 1)) 3) 3), none, []⟩,
        ⟨some 8, .mov (.tmp 18), none, []⟩] false)))))))
  (.seq (.region [⟨some 4, .mov (.const (.int .i64 (-1))), none, []⟩] false)
  .ret)))
def a51 : AFunc := ⟨19, c51, [.tmp 4], 1⟩

def tbl : List (Option AFunc) := [none, none, none, none, none, some a5, none, some a7, some a8, some a9, some a10, some a11, some a12, some a13, some a14, some a15, none, none, none, none, none, none, none, some a23, some a24, some a25, some a26, some a27, some a28, some a29, none, none, some a32, none, none, none, none, none, some a38, some a39, some a40, some a41, some a42, some a43, some a44, none, none, some a47, some a48, none, some a50, some a51, none, none, none, none, none, none, none, none, none, none, none, none, none, none, none, none, none, none, none, none, none, none]
theorem tf5 : fsT tbl 5 = some a5 := rfl
theorem tf7 : fsT tbl 7 = some a7 := rfl
theorem tf8 : fsT tbl 8 = some a8 := rfl
theorem tf9 : fsT tbl 9 = some a9 := rfl
theorem tf10 : fsT tbl 10 = some a10 := rfl
theorem tf11 : fsT tbl 11 = some a11 := rfl
theorem tf12 : fsT tbl 12 = some a12 := rfl
theorem tf13 : fsT tbl 13 = some a13 := rfl
theorem tf14 : fsT tbl 14 = some a14 := rfl
theorem tf15 : fsT tbl 15 = some a15 := rfl
theorem tf23 : fsT tbl 23 = some a23 := rfl
theorem tf24 : fsT tbl 24 = some a24 := rfl
theorem tf25 : fsT tbl 25 = some a25 := rfl
theorem tf26 : fsT tbl 26 = some a26 := rfl
theorem tf27 : fsT tbl 27 = some a27 := rfl
theorem tf28 : fsT tbl 28 = some a28 := rfl
theorem tf29 : fsT tbl 29 = some a29 := rfl
theorem tf32 : fsT tbl 32 = some a32 := rfl
theorem tf38 : fsT tbl 38 = some a38 := rfl
theorem tf39 : fsT tbl 39 = some a39 := rfl
theorem tf40 : fsT tbl 40 = some a40 := rfl
theorem tf41 : fsT tbl 41 = some a41 := rfl
theorem tf42 : fsT tbl 42 = some a42 := rfl
theorem tf43 : fsT tbl 43 = some a43 := rfl
theorem tf44 : fsT tbl 44 = some a44 := rfl
theorem tf47 : fsT tbl 47 = some a47 := rfl
theorem tf48 : fsT tbl 48 = some a48 := rfl
theorem tf50 : fsT tbl 50 = some a50 := rfl
theorem tf51 : fsT tbl 51 = some a51 := rfl
end Go.Proofs.YtjbninmklbkklaaDoor
