/-
  The program's functions, as the executor has them: the table.
-/
import Derived.Test.YtidkemgkejbalaaRows
import Derived.Test.YtidkemgkejbalaaEd
set_option linter.unusedSimpArgs false
set_option linter.unusedVariables false
set_option maxRecDepth 100000
namespace Go.Proofs.Ytidkemgkejbalaa
open Go Go.Ax
/-- gosem.cut.init -/
def c2 : ACode :=
  (.region [⟨some 0, .bad "op", none, []⟩] false)
def a2 : AFunc := ⟨1, c2, [], 1⟩

/-- blindstamp/blindstamplaw08.FrameTurns -/
def c3 : ACode :=
  (.seq (.region [⟨some 6, .box 23 (.tmp 2), none, [1]⟩,
    ⟨some 8, .mov (.const (.bool false)), none, [0]⟩] false)
  (.seq (.region [⟨some 13, .call (.func 4) [], none, []⟩,
    ⟨some 9, .mov (.tmp 13), none, []⟩] false)
  (.seq (.seq (.region [⟨some 14, .mov (.tmp 0), none, []⟩,
    ⟨some 15, .len (.tmp 14), none, []⟩,
    ⟨some 16, .pur (mkO (.binOp .gtr 3 (.tmp 15) (.const (.int .i64 1000)) 3) 4), none, []⟩,
    ⟨some 17, .mov (.tmp 16), none, []⟩,
    ⟨some 18, .mov (.tmp 3), some (17, false), []⟩,
    ⟨some 19, .len (.tmp 18), some (17, false), []⟩,
    ⟨some 20, .pur (mkO (.binOp .gtr 3 (.tmp 19) (.const (.int .i64 1000)) 3) 4), some (17, false), []⟩,
    ⟨some 21, .pick (.tmp 17) (.const (.bool true)) (.tmp 20), none, []⟩,
    ⟨some 22, .mov (.tmp 21), none, []⟩,
    ⟨some 23, .mov (.tmp 9), some (22, false), []⟩,
    ⟨some 24, .pur (mkO (.unOp .not 4 (.tmp 23)) 4), some (22, false), []⟩,
    ⟨some 25, .pick (.tmp 22) (.const (.bool true)) (.tmp 24), none, []⟩] false)
  (.cond (.tmp 25)
    (.seq (.region [⟨some 26, .mov (.tmp 9), none, []⟩,
      ⟨some 8, .mov (.tmp 26), none, []⟩] false)
    .ret)
    .skip))
  (.seq (.region [⟨some 28, .mov (.tmp 0), none, []⟩,
    ⟨some 29, .call (.func 5) [(.tmp 28)], none, []⟩,
    ⟨some 27, .mov (.tmp 29), none, []⟩,
    ⟨some 30, .ext (.tmp 27) 0, none, [4]⟩,
    ⟨some 31, .ext (.tmp 27) 1, none, [3, 5]⟩,
    ⟨some 10, .mov (.tmp 30), none, [4]⟩,
    ⟨some 11, .mov (.tmp 31), none, []⟩] false)
  (.seq (.seq (.region [⟨some 32, .mov (.tmp 11), none, []⟩,
    ⟨some 33, .pur (mkO (.binOp .neq 25 (.tmp 32) (.const (.int .i64 0)) 25) 4), none, []⟩,
    ⟨some 34, .mov (.tmp 33), none, []⟩,
    ⟨some 35, .mov (.tmp 3), some (34, false), []⟩,
    ⟨some 36, .len (.tmp 35), some (34, false), []⟩,
    ⟨some 37, .pur (mkO (.binOp .gtr 3 (.tmp 36) (.const (.int .i64 0)) 3) 4), some (34, false), []⟩,
    ⟨some 38, .mov (.tmp 37), some (34, false), []⟩,
    ⟨some 39, .mov (.tmp 10), some (38, true), [9]⟩,
    ⟨some 40, .app 5 1 1 (.int .u8 0) (.const (.slice none 0 0)) (.tmp 39), some (38, true), [9]⟩,
    ⟨some 41, .mov (.tmp 3), some (38, true), [7, 8]⟩,
    ⟨some 42, .app 5 1 1 (.int .u8 0) (.tmp 40) (.tmp 41), some (38, true), []⟩,
    ⟨some 43, .call (.func 6) [(.tmp 42)], some (38, true), []⟩,
    ⟨some 44, .pur (mkO (.unOp .not 4 (.tmp 43)) 4), some (38, true), []⟩,
    ⟨some 45, .pick (.tmp 38) (.tmp 44) (.const (.bool false)), some (34, false), []⟩,
    ⟨some 46, .pick (.tmp 34) (.const (.bool true)) (.tmp 45), none, []⟩] false)
  (.cond (.tmp 46)
    (.seq (.region [⟨some 8, .mov (.const (.bool false)), none, []⟩] false)
    .ret)
    .skip))
  (.seq (.seq (.region [⟨some 47, .mov (.tmp 1), none, []⟩,
    ⟨some 48, .pur (mkO (.binOp .lss 3 (.tmp 47) (.const (.int .i64 0)) 3) 4), none, []⟩,
    ⟨some 49, .mov (.tmp 48), none, []⟩,
    ⟨some 50, .mov (.tmp 1), some (49, false), [4, 5, 6]⟩,
    ⟨some 51, .mov (.tmp 10), some (49, false), [3]⟩,
    ⟨some 52, .len (.tmp 51), some (49, false), [3]⟩,
    ⟨some 53, .pur (mkO (.binOp .sub 3 (.tmp 52) (.const (.int .i64 3)) 3) 3), some (49, false), [3]⟩,
    ⟨some 54, .pur (mkO (.binOp .gtr 3 (.tmp 50) (.tmp 53) 3) 4), some (49, false), []⟩,
    ⟨some 55, .pick (.tmp 49) (.const (.bool true)) (.tmp 54), none, []⟩] false)
  (.cond (.tmp 55)
    (.seq (.region [⟨some 56, .mov (.tmp 9), none, []⟩,
      ⟨some 8, .mov (.tmp 56), none, []⟩] false)
    .ret)
    .skip))
  (.seq (.seq (.region [⟨some 57, .mov (.tmp 10), none, [1]⟩,
    ⟨some 58, .mov (.tmp 1), none, [0]⟩,
    ⟨some 59, .slc 1 (.tmp 57) none (some (.tmp 58)) none, none, []⟩,
    ⟨some 60, .call (.func 6) [(.tmp 59)], none, []⟩,
    ⟨some 61, .pur (mkO (.unOp .not 4 (.tmp 60)) 4), none, []⟩] false)
  (.cond (.tmp 61)
    (.seq (.region [⟨some 8, .mov (.const (.bool false)), none, []⟩] false)
    .ret)
    .skip))
  (.seq (.seq (.region [⟨some 12, .mov (.const (.int .i64 0)), none, []⟩] false)
  (.block 0 (.loop (.seq (.seq (.region [⟨some 62, .mov (.tmp 12), none, []⟩,
        ⟨some 63, .pur (mkO (.binOp .lss 3 (.tmp 62) (.const (.int .i64 3)) 3) 4), none, []⟩] false)
      (.cond (.tmp 63)
        .skip
        (.exit 0)))
      (.seq (.block 1 (.region [⟨some 66, .mov (.tmp 10), none, [1, 2, 3, 4, 5, 6, 7, 8, 9, 10, 11, 12, 13]⟩,
          ⟨some 67, .mov (.tmp 1), none, [0, 2, 4, 5, 6, 7, 8, 9, 10, 11, 12, 13]⟩,
          ⟨some 68, .mov (.tmp 12), none, [0, 1, 4, 5, 6, 7, 8, 9, 10, 11, 12, 13]⟩,
          ⟨some 69, .pur (mkO (.binOp .add 3 (.tmp 67) (.tmp 68) 3) 3), none, [0, 4, 5, 6, 7, 8, 9, 10, 11, 12, 13]⟩,
          ⟨some 70, .mov (.tmp 10), none, [0, 1, 2, 3, 5, 6, 7, 10, 11, 12]⟩,
          ⟨some 71, .mov (.tmp 1), none, [0, 1, 2, 3, 4, 6, 10, 11, 12]⟩,
          ⟨some 72, .mov (.tmp 12), none, [0, 1, 2, 3, 4, 5, 10, 11, 12]⟩,
          ⟨some 73, .pur (mkO (.binOp .add 3 (.tmp 71) (.tmp 72) 3) 3), none, [0, 1, 2, 3, 4, 10, 11, 12]⟩,
          ⟨some 74, .iad 1 (.tmp 70) (.tmp 73), none, [0, 1, 2, 3, 10, 11, 12]⟩,
          ⟨some 75, .load 1 false (.tmp 74), none, [0, 1, 2, 3, 10, 11, 12]⟩,
          ⟨some 76, .mov (.tmp 12), none, [0, 1, 2, 3, 4, 5, 6, 7, 8, 9]⟩,
          ⟨some 77, .ida 3 1 (.tmp 6) (.tmp 76), none, [0, 1, 2, 3, 4, 5, 6, 7, 8, 9]⟩,
          ⟨some 78, .load 1 false (.tmp 77), none, [0, 1, 2, 3, 4, 5, 6, 7, 8, 9]⟩,
          ⟨some 79, .pur (mkO (.binOp .xor 5 (.tmp 75) (.tmp 78) 5) 5), none, [0, 1, 2, 3]⟩,
          ⟨some 80, .iad 1 (.tmp 66) (.tmp 69), none, []⟩,
          ⟨none, .store 1 (.tmp 80) (.tmp 79), none, []⟩] true))
      (.region [⟨some 64, .mov (.tmp 12), none, []⟩,
        ⟨some 65, .pur (mkO (.binOp .add 3 (.tmp 64) (.const (.int .i64 1)) 3) 3), none, []⟩,
        ⟨some 12, .mov (.tmp 65), none, []⟩] false))))))
  (.seq (.region [⟨some 81, .mov (.tmp 9), none, []⟩,
    ⟨some 82, .mov (.tmp 81), none, []⟩,
    ⟨some 83, .mov (.tmp 10), some (82, true), [4, 5, 6]⟩,
    ⟨some 84, .call (.func 6) [(.tmp 83)], some (82, true), [4, 5, 6]⟩,
    ⟨some 85, .load 3 true (.tmp 6), some (82, true), [2, 3, 5]⟩,
    ⟨some 86, .build (.agg #[(.int .u8 0), (.int .u8 0), (.int .u8 0)]) [], some (82, true), [2, 3, 4]⟩,
    ⟨some 87, .pur (mkO (.binOp .neq 23 (.tmp 85) (.tmp 86) 23) 4), some (82, true), [2, 3]⟩,
    ⟨some 88, .pur (mkO (.binOp .eql 4 (.tmp 84) (.tmp 87) 4) 4), some (82, true), []⟩,
    ⟨some 89, .pick (.tmp 82) (.tmp 88) (.const (.bool false)), none, []⟩,
    ⟨some 8, .mov (.tmp 89), none, []⟩] true)
  .ret)))))))))
def a3 : AFunc := ⟨90, c3, [.tmp 8], 1⟩

/-- blindstamp/blindstamplaw08.alive -/
def c4 : ACode :=
  (.seq (.region [⟨some 0, .mov (.const (.bool false)), none, []⟩] false)
  (.seq (.region [⟨some 6, .bsl 5 1 (.int .u8 0) 2 [(0, 1, (.const (.int .u8 97))), (1, 1, (.const (.int .u8 98)))], none, []⟩,
    ⟨some 7, .mrk (.tmp 6), none, []⟩,
    ⟨some 8, .call (.func 5) [(.tmp 7)], none, []⟩,
    ⟨some 5, .mov (.tmp 8), none, []⟩,
    ⟨some 9, .ext (.tmp 5) 0, none, [5]⟩,
    ⟨some 10, .ext (.tmp 5) 1, none, [4, 6]⟩,
    ⟨some 1, .mov (.tmp 9), none, [5]⟩,
    ⟨some 2, .mov (.tmp 10), none, []⟩] false)
  (.seq (.region [⟨some 12, .mov (.tmp 1), none, []⟩,
    ⟨some 13, .call (.func 7) [(.tmp 12)], none, []⟩,
    ⟨some 11, .mov (.tmp 13), none, []⟩,
    ⟨some 14, .ext (.tmp 11) 0, none, [4]⟩,
    ⟨some 15, .ext (.tmp 11) 1, none, [3, 5]⟩,
    ⟨some 3, .mov (.tmp 14), none, [4]⟩,
    ⟨some 4, .mov (.tmp 15), none, []⟩] false)
  (.seq (.region [⟨some 16, .mov (.tmp 2), none, []⟩,
    ⟨some 17, .pur (mkO (.binOp .eql 25 (.tmp 16) (.const (.int .i64 0)) 25) 4), none, []⟩,
    ⟨some 18, .mov (.tmp 17), none, []⟩,
    ⟨some 19, .mov (.tmp 1), some (18, true), []⟩,
    ⟨some 20, .len (.tmp 19), some (18, true), []⟩,
    ⟨some 21, .pur (mkO (.binOp .eql 3 (.tmp 20) (.const (.int .i64 64)) 3) 4), some (18, true), []⟩,
    ⟨some 22, .pick (.tmp 18) (.tmp 21) (.const (.bool false)), none, []⟩,
    ⟨some 23, .mov (.tmp 22), none, []⟩,
    ⟨some 24, .mov (.tmp 1), some (23, true), []⟩,
    ⟨some 25, .slc 1 (.tmp 24) none (some (.const (.int .i64 4))) none, some (23, true), []⟩,
    ⟨some 26, .b2s (.tmp 25), some (23, true), []⟩,
    ⟨some 27, .pur (mkO (.binOp .eql 9 (.tmp 26) (.const (.string ⟨#[181, 2, 97, 98]⟩)) 9) 4), some (23, true), []⟩,
    ⟨some 28, .pick (.tmp 23) (.tmp 27) (.const (.bool false)), none, []⟩,
    ⟨some 29, .mov (.tmp 28), none, []⟩,
    ⟨some 30, .mov (.tmp 4), some (29, true), []⟩,
    ⟨some 31, .pur (mkO (.binOp .eql 25 (.tmp 30) (.const (.int .i64 0)) 25) 4), some (29, true), []⟩,
    ⟨some 32, .pick (.tmp 29) (.tmp 31) (.const (.bool false)), none, []⟩,
    ⟨some 33, .mov (.tmp 32), none, []⟩,
    ⟨some 34, .mov (.tmp 3), some (33, true), []⟩,
    ⟨some 35, .b2s (.tmp 34), some (33, true), []⟩,
    ⟨some 36, .pur (mkO (.binOp .eql 9 (.tmp 35) (.const (.string ⟨#[97, 98]⟩)) 9) 4), some (33, true), []⟩,
    ⟨some 37, .pick (.tmp 33) (.tmp 36) (.const (.bool false)), none, []⟩,
    ⟨some 0, .mov (.tmp 37), none, []⟩] false)
  .ret))))
def a4 : AFunc := ⟨38, c4, [.tmp 0], 1⟩

/-- blindstamp/frame.Seal -/
def c5 : ACode :=
  (.seq (.region [⟨some 2, .mov (.const (.slice none 0 0)), none, []⟩,
    ⟨some 3, .mov (.const (.int .i64 0)), none, []⟩] false)
  (.seq (.region [⟨some 10, .mov (.tmp 0), none, []⟩,
    ⟨some 11, .len (.tmp 10), none, []⟩,
    ⟨some 12, .call (.func 8) [(.tmp 11)], none, []⟩,
    ⟨some 9, .mov (.tmp 12), none, []⟩,
    ⟨some 13, .ext (.tmp 9) 0, none, [5]⟩,
    ⟨some 14, .ext (.tmp 9) 1, none, [4, 6]⟩,
    ⟨some 4, .mov (.tmp 13), none, [5]⟩,
    ⟨some 5, .mov (.tmp 14), none, []⟩] false)
  (.seq (.seq (.region [⟨some 15, .mov (.tmp 5), none, []⟩,
    ⟨some 16, .pur (mkO (.binOp .neq 25 (.tmp 15) (.const (.int .i64 0)) 25) 4), none, []⟩] false)
  (.cond (.tmp 16)
    (.seq (.region [⟨some 17, .mov (.tmp 5), none, [1]⟩,
      ⟨some 2, .mov (.const (.slice none 0 0)), none, [0]⟩,
      ⟨some 3, .mov (.tmp 17), none, []⟩] false)
    .ret)
    .skip))
  (.seq (.region [⟨some 19, .mov (.tmp 0), none, []⟩,
    ⟨some 20, .len (.tmp 19), none, []⟩,
    ⟨some 21, .call (.func 9) [(.tmp 20)], none, []⟩,
    ⟨some 18, .mov (.tmp 21), none, []⟩,
    ⟨some 22, .ext (.tmp 18) 0, none, [5]⟩,
    ⟨some 23, .ext (.tmp 18) 1, none, [4, 6]⟩,
    ⟨some 6, .mov (.tmp 22), none, [5]⟩,
    ⟨some 5, .mov (.tmp 23), none, []⟩] false)
  (.seq (.region [⟨some 24, .bsl 5 1 (.int .u8 0) 1 [(0, 1, (.const (.int .u8 181)))], none, [1]⟩,
    ⟨some 25, .mov (.tmp 6), none, [0]⟩,
    ⟨some 26, .app 5 1 1 (.int .u8 0) (.tmp 24) (.tmp 25), none, []⟩,
    ⟨some 7, .mov (.tmp 26), none, []⟩] false)
  (.seq (.region [⟨some 27, .mov (.tmp 7), none, []⟩,
    ⟨some 28, .len (.tmp 27), none, []⟩,
    ⟨some 8, .mov (.tmp 28), none, []⟩] false)
  (.seq (.region [⟨some 29, .mov (.tmp 7), none, [1, 2, 3, 4]⟩,
    ⟨some 30, .mov (.tmp 4), none, [0, 3]⟩,
    ⟨some 31, .pur (mkO (.binOp .sub 3 (.tmp 30) (.const (.int .i64 3)) 3) 3), none, [0, 3]⟩,
    ⟨some 32, .mov (.tmp 8), none, [0, 1, 2]⟩,
    ⟨some 33, .pur (mkO (.binOp .sub 3 (.tmp 31) (.tmp 32) 3) 3), none, [0]⟩,
    ⟨some 34, .appz 5 1 1 (.int .u8 0) (.tmp 29) (.tmp 33), none, []⟩,
    ⟨some 7, .mov (.tmp 34), none, []⟩] false)
  (.seq (.region [⟨some 35, .mov (.tmp 7), none, [1, 3]⟩,
    ⟨some 36, .mov (.tmp 8), none, [0, 3]⟩,
    ⟨some 37, .slc 1 (.tmp 35) (some (.tmp 36)) none none, none, [3]⟩,
    ⟨some 38, .mov (.tmp 0), none, [0, 1, 2]⟩,
    ⟨some 39, .cpy 1 (.tmp 37) (.tmp 38), none, []⟩] false)
  (.seq (.region [⟨some 40, .mov (.tmp 7), none, [1, 2, 3, 5]⟩,
    ⟨some 41, .mov (.tmp 7), none, [0, 5]⟩,
    ⟨some 42, .call (.func 11) [(.tmp 41)], none, [0, 5]⟩,
    ⟨some 43, .call (.func 10) [(.tmp 42)], none, [0, 5]⟩,
    ⟨some 44, .app 5 1 1 (.int .u8 0) (.tmp 40) (.tmp 43), none, [5]⟩,
    ⟨some 45, .mov (.tmp 5), none, [0, 1, 2, 3, 4, 6]⟩,
    ⟨some 2, .mov (.tmp 44), none, [5]⟩,
    ⟨some 3, .mov (.tmp 45), none, []⟩] false)
  .ret)))))))))
def a5 : AFunc := ⟨46, c5, [.tmp 2, .tmp 3], 0⟩

/-- blindstamp/blindstamplaw08.none -/
def c6 : ACode :=
  (.seq (.region [⟨some 2, .mov (.const (.bool false)), none, []⟩] false)
  (.seq (.region [⟨some 6, .mov (.tmp 0), none, []⟩,
    ⟨some 7, .call (.func 7) [(.tmp 6)], none, []⟩,
    ⟨some 5, .mov (.tmp 7), none, []⟩,
    ⟨some 8, .ext (.tmp 5) 0, none, [4]⟩,
    ⟨some 9, .ext (.tmp 5) 1, none, [3, 5]⟩,
    ⟨some 3, .mov (.tmp 8), none, [4]⟩,
    ⟨some 4, .mov (.tmp 9), none, []⟩] false)
  (.seq (.region [⟨some 10, .mov (.tmp 4), none, []⟩,
    ⟨some 11, .pur (mkO (.binOp .eql 25 (.tmp 10) (.const (.int .i64 80)) 25) 4), none, []⟩,
    ⟨some 12, .mov (.tmp 11), none, []⟩,
    ⟨some 13, .mov (.tmp 3), some (12, true), []⟩,
    ⟨some 14, .len (.tmp 13), some (12, true), []⟩,
    ⟨some 15, .pur (mkO (.binOp .eql 3 (.tmp 14) (.const (.int .i64 0)) 3) 4), some (12, true), []⟩,
    ⟨some 16, .pick (.tmp 12) (.tmp 15) (.const (.bool false)), none, []⟩,
    ⟨some 2, .mov (.tmp 16), none, []⟩] false)
  .ret)))
def a6 : AFunc := ⟨17, c6, [.tmp 2], 2⟩

/-- blindstamp/frame.Open -/
def c7 : ACode :=
  (.seq (.region [⟨some 2, .mov (.const (.slice none 0 0)), none, []⟩,
    ⟨some 3, .mov (.const (.int .i64 0)), none, []⟩] false)
  (.seq (.seq (.region [⟨some 10, .mov (.tmp 0), none, []⟩,
    ⟨some 11, .len (.tmp 10), none, []⟩,
    ⟨some 12, .pur (mkO (.binOp .lss 3 (.tmp 11) (.const (.int .i64 4)) 3) 4), none, []⟩,
    ⟨some 13, .mov (.tmp 12), none, []⟩,
    ⟨some 14, .mov (.tmp 0), some (13, false), []⟩,
    ⟨some 15, .call (.func 12) [(.tmp 14)], some (13, false), []⟩,
    ⟨some 16, .pur (mkO (.unOp .not 4 (.tmp 15)) 4), some (13, false), []⟩,
    ⟨some 17, .pick (.tmp 13) (.const (.bool true)) (.tmp 16), none, []⟩] false)
  (.cond (.tmp 17)
    (.seq (.region [⟨some 2, .mov (.const (.slice none 0 0)), none, []⟩,
      ⟨some 3, .mov (.const (.int .i64 80)), none, []⟩] false)
    .ret)
    .skip))
  (.seq (.region [⟨some 19, .mov (.tmp 0), none, []⟩,
    ⟨some 20, .slc 1 (.tmp 19) (some (.const (.int .i64 1))) none none, none, []⟩,
    ⟨some 21, .call (.func 13) [(.tmp 20)], none, []⟩,
    ⟨some 18, .mov (.tmp 21), none, []⟩,
    ⟨some 22, .ext (.tmp 18) 0, none, [5, 6]⟩,
    ⟨some 23, .ext (.tmp 18) 1, none, [4, 6, 7]⟩,
    ⟨some 24, .ext (.tmp 18) 2, none, [4, 5, 7, 8]⟩,
    ⟨some 4, .mov (.tmp 22), none, [5, 6]⟩,
    ⟨some 5, .mov (.tmp 23), none, [6]⟩,
    ⟨some 6, .mov (.tmp 24), none, []⟩] false)
  (.seq (.seq (.region [⟨some 25, .mov (.tmp 6), none, []⟩,
    ⟨some 26, .pur (mkO (.binOp .neq 25 (.tmp 25) (.const (.int .i64 0)) 25) 4), none, []⟩,
    ⟨some 27, .mov (.tmp 26), none, []⟩,
    ⟨some 28, .mov (.tmp 4), some (27, false), [4, 5, 6, 7, 8, 9]⟩,
    ⟨some 29, .mov (.tmp 0), some (27, false), [3, 7]⟩,
    ⟨some 30, .len (.tmp 29), some (27, false), [3, 7]⟩,
    ⟨some 31, .pur (mkO (.binOp .sub 3 (.tmp 30) (.const (.int .i64 1)) 3) 3), some (27, false), [3, 7]⟩,
    ⟨some 32, .mov (.tmp 5), some (27, false), [3, 4, 5, 6]⟩,
    ⟨some 33, .pur (mkO (.binOp .sub 3 (.tmp 31) (.tmp 32) 3) 3), some (27, false), [3]⟩,
    ⟨some 34, .pur (mkO (.binOp .sub 3 (.tmp 33) (.const (.int .i64 3)) 3) 3), some (27, false), [3]⟩,
    ⟨some 35, .pur (mkO (.binOp .gtr 3 (.tmp 28) (.tmp 34) 3) 4), some (27, false), []⟩,
    ⟨some 36, .pick (.tmp 27) (.const (.bool true)) (.tmp 35), none, []⟩] false)
  (.cond (.tmp 36)
    (.seq (.region [⟨some 2, .mov (.const (.slice none 0 0)), none, []⟩,
      ⟨some 3, .mov (.const (.int .i64 80)), none, []⟩] false)
    .ret)
    .skip))
  (.seq (.region [⟨some 37, .mov (.tmp 0), none, [1, 2, 3, 4, 5, 6]⟩,
    ⟨some 38, .mov (.tmp 5), none, [0, 3, 4, 5, 6]⟩,
    ⟨some 39, .pur (mkO (.binOp .add 3 (.const (.int .i64 1)) (.tmp 38) 3) 3), none, [0, 3, 4, 5, 6]⟩,
    ⟨some 40, .mov (.tmp 5), none, [0, 1, 2, 5]⟩,
    ⟨some 41, .pur (mkO (.binOp .add 3 (.const (.int .i64 1)) (.tmp 40) 3) 3), none, [0, 1, 2, 5]⟩,
    ⟨some 42, .mov (.tmp 4), none, [0, 1, 2, 3, 4]⟩,
    ⟨some 43, .pur (mkO (.binOp .add 3 (.tmp 41) (.tmp 42) 3) 3), none, [0, 1, 2]⟩,
    ⟨some 44, .slc 1 (.tmp 37) (some (.tmp 39)) (some (.tmp 43)) none, none, []⟩,
    ⟨some 45, .call (.func 14) [(.tmp 44)], none, []⟩,
    ⟨some 7, .mov (.tmp 45), none, []⟩] false)
  (.seq (.seq (.region [⟨some 47, .mov (.tmp 7), none, []⟩,
    ⟨some 48, .call (.func 5) [(.tmp 47)], none, []⟩,
    ⟨some 46, .mov (.tmp 48), none, []⟩,
    ⟨some 49, .ext (.tmp 46) 0, none, [4]⟩,
    ⟨some 50, .ext (.tmp 46) 1, none, [3, 5]⟩,
    ⟨some 8, .mov (.tmp 49), none, [4]⟩,
    ⟨some 9, .mov (.tmp 50), none, []⟩] false)
  (.seq (.region [⟨some 51, .mov (.tmp 9), none, []⟩,
    ⟨some 52, .pur (mkO (.binOp .neq 25 (.tmp 51) (.const (.int .i64 0)) 25) 4), none, []⟩,
    ⟨some 53, .mov (.tmp 52), none, []⟩,
    ⟨some 54, .mov (.tmp 8), some (53, false), [4]⟩,
    ⟨some 55, .mov (.tmp 0), some (53, false), [3]⟩,
    ⟨some 56, .call (.func 15) [(.tmp 54), (.tmp 55)], some (53, false), []⟩,
    ⟨some 57, .pur (mkO (.unOp .not 4 (.tmp 56)) 4), some (53, false), []⟩,
    ⟨some 58, .pick (.tmp 53) (.const (.bool true)) (.tmp 57), none, []⟩] false)
  (.cond (.tmp 58)
    (.seq (.region [⟨some 2, .mov (.const (.slice none 0 0)), none, []⟩,
      ⟨some 3, .mov (.const (.int .i64 80)), none, []⟩] false)
    .ret)
    .skip)))
  (.seq (.region [⟨some 59, .mov (.tmp 7), none, []⟩,
    ⟨some 2, .mov (.tmp 59), none, []⟩,
    ⟨some 3, .mov (.const (.int .i64 0)), none, []⟩] false)
  .ret)))))))
def a7 : AFunc := ⟨60, c7, [.tmp 2, .tmp 3], 1⟩

/-- blindstamp/frame.Class -/
def c8 : ACode :=
  (.seq (.region [⟨some 2, .mov (.const (.int .i64 0)), none, []⟩,
    ⟨some 3, .mov (.const (.int .i64 0)), none, []⟩] false)
  (.seq (.seq (.region [⟨some 6, .mov (.tmp 0), none, []⟩,
    ⟨some 7, .pur (mkO (.binOp .lss 3 (.tmp 6) (.const (.int .i64 0)) 3) 4), none, []⟩,
    ⟨some 8, .mov (.tmp 7), none, []⟩,
    ⟨some 9, .mov (.tmp 0), some (8, false), []⟩,
    ⟨some 10, .pur (mkO (.binOp .gtr 3 (.tmp 9) (.const (.int .i64 1000)) 3) 4), some (8, false), []⟩,
    ⟨some 11, .pick (.tmp 8) (.const (.bool true)) (.tmp 10), none, []⟩] false)
  (.cond (.tmp 11)
    (.seq (.region [⟨some 2, .mov (.const (.int .i64 0)), none, []⟩,
      ⟨some 3, .mov (.const (.int .i64 4)), none, []⟩] false)
    .ret)
    .skip))
  (.seq (.region [⟨some 12, .call (.func 16) [], none, [1]⟩,
    ⟨some 4, .alloc 40 (.agg #[(.int .i64 0), (.int .i64 0), (.int .i64 0)]), none, [0]⟩,
    ⟨none, .store 3 (.tmp 4) (.tmp 12), none, []⟩] false)
  (.seq (.seq (.region [⟨some 13, .mov (.const (.int .i64 0)), none, []⟩] false)
  (.block 0 (.loop (.seq (.region [⟨some 14, .pur (mkO (.binOp .lss 3 (.tmp 13) (.const (.int .i64 3)) 3) 4), none, []⟩] false)
      (.seq (.cond (.tmp 14)
        .skip
        (.exit 0))
      (.seq (.block 1 (.seq (.region [⟨some 15, .mov (.tmp 13), none, []⟩,
          ⟨some 5, .mov (.tmp 15), none, []⟩] false)
        (.seq (.region [⟨some 16, .mov (.tmp 0), none, [3, 6, 7, 8]⟩,
          ⟨some 17, .call (.func 17) [(.tmp 16)], none, [3, 6, 7, 8]⟩,
          ⟨some 18, .pur (mkO (.binOp .add 3 (.const (.int .i64 1)) (.tmp 17) 3) 3), none, [3, 6, 7, 8]⟩,
          ⟨some 19, .mov (.tmp 0), none, [0, 1, 2, 6, 7, 8]⟩,
          ⟨some 20, .pur (mkO (.binOp .add 3 (.tmp 18) (.tmp 19) 3) 3), none, [6, 7, 8]⟩,
          ⟨some 21, .pur (mkO (.binOp .add 3 (.tmp 20) (.const (.int .i64 3)) 3) 3), none, [6, 7, 8]⟩,
          ⟨some 22, .mov (.tmp 5), none, [0, 1, 2, 3, 4, 5]⟩,
          ⟨some 23, .ida 3 1 (.tmp 4) (.tmp 22), none, [0, 1, 2, 3, 4, 5]⟩,
          ⟨some 24, .load 1 false (.tmp 23), none, [0, 1, 2, 3, 4, 5]⟩,
          ⟨some 25, .pur (mkO (.binOp .leq 3 (.tmp 21) (.tmp 24) 3) 4), none, []⟩] true)
        (.cond (.tmp 25)
          (.seq (.region [⟨some 26, .mov (.tmp 5), none, []⟩,
            ⟨some 27, .ida 3 1 (.tmp 4) (.tmp 26), none, []⟩,
            ⟨some 28, .load 1 false (.tmp 27), none, []⟩,
            ⟨some 2, .mov (.tmp 28), none, []⟩,
            ⟨some 3, .mov (.const (.int .i64 0)), none, []⟩] false)
          .ret)
          .skip))))
      (.region [⟨some 29, .pur (mkO (.binOp .add 3 (.tmp 13) (.const (.int .i64 1)) 3) 3), none, []⟩,
        ⟨some 13, .mov (.tmp 29), none, []⟩] false)))))))
  (.seq (.region [⟨some 2, .mov (.const (.int .i64 0)), none, []⟩,
    ⟨some 3, .mov (.const (.int .i64 4)), none, []⟩] false)
  .ret)))))
def a8 : AFunc := ⟨30, c8, [.tmp 2, .tmp 3], 1⟩

/-- blindstamp/num.Put -/
def c9 : ACode :=
  (.seq (.region [⟨some 2, .mov (.const (.slice none 0 0)), none, []⟩,
    ⟨some 3, .mov (.const (.int .i64 0)), none, []⟩] false)
  (.seq (.region [⟨some 7, .mov (.tmp 0), none, []⟩,
    ⟨some 8, .call (.func 17) [(.tmp 7)], none, []⟩,
    ⟨some 9, .pur (mkO (.binOp .sub 3 (.tmp 8) (.const (.int .i64 1)) 3) 3), none, []⟩,
    ⟨some 4, .mov (.tmp 9), none, []⟩] false)
  (.block 0 (.seq (.region [⟨some 37, .mov (.tmp 4), none, []⟩,
      ⟨some 38, .pur (mkO (.binOp .lss 3 (.tmp 37) (.const (.int .i64 0)) 3) 4), none, []⟩,
      ⟨some 36, .mov (.tmp 38), none, []⟩] false)
    (.cond (.tmp 36)
      (.seq (.region [⟨some 2, .mov (.const (.slice none 0 0)), none, []⟩,
        ⟨some 3, .mov (.const (.int .i64 2)), none, []⟩] false)
      .ret)
      (.seq (.region [⟨some 40, .mov (.tmp 4), none, []⟩,
        ⟨some 41, .pur (mkO (.binOp .eql 3 (.tmp 40) (.const (.int .i64 0)) 3) 4), none, []⟩,
        ⟨some 39, .mov (.tmp 41), none, []⟩] false)
      (.cond (.tmp 39)
        (.seq (.region [⟨some 42, .mov (.tmp 0), none, []⟩,
          ⟨some 43, .pur (mkO (.convert 3 5 (.tmp 42)) 5), none, []⟩,
          ⟨some 44, .bsl 5 1 (.int .u8 0) 1 [(0, 1, (.tmp 43))], none, []⟩,
          ⟨some 2, .mov (.tmp 44), none, []⟩,
          ⟨some 3, .mov (.const (.int .i64 0)), none, []⟩] false)
        .ret)
        (.seq (.region [⟨some 10, .mov (.tmp 4), none, []⟩,
          ⟨some 11, .mksl 5 1 1 (.int .u8 0) (.tmp 10) (.tmp 10), none, []⟩,
          ⟨some 5, .mov (.tmp 11), none, []⟩] false)
        (.seq (.seq (.region [⟨some 12, .mov (.tmp 5), none, [2]⟩,
          ⟨some 13, .len (.tmp 12), none, [2]⟩,
          ⟨some 14, .mov (.const (.int .i64 0)), none, [0, 1]⟩] false)
        (.block 1 (.loop (.seq (.region [⟨some 15, .pur (mkO (.binOp .lss 3 (.tmp 14) (.tmp 13) 3) 0), none, []⟩] false)
            (.seq (.cond (.tmp 15)
              .skip
              (.exit 1))
            (.seq (.block 2 (.seq (.region [⟨some 16, .mov (.tmp 14), none, []⟩,
                ⟨some 6, .mov (.tmp 16), none, []⟩] false)
              (.region [⟨some 17, .mov (.tmp 5), none, [1, 2, 3, 4, 5, 6, 7, 8, 9]⟩,
                ⟨some 18, .mov (.tmp 4), none, [0, 3, 5, 6, 7, 8, 9]⟩,
                ⟨some 19, .pur (mkO (.binOp .sub 3 (.tmp 18) (.const (.int .i64 1)) 3) 3), none, [0, 3, 5, 6, 7, 8, 9]⟩,
                ⟨some 20, .mov (.tmp 6), none, [0, 1, 2, 5, 6, 7, 8, 9]⟩,
                ⟨some 21, .pur (mkO (.binOp .sub 3 (.tmp 19) (.tmp 20) 3) 3), none, [0, 5, 6, 7, 8, 9]⟩,
                ⟨some 22, .mov (.tmp 0), none, [0, 1, 2, 3, 4, 6, 7]⟩,
                ⟨some 23, .mov (.tmp 6), none, [0, 1, 2, 3, 4, 5]⟩,
                ⟨some 24, .pur (mkO (.binOp .mul 3 (.const (.int .i64 8)) (.tmp 23) 3) 3), none, [0, 1, 2, 3, 4, 5]⟩,
                ⟨some 25, .pur (mkO (.binOp .shr 3 (.tmp 22) (.tmp 24) 3) 3), none, [0, 1, 2, 3, 4]⟩,
                ⟨some 26, .pur (mkO (.convert 3 5 (.tmp 25)) 5), none, [0, 1, 2, 3, 4]⟩,
                ⟨some 27, .iad 1 (.tmp 17) (.tmp 21), none, []⟩,
                ⟨none, .store 1 (.tmp 27) (.tmp 26), none, []⟩] false)))
            (.region [⟨some 28, .pur (mkO (.binOp .add 3 (.tmp 14) (.const (.int .i64 1)) 3) 3), none, []⟩,
              ⟨some 14, .mov (.tmp 28), none, []⟩] false)))))))
        (.seq (.region [⟨some 29, .mov (.tmp 4), none, [4]⟩,
          ⟨some 30, .pur (mkO (.binOp .add 3 (.const (.int .i64 247)) (.tmp 29) 3) 3), none, [4]⟩,
          ⟨some 31, .pur (mkO (.convert 3 5 (.tmp 30)) 5), none, [4]⟩,
          ⟨some 32, .bsl 5 1 (.int .u8 0) 1 [(0, 1, (.tmp 31))], none, [4]⟩,
          ⟨some 33, .mov (.tmp 5), none, [0, 1, 2, 3]⟩,
          ⟨some 34, .bsl 22 1 (.slice none 0 0) 2 [(0, 1, (.tmp 32)), (1, 1, (.tmp 33))], none, []⟩,
          ⟨some 35, .call (.func 18) [(.tmp 34)], none, []⟩,
          ⟨some 2, .mov (.tmp 35), none, []⟩,
          ⟨some 3, .mov (.const (.int .i64 0)), none, []⟩] false)
        .ret))))))))))
def a9 : AFunc := ⟨45, c9, [.tmp 2, .tmp 3], 1⟩

/-- blindstamp/sum.Bytes -/
def c10 : ACode :=
  (.seq (.region [⟨some 2, .mov (.const (.slice none 0 0)), none, []⟩] false)
  (.seq (.region [⟨some 3, .mov (.tmp 0), none, [3, 4, 5, 6, 7]⟩,
    ⟨some 4, .pur (mkO (.binOp .shr 34 (.tmp 3) (.const (.int .u64 16)) 44) 34), none, [3, 4, 5, 6, 7]⟩,
    ⟨some 5, .pur (mkO (.convert 34 5 (.tmp 4)) 5), none, [3, 4, 5, 6, 7]⟩,
    ⟨some 6, .mov (.tmp 0), none, [0, 1, 2, 6, 7]⟩,
    ⟨some 7, .pur (mkO (.binOp .shr 34 (.tmp 6) (.const (.int .u64 8)) 44) 34), none, [0, 1, 2, 6, 7]⟩,
    ⟨some 8, .pur (mkO (.convert 34 5 (.tmp 7)) 5), none, [0, 1, 2, 6, 7]⟩,
    ⟨some 9, .mov (.tmp 0), none, [0, 1, 2, 3, 4, 5]⟩,
    ⟨some 10, .pur (mkO (.convert 34 5 (.tmp 9)) 5), none, [0, 1, 2, 3, 4, 5]⟩,
    ⟨some 11, .bsl 5 1 (.int .u8 0) 3 [(0, 1, (.tmp 5)), (1, 1, (.tmp 8)), (2, 1, (.tmp 10))], none, []⟩,
    ⟨some 2, .mov (.tmp 11), none, []⟩] false)
  .ret))
def a10 : AFunc := ⟨12, c10, [.tmp 2], 1⟩

/-- blindstamp/sum.Of -/
def c11 : ACode :=
  (.seq (.region [⟨some 2, .mov (.const (.int .u32 0)), none, []⟩] false)
  (.seq (.region [⟨some 3, .mov (.const (.int .u32 11994318)), none, []⟩] false)
  (.seq (.seq (.region [⟨some 6, .mov (.tmp 0), none, [2]⟩,
    ⟨some 7, .len (.tmp 6), none, [2]⟩,
    ⟨some 8, .mov (.const (.int .i64 0)), none, [0, 1]⟩] false)
  (.block 0 (.loop (.seq (.region [⟨some 9, .pur (mkO (.binOp .lss 3 (.tmp 8) (.tmp 7) 3) 0), none, []⟩] false)
      (.seq (.cond (.tmp 9)
        .skip
        (.exit 0))
      (.seq (.block 1 (.seq (.region [⟨some 10, .iad 1 (.tmp 6) (.tmp 8), none, []⟩,
          ⟨some 11, .load 1 false (.tmp 10), none, []⟩,
          ⟨some 5, .mov (.tmp 11), none, []⟩] false)
        (.seq (.region [⟨some 12, .mov (.tmp 3), none, [1, 2, 3]⟩,
          ⟨some 13, .mov (.tmp 5), none, [0]⟩,
          ⟨some 14, .pur (mkO (.convert 5 34 (.tmp 13)) 34), none, [0]⟩,
          ⟨some 15, .pur (mkO (.binOp .shl 34 (.tmp 14) (.const (.int .u64 16)) 44) 34), none, [0]⟩,
          ⟨some 16, .pur (mkO (.binOp .xor 34 (.tmp 12) (.tmp 15) 34) 34), none, []⟩,
          ⟨some 3, .mov (.tmp 16), none, []⟩] false)
        (.seq (.region [⟨some 17, .mov (.const (.int .i64 0)), none, []⟩] false)
        (.block 2 (.loop (.seq (.region [⟨some 18, .pur (mkO (.binOp .lss 3 (.tmp 17) (.const (.int .i64 8)) 3) 4), none, []⟩] false)
            (.seq (.cond (.tmp 18)
              .skip
              (.exit 2))
            (.seq (.block 3 (.seq (.region [⟨some 19, .mov (.tmp 3), none, []⟩,
                ⟨some 20, .pur (mkO (.binOp .shl 34 (.tmp 19) (.const (.int .u64 1)) 44) 34), none, []⟩,
                ⟨some 3, .mov (.tmp 20), none, []⟩] false)
              (.seq (.region [⟨some 21, .mov (.tmp 3), none, []⟩,
                ⟨some 22, .pur (mkO (.binOp .shr 34 (.tmp 21) (.const (.int .u64 24)) 44) 34), none, []⟩,
                ⟨some 23, .pur (mkO (.binOp .gtr 34 (.tmp 22) (.const (.int .u32 0)) 34) 4), none, []⟩] false)
              (.cond (.tmp 23)
                (.region [⟨some 24, .mov (.tmp 3), none, []⟩,
                  ⟨some 25, .pur (mkO (.binOp .xor 34 (.tmp 24) (.const (.int .u32 25578747)) 34) 34), none, []⟩,
                  ⟨some 3, .mov (.tmp 25), none, []⟩] false)
                .skip))))
            (.region [⟨some 26, .pur (mkO (.binOp .add 3 (.tmp 17) (.const (.int .i64 1)) 3) 3), none, []⟩,
              ⟨some 17, .mov (.tmp 26), none, []⟩] false))))))))))
      (.region [⟨some 27, .pur (mkO (.binOp .add 3 (.tmp 8) (.const (.int .i64 1)) 3) 3), none, []⟩,
        ⟨some 8, .mov (.tmp 27), none, []⟩] false)))))))
  (.seq (.region [⟨some 28, .mov (.tmp 3), none, []⟩,
    ⟨some 2, .mov (.tmp 28), none, []⟩] false)
  .ret))))
def a11 : AFunc := ⟨29, c11, [.tmp 2], 0⟩

/-- blindstamp/sum.Right -/
def c12 : ACode :=
  (.seq (.region [⟨some 2, .mov (.const (.bool false)), none, []⟩] false)
  (.seq (.region [⟨some 4, .mov (.tmp 0), none, []⟩,
    ⟨some 5, .len (.tmp 4), none, []⟩,
    ⟨some 6, .pur (mkO (.binOp .sub 3 (.tmp 5) (.const (.int .i64 3)) 3) 3), none, []⟩,
    ⟨some 3, .mov (.tmp 6), none, []⟩] false)
  (.seq (.region [⟨some 7, .mov (.tmp 3), none, []⟩,
    ⟨some 8, .pur (mkO (.binOp .geq 3 (.tmp 7) (.const (.int .i64 0)) 3) 4), none, []⟩,
    ⟨some 9, .mov (.tmp 8), none, []⟩,
    ⟨some 10, .mov (.tmp 0), some (9, true), [4, 5, 7, 8, 9, 10, 11, 13]⟩,
    ⟨some 11, .mov (.tmp 3), some (9, true), [3, 5, 7, 8, 9, 10, 11, 13]⟩,
    ⟨some 12, .mov (.tmp 3), some (9, true), [3, 4, 7, 8, 9, 10, 11, 13]⟩,
    ⟨some 13, .slc 1 (.tmp 10) none (some (.tmp 11)) (some (.tmp 12)), some (9, true), [7, 8, 9, 10, 11, 13]⟩,
    ⟨some 14, .mov (.tmp 0), some (9, true), [3, 4, 5, 6, 8, 13]⟩,
    ⟨some 15, .mov (.tmp 3), some (9, true), [3, 4, 5, 6, 7, 13]⟩,
    ⟨some 16, .slc 1 (.tmp 14) none (some (.tmp 15)) none, some (9, true), [3, 4, 5, 6, 13]⟩,
    ⟨some 17, .call (.func 11) [(.tmp 16)], some (9, true), [3, 4, 5, 6, 13]⟩,
    ⟨some 18, .call (.func 10) [(.tmp 17)], some (9, true), [3, 4, 5, 6, 13]⟩,
    ⟨some 19, .app 5 1 1 (.int .u8 0) (.tmp 13) (.tmp 18), some (9, true), [13]⟩,
    ⟨some 20, .mov (.tmp 0), some (9, true), [3, 4, 5, 6, 7, 8, 9, 10, 11, 12]⟩,
    ⟨some 21, .call (.func 15) [(.tmp 19), (.tmp 20)], some (9, true), []⟩,
    ⟨some 22, .pick (.tmp 9) (.tmp 21) (.const (.bool false)), none, []⟩,
    ⟨some 2, .mov (.tmp 22), none, []⟩] true)
  .ret)))
def a12 : AFunc := ⟨23, c12, [.tmp 2], 1⟩

/-- blindstamp/num.Get -/
def c13 : ACode :=
  (.seq (.region [⟨some 2, .mov (.const (.int .i64 0)), none, []⟩,
    ⟨some 3, .mov (.const (.int .i64 0)), none, []⟩,
    ⟨some 4, .mov (.const (.int .i64 0)), none, []⟩] false)
  (.seq (.seq (.region [⟨some 8, .mov (.tmp 0), none, []⟩,
    ⟨some 9, .len (.tmp 8), none, []⟩,
    ⟨some 10, .pur (mkO (.binOp .eql 3 (.tmp 9) (.const (.int .i64 0)) 3) 4), none, []⟩] false)
  (.cond (.tmp 10)
    (.seq (.region [⟨some 2, .mov (.const (.int .i64 0)), none, []⟩,
      ⟨some 3, .mov (.const (.int .i64 0)), none, []⟩,
      ⟨some 4, .mov (.const (.int .i64 8)), none, []⟩] false)
    .ret)
    .skip))
  (.seq (.region [⟨some 11, .mov (.tmp 0), none, []⟩,
    ⟨some 12, .iad 1 (.tmp 11) (.const (.int .i64 0)), none, []⟩,
    ⟨some 13, .load 1 false (.tmp 12), none, []⟩,
    ⟨some 14, .pur (mkO (.convert 5 3 (.tmp 13)) 3), none, []⟩,
    ⟨some 15, .pur (mkO (.binOp .sub 3 (.tmp 14) (.const (.int .i64 248)) 3) 3), none, []⟩,
    ⟨some 16, .pur (mkO (.binOp .add 3 (.tmp 15) (.const (.int .i64 1)) 3) 3), none, []⟩,
    ⟨some 17, .pur (mkO (.call ⟨.builtin .max, #[(.const (.int .i64 0)), (.tmp 16)], #[3, 3]⟩) 3), none, []⟩,
    ⟨some 5, .mov (.tmp 17), none, []⟩] false)
  (.seq (.seq (.region [⟨some 18, .mov (.tmp 5), none, []⟩,
    ⟨some 19, .pur (mkO (.binOp .eql 3 (.tmp 18) (.const (.int .i64 0)) 3) 4), none, []⟩] false)
  (.cond (.tmp 19)
    (.seq (.region [⟨some 20, .mov (.tmp 0), none, []⟩,
      ⟨some 21, .iad 1 (.tmp 20) (.const (.int .i64 0)), none, []⟩,
      ⟨some 22, .load 1 false (.tmp 21), none, []⟩,
      ⟨some 23, .pur (mkO (.convert 5 3 (.tmp 22)) 3), none, []⟩,
      ⟨some 2, .mov (.tmp 23), none, []⟩,
      ⟨some 3, .mov (.const (.int .i64 1)), none, []⟩,
      ⟨some 4, .mov (.const (.int .i64 0)), none, []⟩] false)
    .ret)
    .skip))
  (.seq (.seq (.region [⟨some 24, .mov (.tmp 5), none, []⟩,
    ⟨some 25, .pur (mkO (.binOp .gtr 3 (.tmp 24) (.const (.int .i64 7)) 3) 4), none, []⟩,
    ⟨some 26, .mov (.tmp 25), none, []⟩,
    ⟨some 27, .mov (.tmp 0), some (26, false), [5]⟩,
    ⟨some 28, .len (.tmp 27), some (26, false), [5]⟩,
    ⟨some 29, .mov (.tmp 5), some (26, false), [3, 4]⟩,
    ⟨some 30, .pur (mkO (.binOp .leq 3 (.tmp 28) (.tmp 29) 3) 4), some (26, false), []⟩,
    ⟨some 31, .pick (.tmp 26) (.const (.bool true)) (.tmp 30), none, []⟩] false)
  (.cond (.tmp 31)
    (.seq (.region [⟨some 2, .mov (.const (.int .i64 0)), none, []⟩,
      ⟨some 3, .mov (.const (.int .i64 0)), none, []⟩,
      ⟨some 4, .mov (.const (.int .i64 8)), none, []⟩] false)
    .ret)
    .skip))
  (.seq (.seq (.region [⟨some 32, .mov (.tmp 0), none, [1, 2, 5]⟩,
    ⟨some 33, .mov (.tmp 5), none, [0, 5]⟩,
    ⟨some 34, .pur (mkO (.binOp .add 3 (.const (.int .i64 1)) (.tmp 33) 3) 3), none, [0, 5]⟩,
    ⟨some 35, .slc 1 (.tmp 32) (some (.const (.int .i64 1))) (some (.tmp 34)) none, none, [5]⟩,
    ⟨some 36, .len (.tmp 35), none, [5]⟩,
    ⟨some 37, .mov (.const (.int .i64 0)), none, [0, 1, 2, 3, 4]⟩] false)
  (.block 0 (.loop (.seq (.region [⟨some 38, .pur (mkO (.binOp .lss 3 (.tmp 37) (.tmp 36) 3) 0), none, []⟩] false)
      (.seq (.cond (.tmp 38)
        .skip
        (.exit 0))
      (.seq (.block 1 (.seq (.region [⟨some 39, .iad 1 (.tmp 35) (.tmp 37), none, []⟩,
          ⟨some 40, .load 1 false (.tmp 39), none, []⟩,
          ⟨some 7, .mov (.tmp 40), none, []⟩] false)
        (.region [⟨some 41, .mov (.tmp 2), none, [2, 3]⟩,
          ⟨some 42, .pur (mkO (.binOp .shl 3 (.tmp 41) (.const (.int .u64 8)) 44) 3), none, [2, 3]⟩,
          ⟨some 43, .mov (.tmp 7), none, [0, 1]⟩,
          ⟨some 44, .pur (mkO (.convert 5 3 (.tmp 43)) 3), none, [0, 1]⟩,
          ⟨some 45, .pur (mkO (.binOp .or 3 (.tmp 42) (.tmp 44) 3) 3), none, []⟩,
          ⟨some 2, .mov (.tmp 45), none, []⟩] false)))
      (.region [⟨some 46, .pur (mkO (.binOp .add 3 (.tmp 37) (.const (.int .i64 1)) 3) 3), none, []⟩,
        ⟨some 37, .mov (.tmp 46), none, []⟩] false)))))))
  (.seq (.seq (.region [⟨some 47, .mov (.tmp 2), none, [2, 3]⟩,
    ⟨some 48, .call (.func 17) [(.tmp 47)], none, [2, 3]⟩,
    ⟨some 49, .mov (.tmp 5), none, [0, 1]⟩,
    ⟨some 50, .pur (mkO (.binOp .add 3 (.const (.int .i64 1)) (.tmp 49) 3) 3), none, [0, 1]⟩,
    ⟨some 51, .pur (mkO (.binOp .neq 3 (.tmp 48) (.tmp 50) 3) 4), none, []⟩] false)
  (.cond (.tmp 51)
    (.seq (.region [⟨some 2, .mov (.const (.int .i64 0)), none, []⟩,
      ⟨some 3, .mov (.const (.int .i64 0)), none, []⟩,
      ⟨some 4, .mov (.const (.int .i64 8)), none, []⟩] false)
    .ret)
    .skip))
  (.seq (.region [⟨some 52, .mov (.tmp 2), none, [1, 2]⟩,
    ⟨some 53, .mov (.tmp 5), none, [0, 3]⟩,
    ⟨some 54, .pur (mkO (.binOp .add 3 (.const (.int .i64 1)) (.tmp 53) 3) 3), none, [0, 3]⟩,
    ⟨some 2, .mov (.tmp 52), none, [1, 2]⟩,
    ⟨some 3, .mov (.tmp 54), none, []⟩,
    ⟨some 4, .mov (.const (.int .i64 0)), none, []⟩] false)
  .ret))))))))
def a13 : AFunc := ⟨55, c13, [.tmp 2, .tmp 3, .tmp 4], 1⟩

/-- bytes.Clone -/
def c14 : ACode :=
  (.seq (.region [⟨some 2, .mov (.const (.slice none 0 0)), none, []⟩] false)
  (.seq (.seq (.region [⟨some 3, .mov (.tmp 0), none, []⟩,
    ⟨some 4, .eqnil false 1 (.tmp 3) (mkO (.binOp .eql 22 (.tmp 3) (.const (.slice none 0 0)) 22) 4), none, []⟩] false)
  (.cond (.tmp 4)
    (.seq (.region [⟨some 2, .mov (.const (.slice none 0 0)), none, []⟩] false)
    .ret)
    .skip))
  (.seq (.region [⟨some 5, .bsl 5 1 (.int .u8 0) 0 [], none, [1]⟩,
    ⟨some 6, .mov (.tmp 0), none, [0]⟩,
    ⟨some 7, .app 5 1 1 (.int .u8 0) (.tmp 5) (.tmp 6), none, []⟩,
    ⟨some 2, .mov (.tmp 7), none, []⟩] false)
  .ret)))
def a14 : AFunc := ⟨8, c14, [.tmp 2], 1⟩

/-- bytes.Equal -/
def c15 : ACode :=
  (.seq (.region [⟨some 4, .mov (.const (.bool false)), none, []⟩] false)
  (.seq (.region [⟨some 5, .mov (.tmp 0), none, [2, 3]⟩,
    ⟨some 6, .b2s (.tmp 5), none, [2, 3]⟩,
    ⟨some 7, .mov (.tmp 1), none, [0, 1]⟩,
    ⟨some 8, .b2s (.tmp 7), none, [0, 1]⟩,
    ⟨some 9, .pur (mkO (.binOp .eql 9 (.tmp 6) (.tmp 8) 9) 4), none, []⟩,
    ⟨some 4, .mov (.tmp 9), none, []⟩] false)
  .ret))
def a15 : AFunc := ⟨10, c15, [.tmp 4], 1⟩

/-- blindstamp/frame.classes -/
def c16 : ACode :=
  (.seq (.region [⟨some 0, .alloc 40 (.agg #[(.int .i64 0), (.int .i64 0), (.int .i64 0)]), none, []⟩] false)
  (.seq (.region [⟨some 1, .build (.agg #[(.int .i64 0), (.int .i64 0), (.int .i64 0)]) [(0, 1, (.const (.int .i64 64))), (1, 1, (.const (.int .i64 256))), (2, 1, (.const (.int .i64 1024)))], none, []⟩,
    ⟨none, .store 3 (.tmp 0) (.tmp 1), none, []⟩] false)
  .ret))
def a16 : AFunc := ⟨2, c16, [.cell 0 3 true], 1⟩

/-- blindstamp/num.Size -/
def c17 : ACode :=
  (.seq (.region [⟨some 2, .mov (.const (.int .i64 0)), none, []⟩] false)
  (.seq (.block 0 (.seq (.region [⟨some 4, .mov (.tmp 0), none, []⟩,
      ⟨some 5, .pur (mkO (.binOp .lss 3 (.tmp 4) (.const (.int .i64 0)) 3) 4), none, []⟩,
      ⟨some 6, .mov (.tmp 5), none, []⟩,
      ⟨some 7, .mov (.tmp 0), some (6, false), []⟩,
      ⟨some 8, .pur (mkO (.binOp .geq 3 (.tmp 7) (.const (.int .i64 72057594037927936)) 3) 4), some (6, false), []⟩,
      ⟨some 9, .pick (.tmp 6) (.const (.bool true)) (.tmp 8), none, []⟩,
      ⟨some 3, .mov (.tmp 9), none, []⟩] false)
    (.cond (.tmp 3)
      (.seq (.region [⟨some 2, .mov (.const (.int .i64 0)), none, []⟩] false)
      .ret)
      (.seq (.region [⟨some 11, .mov (.tmp 0), none, []⟩,
        ⟨some 12, .pur (mkO (.binOp .lss 3 (.tmp 11) (.const (.int .i64 248)) 3) 4), none, []⟩,
        ⟨some 10, .mov (.tmp 12), none, []⟩] false)
      (.cond (.tmp 10)
        (.seq (.region [⟨some 2, .mov (.const (.int .i64 1)), none, []⟩] false)
        .ret)
        .skip)))))
  (.seq (.region [⟨some 13, .mov (.tmp 0), none, []⟩,
    ⟨some 14, .call (.func 19) [(.tmp 13)], none, []⟩,
    ⟨some 15, .pur (mkO (.binOp .add 3 (.const (.int .i64 1)) (.tmp 14) 3) 3), none, []⟩,
    ⟨some 2, .mov (.tmp 15), none, []⟩] false)
  .ret)))
def a17 : AFunc := ⟨16, c17, [.tmp 2], 1⟩

/-- blindstamp/num.join -/
def c18 : ACode :=
  (.seq (.region [⟨some 2, .mov (.const (.slice none 0 0)), none, []⟩] false)
  (.seq (.seq (.region [⟨some 5, .mov (.tmp 0), none, [2]⟩,
    ⟨some 6, .len (.tmp 5), none, [2]⟩,
    ⟨some 7, .mov (.const (.int .i64 0)), none, [0, 1]⟩] false)
  (.block 0 (.loop (.seq (.region [⟨some 8, .pur (mkO (.binOp .lss 3 (.tmp 7) (.tmp 6) 3) 0), none, []⟩] false)
      (.seq (.cond (.tmp 8)
        .skip
        (.exit 0))
      (.seq (.block 1 (.seq (.region [⟨some 9, .iad 1 (.tmp 5) (.tmp 7), none, []⟩,
          ⟨some 10, .load 1 false (.tmp 9), none, []⟩,
          ⟨some 4, .mov (.tmp 10), none, []⟩] false)
        (.region [⟨some 11, .mov (.tmp 2), none, [1]⟩,
          ⟨some 12, .mov (.tmp 4), none, [0]⟩,
          ⟨some 13, .app 5 1 1 (.int .u8 0) (.tmp 11) (.tmp 12), none, []⟩,
          ⟨some 2, .mov (.tmp 13), none, []⟩] false)))
      (.region [⟨some 14, .pur (mkO (.binOp .add 3 (.tmp 7) (.const (.int .i64 1)) 3) 3), none, []⟩,
        ⟨some 7, .mov (.tmp 14), none, []⟩] false)))))))
  (.seq (.region [⟨some 15, .mov (.tmp 2), none, []⟩,
    ⟨some 2, .mov (.tmp 15), none, []⟩] false)
  .ret)))
def a18 : AFunc := ⟨16, c18, [.tmp 2], 1⟩

/-- blindstamp/num.follow -/
def c19 : ACode :=
  (.seq (.region [⟨some 2, .mov (.const (.int .i64 0)), none, []⟩] false)
  (.scope (.seq .label
  (.seq (.block 0 (.loop (.block 1 (.seq (.region [⟨some 3, .mov (.tmp 2), none, []⟩,
          ⟨some 4, .pur (mkO (.binOp .add 3 (.tmp 3) (.const (.int .i64 1)) 3) 3), none, []⟩,
          ⟨some 2, .mov (.tmp 4), none, []⟩] false)
        (.seq (.region [⟨some 5, .mov (.tmp 0), none, []⟩,
          ⟨some 6, .pur (mkO (.binOp .shr 3 (.tmp 5) (.const (.int .u64 8)) 44) 3), none, []⟩,
          ⟨some 0, .mov (.tmp 6), none, []⟩] false)
        (.seq (.region [⟨some 7, .mov (.tmp 0), none, []⟩,
          ⟨some 8, .pur (mkO (.binOp .eql 3 (.tmp 7) (.const (.int .i64 0)) 3) 4), none, []⟩] false)
        (.cond (.tmp 8)
          (.exit 0)
          .skip)))))))
  (.seq (.region [⟨some 9, .mov (.tmp 2), none, []⟩,
    ⟨some 2, .mov (.tmp 9), none, []⟩] false)
  .ret)))))
def a19 : AFunc := ⟨10, c19, [.tmp 2], 1⟩

def tbl : List (Option AFunc) := [none, none, some a2, some a3, some a4, some a5, some a6, some a7, some a8, some a9, some a10, some a11, some a12, some a13, some a14, some a15, some a16, some a17, some a18, some a19]
theorem tf2 : fsT tbl 2 = some a2 := rfl
theorem tf3 : fsT tbl 3 = some a3 := rfl
theorem tf4 : fsT tbl 4 = some a4 := rfl
theorem tf5 : fsT tbl 5 = some a5 := rfl
theorem tf6 : fsT tbl 6 = some a6 := rfl
theorem tf7 : fsT tbl 7 = some a7 := rfl
theorem tf8 : fsT tbl 8 = some a8 := rfl
theorem tf9 : fsT tbl 9 = some a9 := rfl
theorem tf10 : fsT tbl 10 = some a10 := rfl
theorem tf11 : fsT tbl 11 = some a11 := rfl
theorem tf12 : fsT tbl 12 = some a12 := rfl
theorem tf13 : fsT tbl 13 = some a13 := rfl
theorem tf14 : fsT tbl 14 = some a14 := rfl
theorem tf15 : fsT tbl 15 = some a15 := rfl
theorem tf16 : fsT tbl 16 = some a16 := rfl
theorem tf17 : fsT tbl 17 = some a17 := rfl
theorem tf18 : fsT tbl 18 = some a18 := rfl
theorem tf19 : fsT tbl 19 = some a19 := rfl
end Go.Proofs.Ytidkemgkejbalaa
