/-
  The program's functions, as the executor has them: the table.
-/
import Derived.Test.YtbemomagabjbnaaRows
import Derived.Test.YtbemomagabjbnaaEe
set_option linter.unusedSimpArgs false
set_option linter.unusedVariables false
set_option maxRecDepth 100000
namespace Go.Proofs.Ytbemomagabjbnaa
open Go Go.Ax
/-- blindstamp/blindstamplaw25.LinkOnce -/
def c4 : ACode :=
  (.seq (.region [⟨some 4, .mov (.const (.bool false)), none, []⟩] false)
  (.seq (.region [⟨some 10, .call (.func 8) [], none, []⟩,
    ⟨some 5, .mov (.tmp 10), none, []⟩] false)
  (.seq (.seq (.region [⟨some 11, .mov (.tmp 1), none, []⟩,
    ⟨some 12, .len (.tmp 11), none, []⟩,
    ⟨some 13, .pur (mkO (.binOp .gtr 3 (.tmp 12) (.const (.int .i64 60)) 3) 4), none, []⟩,
    ⟨some 14, .mov (.tmp 13), none, []⟩,
    ⟨some 15, .mov (.tmp 0), some (14, false), []⟩,
    ⟨some 16, .pur (mkO (.binOp .lss 3 (.tmp 15) (.const (.int .i64 0)) 3) 4), some (14, false), []⟩,
    ⟨some 17, .pick (.tmp 14) (.const (.bool true)) (.tmp 16), none, []⟩,
    ⟨some 18, .mov (.tmp 17), none, []⟩,
    ⟨some 19, .mov (.tmp 0), some (18, false), []⟩,
    ⟨some 20, .pur (mkO (.binOp .geq 3 (.tmp 19) (.const (.int .i64 2147483648)) 3) 4), some (18, false), []⟩,
    ⟨some 21, .pick (.tmp 18) (.const (.bool true)) (.tmp 20), none, []⟩,
    ⟨some 22, .mov (.tmp 21), none, []⟩,
    ⟨some 23, .mov (.tmp 5), some (22, false), []⟩,
    ⟨some 24, .pur (mkO (.unOp .not 4 (.tmp 23)) 4), some (22, false), []⟩,
    ⟨some 25, .pick (.tmp 22) (.const (.bool true)) (.tmp 24), none, []⟩] false)
  (.cond (.tmp 25)
    (.seq (.region [⟨some 26, .mov (.tmp 5), none, []⟩,
      ⟨some 4, .mov (.tmp 26), none, []⟩] false)
    .ret)
    .skip))
  (.seq (.region [⟨some 27, .mov (.tmp 0), none, [2]⟩,
    ⟨some 28, .call (.func 12) [(.tmp 27)], none, [2]⟩,
    ⟨some 6, .alloc 39 (.agg #[(.int .i64 0), (.int .i64 0), (.slice none 0 0), (.int .i64 0), (.int .i64 0), (.bool false), (.int .i64 0), (.int .i64 0), (.slice none 0 0), (.int .i64 0), (.int .i64 0), (.bool false), (.slice none 0 0), (.slice none 0 0), (.slice none 0 0), (.slice none 0 0), (.bool false)]), none, [0, 1]⟩,
    ⟨none, .store 17 (.tmp 6) (.tmp 28), none, []⟩] false)
  (.seq (.seq (.region [⟨some 7, .mov (.const (.int .i64 0)), none, []⟩] false)
  (.block 0 (.loop (.seq (.seq (.region [⟨some 29, .mov (.tmp 7), none, [1, 2]⟩,
        ⟨some 30, .mov (.tmp 1), none, [0]⟩,
        ⟨some 31, .len (.tmp 30), none, [0]⟩,
        ⟨some 32, .pur (mkO (.binOp .lss 3 (.tmp 29) (.tmp 31) 3) 4), none, []⟩,
        ⟨some 33, .mov (.tmp 32), none, []⟩,
        ⟨some 34, .fad 16 (.tmp 6), some (33, true), []⟩,
        ⟨some 35, .load 1 false (.tmp 34), some (33, true), []⟩,
        ⟨some 36, .pick (.tmp 33) (.tmp 35) (.const (.bool false)), none, []⟩] false)
      (.cond (.tmp 36)
        .skip
        (.exit 0)))
      (.seq (.block 1 (.seq (.region [⟨some 39, .load 17 true (.tmp 6), none, [1, 2, 3, 4]⟩,
          ⟨some 40, .mov (.tmp 1), none, [0, 2]⟩,
          ⟨some 41, .mov (.tmp 7), none, [0, 1]⟩,
          ⟨some 42, .iad 2 (.tmp 40) (.tmp 41), none, [0]⟩,
          ⟨some 43, .load 2 true (.tmp 42), none, [0]⟩,
          ⟨some 44, .call (.func 13) [(.tmp 39), (.tmp 43)], none, []⟩,
          ⟨none, .store 17 (.tmp 6) (.tmp 44), none, []⟩] true)
        (.seq (.region [⟨some 45, .fad 15 (.tmp 6), none, []⟩,
          ⟨some 46, .load 1 false (.tmp 45), none, []⟩,
          ⟨some 47, .len (.tmp 46), none, []⟩,
          ⟨some 8, .mov (.tmp 47), none, []⟩] false)
        (.seq (.region [⟨some 48, .mov (.tmp 8), none, [1, 2, 3]⟩,
          ⟨some 49, .fad 14 (.tmp 6), none, [0]⟩,
          ⟨some 50, .load 1 false (.tmp 49), none, [0]⟩,
          ⟨some 51, .len (.tmp 50), none, [0]⟩,
          ⟨some 52, .pur (mkO (.binOp .gtr 3 (.tmp 48) (.tmp 51) 3) 4), none, []⟩,
          ⟨some 53, .mov (.tmp 52), none, []⟩,
          ⟨some 54, .fad 15 (.tmp 6), some (53, false), [9, 10, 11, 12, 13]⟩,
          ⟨some 55, .load 1 false (.tmp 54), some (53, false), [9, 10, 11, 12, 13]⟩,
          ⟨some 56, .b2s (.tmp 55), some (53, false), [9, 10, 11, 12, 13]⟩,
          ⟨some 57, .fad 14 (.tmp 6), some (53, false), [6, 7, 8, 11]⟩,
          ⟨some 58, .load 1 false (.tmp 57), some (53, false), [6, 7, 8, 11]⟩,
          ⟨some 59, .mov (.tmp 8), some (53, false), [6, 7, 8, 9, 10]⟩,
          ⟨some 60, .slc 1 (.tmp 58) none (some (.tmp 59)) none, some (53, false), [6, 7, 8]⟩,
          ⟨some 61, .b2s (.tmp 60), some (53, false), [6, 7, 8]⟩,
          ⟨some 62, .pur (mkO (.binOp .neq 9 (.tmp 56) (.tmp 61) 9) 4), some (53, false), []⟩,
          ⟨some 63, .pick (.tmp 53) (.const (.bool true)) (.tmp 62), none, []⟩,
          ⟨some 64, .mov (.tmp 63), none, []⟩,
          ⟨some 65, .fad 14 (.tmp 6), some (64, false), [20, 21, 22, 23, 25]⟩,
          ⟨some 66, .load 1 false (.tmp 65), some (64, false), [20, 21, 22, 23, 25]⟩,
          ⟨some 67, .len (.tmp 66), some (64, false), [20, 21, 22, 23, 25]⟩,
          ⟨some 68, .fad 0 (.tmp 6), some (64, false), [17, 18, 19, 25]⟩,
          ⟨some 69, .fad 2 (.tmp 68), some (64, false), [17, 18, 19, 25]⟩,
          ⟨some 70, .load 1 false (.tmp 69), some (64, false), [17, 18, 19, 25]⟩,
          ⟨some 71, .len (.tmp 70), some (64, false), [17, 18, 19, 25]⟩,
          ⟨some 72, .pur (mkO (.binOp .sub 3 (.tmp 67) (.tmp 71) 3) 3), some (64, false), [25]⟩,
          ⟨some 73, .mov (.tmp 8), some (64, false), [17, 18, 19, 20, 21, 22, 23, 24]⟩,
          ⟨some 74, .pur (mkO (.binOp .gtr 3 (.tmp 72) (.tmp 73) 3) 4), some (64, false), []⟩,
          ⟨some 75, .pick (.tmp 64) (.const (.bool true)) (.tmp 74), none, []⟩,
          ⟨some 76, .mov (.tmp 75), none, []⟩,
          ⟨some 77, .fad 0 (.tmp 6), some (76, false), []⟩,
          ⟨some 78, .load 6 true (.tmp 77), some (76, false), []⟩,
          ⟨some 79, .call (.func 11) [(.tmp 78)], some (76, false), []⟩,
          ⟨some 80, .pur (mkO (.binOp .neq 28 (.tmp 79) (.const (.int .i64 0)) 28) 4), some (76, false), []⟩,
          ⟨some 81, .pick (.tmp 76) (.const (.bool true)) (.tmp 80), none, []⟩,
          ⟨some 82, .mov (.tmp 81), none, []⟩,
          ⟨some 83, .fad 6 (.tmp 6), some (82, false), []⟩,
          ⟨some 84, .load 6 true (.tmp 83), some (82, false), []⟩,
          ⟨some 85, .call (.func 11) [(.tmp 84)], some (82, false), []⟩,
          ⟨some 86, .pur (mkO (.binOp .neq 28 (.tmp 85) (.const (.int .i64 0)) 28) 4), some (82, false), []⟩,
          ⟨some 87, .pick (.tmp 82) (.const (.bool true)) (.tmp 86), none, []⟩] true)
        (.cond (.tmp 87)
          (.seq (.region [⟨some 4, .mov (.const (.bool false)), none, []⟩] false)
          .ret)
          .skip)))))
      (.region [⟨some 37, .mov (.tmp 7), none, []⟩,
        ⟨some 38, .pur (mkO (.binOp .add 3 (.tmp 37) (.const (.int .i64 1)) 3) 3), none, []⟩,
        ⟨some 7, .mov (.tmp 38), none, []⟩] false))))))
  (.seq (.seq (.region [⟨some 9, .mov (.const (.int .i64 0)), none, []⟩] false)
  (.block 2 (.loop (.seq (.seq (.region [⟨some 88, .mov (.tmp 9), none, [1, 2, 3]⟩,
        ⟨some 89, .fad 14 (.tmp 6), none, [0]⟩,
        ⟨some 90, .load 1 false (.tmp 89), none, [0]⟩,
        ⟨some 91, .len (.tmp 90), none, [0]⟩,
        ⟨some 92, .pur (mkO (.binOp .leq 3 (.tmp 88) (.tmp 91) 3) 4), none, []⟩,
        ⟨some 93, .mov (.tmp 92), none, []⟩,
        ⟨some 94, .fad 16 (.tmp 6), some (93, true), []⟩,
        ⟨some 95, .load 1 false (.tmp 94), some (93, true), []⟩,
        ⟨some 96, .pick (.tmp 93) (.tmp 95) (.const (.bool false)), none, []⟩] false)
      (.cond (.tmp 96)
        .skip
        (.exit 2)))
      (.seq (.block 3 (.region [⟨some 99, .load 17 true (.tmp 6), none, []⟩,
          ⟨some 100, .call (.func 14) [(.tmp 99)], none, []⟩,
          ⟨none, .store 17 (.tmp 6) (.tmp 100), none, []⟩] false))
      (.region [⟨some 97, .mov (.tmp 9), none, []⟩,
        ⟨some 98, .pur (mkO (.binOp .add 3 (.tmp 97) (.const (.int .i64 1)) 3) 3), none, []⟩,
        ⟨some 9, .mov (.tmp 98), none, []⟩] false))))))
  (.seq (.region [⟨some 101, .mov (.tmp 5), none, []⟩,
    ⟨some 102, .mov (.tmp 101), none, []⟩,
    ⟨some 103, .fad 16 (.tmp 6), some (102, true), []⟩,
    ⟨some 104, .load 1 false (.tmp 103), some (102, true), []⟩,
    ⟨some 105, .pick (.tmp 102) (.tmp 104) (.const (.bool false)), none, []⟩,
    ⟨some 106, .mov (.tmp 105), none, []⟩,
    ⟨some 107, .fad 15 (.tmp 6), some (106, true), [9, 10, 11]⟩,
    ⟨some 108, .load 1 false (.tmp 107), some (106, true), [9, 10, 11]⟩,
    ⟨some 109, .b2s (.tmp 108), some (106, true), [9, 10, 11]⟩,
    ⟨some 110, .fad 14 (.tmp 6), some (106, true), [6, 7, 8]⟩,
    ⟨some 111, .load 1 false (.tmp 110), some (106, true), [6, 7, 8]⟩,
    ⟨some 112, .b2s (.tmp 111), some (106, true), [6, 7, 8]⟩,
    ⟨some 113, .pur (mkO (.binOp .eql 9 (.tmp 109) (.tmp 112) 9) 4), some (106, true), []⟩,
    ⟨some 114, .pick (.tmp 106) (.tmp 113) (.const (.bool false)), none, []⟩,
    ⟨some 115, .mov (.tmp 114), none, []⟩,
    ⟨some 116, .fad 0 (.tmp 6), some (115, true), []⟩,
    ⟨some 117, .fad 2 (.tmp 116), some (115, true), []⟩,
    ⟨some 118, .load 1 false (.tmp 117), some (115, true), []⟩,
    ⟨some 119, .len (.tmp 118), some (115, true), []⟩,
    ⟨some 120, .pur (mkO (.binOp .eql 3 (.tmp 119) (.const (.int .i64 0)) 3) 4), some (115, true), []⟩,
    ⟨some 121, .pick (.tmp 115) (.tmp 120) (.const (.bool false)), none, []⟩,
    ⟨some 4, .mov (.tmp 121), none, []⟩] false)
  .ret)))))))
def a4 : AFunc := ⟨122, c4, [.tmp 4], 1⟩

/-- blindstamp/blindstamplaw25.alive -/
def c8 : ACode :=
  (.seq (.region [⟨some 0, .mov (.const (.bool false)), none, []⟩] false)
  (.seq (.region [⟨some 9, .call (.func 22) [(.const (.int .i64 1))], none, [4]⟩,
    ⟨some 8, .mov (.tmp 9), none, [4]⟩,
    ⟨some 10, .ext (.tmp 8) 0, none, [3, 4]⟩,
    ⟨some 11, .ext (.tmp 8) 1, none, [2, 4, 5]⟩,
    ⟨some 1, .alloc 24 (.agg #[(.int .i64 0), (.int .i64 0), (.slice none 0 0), (.int .i64 0), (.int .i64 0), (.bool false)]), none, [0, 1, 2, 3]⟩,
    ⟨none, .store 6 (.tmp 1) (.tmp 10), none, [3]⟩,
    ⟨some 2, .mov (.tmp 11), none, []⟩] false)
  (.seq (.region [⟨some 13, .load 6 true (.tmp 1), none, [1, 2]⟩,
    ⟨some 14, .bsl 5 1 (.int .u8 0) 1 [(0, 1, (.const (.int .u8 97)))], none, [0]⟩,
    ⟨some 15, .mrk (.tmp 14), none, [0]⟩,
    ⟨some 16, .call (.func 23) [(.tmp 13), (.tmp 15)], none, []⟩,
    ⟨some 12, .mov (.tmp 16), none, []⟩,
    ⟨some 17, .ext (.tmp 12) 0, none, [6]⟩,
    ⟨some 18, .ext (.tmp 12) 1, none, [5, 7]⟩,
    ⟨none, .store 6 (.tmp 1) (.tmp 17), none, [6]⟩,
    ⟨some 3, .mov (.tmp 18), none, []⟩] false)
  (.seq (.region [⟨some 20, .load 6 true (.tmp 1), none, [1, 2]⟩,
    ⟨some 21, .bsl 5 1 (.int .u8 0) 1 [(0, 1, (.const (.int .u8 98)))], none, [0]⟩,
    ⟨some 22, .mrk (.tmp 21), none, [0]⟩,
    ⟨some 23, .call (.func 23) [(.tmp 20), (.tmp 22)], none, []⟩,
    ⟨some 19, .mov (.tmp 23), none, []⟩,
    ⟨some 24, .ext (.tmp 19) 0, none, [6]⟩,
    ⟨some 25, .ext (.tmp 19) 1, none, [5, 7]⟩,
    ⟨none, .store 6 (.tmp 1) (.tmp 24), none, [6]⟩,
    ⟨some 4, .mov (.tmp 25), none, []⟩] false)
  (.seq (.region [⟨some 27, .load 6 true (.tmp 1), none, [6]⟩,
    ⟨some 28, .call (.func 24) [(.tmp 27)], none, [6]⟩,
    ⟨some 26, .mov (.tmp 28), none, [6]⟩,
    ⟨some 29, .ext (.tmp 26) 0, none, [4, 5, 6]⟩,
    ⟨some 30, .ext (.tmp 26) 1, none, [3, 5, 6, 7]⟩,
    ⟨some 31, .ext (.tmp 26) 2, none, [3, 4, 6, 7, 8]⟩,
    ⟨some 5, .alloc 24 (.agg #[(.int .i64 0), (.int .i64 0), (.slice none 0 0), (.int .i64 0), (.int .i64 0), (.bool false)]), none, [0, 1, 2, 3, 4, 5]⟩,
    ⟨none, .store 6 (.tmp 5) (.tmp 29), none, [4, 5]⟩,
    ⟨some 6, .mov (.tmp 30), none, [5]⟩,
    ⟨some 7, .mov (.tmp 31), none, []⟩] false)
  (.seq (.region [⟨some 32, .mov (.tmp 2), none, []⟩,
    ⟨some 33, .pur (mkO (.binOp .eql 28 (.tmp 32) (.const (.int .i64 0)) 28) 4), none, []⟩,
    ⟨some 34, .mov (.tmp 33), none, []⟩,
    ⟨some 35, .mov (.tmp 3), some (34, true), []⟩,
    ⟨some 36, .pur (mkO (.binOp .eql 28 (.tmp 35) (.const (.int .i64 0)) 28) 4), some (34, true), []⟩,
    ⟨some 37, .pick (.tmp 34) (.tmp 36) (.const (.bool false)), none, []⟩,
    ⟨some 38, .mov (.tmp 37), none, []⟩,
    ⟨some 39, .mov (.tmp 4), some (38, true), []⟩,
    ⟨some 40, .pur (mkO (.binOp .eql 28 (.tmp 39) (.const (.int .i64 0)) 28) 4), some (38, true), []⟩,
    ⟨some 41, .pick (.tmp 38) (.tmp 40) (.const (.bool false)), none, []⟩,
    ⟨some 42, .mov (.tmp 41), none, []⟩,
    ⟨some 43, .mov (.tmp 7), some (42, true), []⟩,
    ⟨some 44, .pur (mkO (.binOp .eql 28 (.tmp 43) (.const (.int .i64 0)) 28) 4), some (42, true), []⟩,
    ⟨some 45, .pick (.tmp 42) (.tmp 44) (.const (.bool false)), none, []⟩,
    ⟨some 46, .mov (.tmp 45), none, []⟩,
    ⟨some 47, .mov (.tmp 6), some (46, true), [16, 17, 18, 19, 20, 21, 22]⟩,
    ⟨some 48, .bsl 5 1 (.int .u8 0) 1 [(0, 1, (.const (.int .u8 97)))], some (46, true), [15, 19, 20, 21]⟩,
    ⟨some 49, .mrk (.tmp 48), some (46, true), [15, 19, 20, 21]⟩,
    ⟨some 50, .build (.agg #[(.int .i64 0), (.int .i64 0), (.int .i64 0), (.slice none 0 0)]) [(0, 1, (.const (.int .i64 1))), (1, 1, (.const (.int .i64 1))), (3, 1, (.tmp 49))], some (46, true), [15, 19, 20, 21]⟩,
    ⟨some 51, .bsl 5 1 (.int .u8 0) 1 [(0, 1, (.const (.int .u8 98)))], some (46, true), [15, 16, 17, 18]⟩,
    ⟨some 52, .mrk (.tmp 51), some (46, true), [15, 16, 17, 18]⟩,
    ⟨some 53, .build (.agg #[(.int .i64 0), (.int .i64 0), (.int .i64 0), (.slice none 0 0)]) [(0, 1, (.const (.int .i64 1))), (1, 1, (.const (.int .i64 2))), (3, 1, (.tmp 52))], some (46, true), [15, 16, 17, 18]⟩,
    ⟨some 54, .bsl 47 4 (.agg #[(.int .i64 0), (.int .i64 0), (.int .i64 0), (.slice none 0 0)]) 2 [(0, 4, (.tmp 50)), (4, 4, (.tmp 53))], some (46, true), [15]⟩,
    ⟨some 55, .call (.func 19) [(.tmp 47), (.tmp 54)], some (46, true), []⟩,
    ⟨some 56, .pick (.tmp 46) (.tmp 55) (.const (.bool false)), none, []⟩,
    ⟨some 0, .mov (.tmp 56), none, []⟩] false)
  .ret))))))
def a8 : AFunc := ⟨57, c8, [.tmp 0], 1⟩

/-- blindstamp/link.Check -/
def c11 : ACode :=
  (.seq (.region [⟨some 1, .box 24 (.tmp 0), none, [1]⟩,
    ⟨some 2, .mov (.const (.int .i64 0)), none, [0]⟩] false)
  (.seq (.seq (.region [⟨some 5, .fad 0 (.tmp 1), none, []⟩,
    ⟨some 6, .load 1 false (.tmp 5), none, []⟩,
    ⟨some 7, .call (.func 28) [(.tmp 6), (.const (.int .i64 0)), (.const (.int .i64 2147483648))], none, []⟩,
    ⟨some 8, .pur (mkO (.unOp .not 4 (.tmp 7)) 4), none, []⟩,
    ⟨some 9, .mov (.tmp 8), none, []⟩,
    ⟨some 10, .fad 1 (.tmp 1), some (9, false), []⟩,
    ⟨some 11, .load 1 false (.tmp 10), some (9, false), []⟩,
    ⟨some 12, .call (.func 28) [(.tmp 11), (.const (.int .i64 1)), (.const (.int .i64 16777216))], some (9, false), []⟩,
    ⟨some 13, .pur (mkO (.unOp .not 4 (.tmp 12)) 4), some (9, false), []⟩,
    ⟨some 14, .pick (.tmp 9) (.const (.bool true)) (.tmp 13), none, []⟩,
    ⟨some 15, .mov (.tmp 14), none, []⟩,
    ⟨some 16, .fad 3 (.tmp 1), some (15, false), []⟩,
    ⟨some 17, .load 1 false (.tmp 16), some (15, false), []⟩,
    ⟨some 18, .call (.func 28) [(.tmp 17), (.const (.int .i64 1)), (.const (.int .i64 16777216))], some (15, false), []⟩,
    ⟨some 19, .pur (mkO (.unOp .not 4 (.tmp 18)) 4), some (15, false), []⟩,
    ⟨some 20, .pick (.tmp 15) (.const (.bool true)) (.tmp 19), none, []⟩,
    ⟨some 21, .mov (.tmp 20), none, []⟩,
    ⟨some 22, .fad 2 (.tmp 1), some (21, false), []⟩,
    ⟨some 23, .load 1 false (.tmp 22), some (21, false), []⟩,
    ⟨some 24, .len (.tmp 23), some (21, false), []⟩,
    ⟨some 25, .pur (mkO (.binOp .gtr 3 (.tmp 24) (.const (.int .i64 32)) 3) 4), some (21, false), []⟩,
    ⟨some 26, .pick (.tmp 21) (.const (.bool true)) (.tmp 25), none, []⟩,
    ⟨some 27, .mov (.tmp 26), none, []⟩,
    ⟨some 28, .fad 4 (.tmp 1), some (27, false), []⟩,
    ⟨some 29, .load 1 false (.tmp 28), some (27, false), []⟩,
    ⟨some 30, .call (.func 28) [(.tmp 29), (.const (.int .i64 0)), (.const (.int .i64 3))], some (27, false), []⟩,
    ⟨some 31, .pur (mkO (.unOp .not 4 (.tmp 30)) 4), some (27, false), []⟩,
    ⟨some 32, .pick (.tmp 27) (.const (.bool true)) (.tmp 31), none, []⟩,
    ⟨some 33, .mov (.tmp 32), none, []⟩,
    ⟨some 34, .fad 2 (.tmp 1), some (33, false), []⟩,
    ⟨some 35, .load 1 false (.tmp 34), some (33, false), []⟩,
    ⟨some 36, .len (.tmp 35), some (33, false), []⟩,
    ⟨some 37, .pur (mkO (.binOp .eql 3 (.tmp 36) (.const (.int .i64 0)) 3) 4), some (33, false), []⟩,
    ⟨some 38, .mov (.tmp 37), some (33, false), []⟩,
    ⟨some 39, .fad 4 (.tmp 1), some (38, true), []⟩,
    ⟨some 40, .load 1 false (.tmp 39), some (38, true), []⟩,
    ⟨some 41, .pur (mkO (.binOp .gtr 3 (.tmp 40) (.const (.int .i64 0)) 3) 4), some (38, true), []⟩,
    ⟨some 42, .pick (.tmp 38) (.tmp 41) (.const (.bool false)), some (33, false), []⟩,
    ⟨some 43, .pick (.tmp 33) (.const (.bool true)) (.tmp 42), none, []⟩] false)
  (.cond (.tmp 43)
    (.seq (.region [⟨some 2, .mov (.const (.int .i64 8)), none, []⟩] false)
    .ret)
    .skip))
  (.seq (.seq (.region [⟨some 44, .fad 2 (.tmp 1), none, [3]⟩,
    ⟨some 45, .load 1 false (.tmp 44), none, [3]⟩,
    ⟨some 46, .len (.tmp 45), none, [3]⟩,
    ⟨some 47, .mov (.const (.int .i64 0)), none, [0, 1, 2]⟩] false)
  (.block 0 (.loop (.seq (.region [⟨some 48, .pur (mkO (.binOp .lss 3 (.tmp 47) (.tmp 46) 3) 0), none, []⟩] false)
      (.seq (.cond (.tmp 48)
        .skip
        (.exit 0))
      (.seq (.block 1 (.seq (.region [⟨some 49, .mov (.tmp 47), none, [1, 2, 3]⟩,
          ⟨some 50, .iad 2 (.tmp 45) (.tmp 47), none, [0, 3]⟩,
          ⟨some 51, .load 2 true (.tmp 50), none, [0, 3]⟩,
          ⟨some 4, .alloc 34 (.agg #[(.int .i64 0), (.slice none 0 0)]), none, [0, 1, 2]⟩,
          ⟨some 3, .mov (.tmp 49), none, []⟩,
          ⟨none, .store 2 (.tmp 4) (.tmp 51), none, []⟩] false)
        (.seq (.region [⟨some 52, .fad 0 (.tmp 4), none, []⟩,
          ⟨some 53, .load 1 false (.tmp 52), none, []⟩,
          ⟨some 54, .pur (mkO (.binOp .lss 3 (.tmp 53) (.const (.int .i64 1)) 3) 4), none, []⟩,
          ⟨some 55, .mov (.tmp 54), none, []⟩,
          ⟨some 56, .fad 0 (.tmp 4), some (55, false), [6, 7, 8, 9, 10, 11, 12, 13]⟩,
          ⟨some 57, .load 1 false (.tmp 56), some (55, false), [6, 7, 8, 9, 10, 11, 12, 13]⟩,
          ⟨some 58, .fad 1 (.tmp 1), some (55, false), [4, 5, 8, 9, 10, 12]⟩,
          ⟨some 59, .load 1 false (.tmp 58), some (55, false), [4, 5, 8, 9, 10, 12]⟩,
          ⟨some 60, .fad 2 (.tmp 1), some (55, false), [4, 5, 6, 7, 12]⟩,
          ⟨some 61, .load 1 false (.tmp 60), some (55, false), [4, 5, 6, 7, 12]⟩,
          ⟨some 62, .len (.tmp 61), some (55, false), [4, 5, 6, 7, 12]⟩,
          ⟨some 63, .pur (mkO (.binOp .sub 3 (.tmp 59) (.tmp 62) 3) 3), some (55, false), [4, 5, 12]⟩,
          ⟨some 64, .mov (.tmp 3), some (55, false), [4, 5, 6, 7, 8, 9, 10, 11]⟩,
          ⟨some 65, .pur (mkO (.binOp .add 3 (.tmp 63) (.tmp 64) 3) 3), some (55, false), [4, 5]⟩,
          ⟨some 66, .pur (mkO (.binOp .neq 3 (.tmp 57) (.tmp 65) 3) 4), some (55, false), []⟩,
          ⟨some 67, .pick (.tmp 55) (.const (.bool true)) (.tmp 66), none, []⟩,
          ⟨some 68, .mov (.tmp 67), none, []⟩,
          ⟨some 69, .fad 1 (.tmp 4), some (68, false), []⟩,
          ⟨some 70, .load 1 false (.tmp 69), some (68, false), []⟩,
          ⟨some 71, .len (.tmp 70), some (68, false), []⟩,
          ⟨some 72, .pur (mkO (.binOp .gtr 3 (.tmp 71) (.const (.int .i64 900)) 3) 4), some (68, false), []⟩,
          ⟨some 73, .pick (.tmp 68) (.const (.bool true)) (.tmp 72), none, []⟩] false)
        (.cond (.tmp 73)
          (.seq (.region [⟨some 2, .mov (.const (.int .i64 8)), none, []⟩] false)
          .ret)
          .skip))))
      (.region [⟨some 74, .pur (mkO (.binOp .add 3 (.tmp 47) (.const (.int .i64 1)) 3) 3), none, []⟩,
        ⟨some 47, .mov (.tmp 74), none, []⟩] false)))))))
  (.seq (.region [⟨some 2, .mov (.const (.int .i64 0)), none, []⟩] false)
  .ret))))
def a11 : AFunc := ⟨75, c11, [.tmp 2], 1⟩

/-- blindstamp/blindstamplaw25.made -/
def c12 : ACode :=
  (.seq (.region [⟨some 2, .alloc 39 (.agg #[(.int .i64 0), (.int .i64 0), (.slice none 0 0), (.int .i64 0), (.int .i64 0), (.bool false), (.int .i64 0), (.int .i64 0), (.slice none 0 0), (.int .i64 0), (.int .i64 0), (.bool false), (.slice none 0 0), (.slice none 0 0), (.slice none 0 0), (.slice none 0 0), (.bool false)]), none, []⟩] false)
  (.seq (.region [⟨some 8, .mov (.tmp 0), none, [5]⟩,
    ⟨some 9, .call (.func 22) [(.tmp 8)], none, [5]⟩,
    ⟨some 7, .mov (.tmp 9), none, [5]⟩,
    ⟨some 10, .ext (.tmp 7) 0, none, [4, 5]⟩,
    ⟨some 11, .ext (.tmp 7) 1, none, [3, 5, 6]⟩,
    ⟨some 3, .alloc 24 (.agg #[(.int .i64 0), (.int .i64 0), (.slice none 0 0), (.int .i64 0), (.int .i64 0), (.bool false)]), none, [0, 1, 2, 3, 4]⟩,
    ⟨none, .store 6 (.tmp 3) (.tmp 10), none, [4]⟩,
    ⟨some 4, .mov (.tmp 11), none, []⟩] false)
  (.seq (.region [⟨some 13, .mov (.tmp 0), none, [5]⟩,
    ⟨some 14, .call (.func 22) [(.tmp 13)], none, [5]⟩,
    ⟨some 12, .mov (.tmp 14), none, [5]⟩,
    ⟨some 15, .ext (.tmp 12) 0, none, [4, 5]⟩,
    ⟨some 16, .ext (.tmp 12) 1, none, [3, 5, 6]⟩,
    ⟨some 5, .alloc 24 (.agg #[(.int .i64 0), (.int .i64 0), (.slice none 0 0), (.int .i64 0), (.int .i64 0), (.bool false)]), none, [0, 1, 2, 3, 4]⟩,
    ⟨none, .store 6 (.tmp 5) (.tmp 15), none, [4]⟩,
    ⟨some 6, .mov (.tmp 16), none, []⟩] false)
  (.seq (.region [⟨some 17, .load 6 true (.tmp 3), none, [1, 2, 3, 4, 5, 6, 7]⟩,
    ⟨some 18, .load 6 true (.tmp 5), none, [0, 2, 3, 4, 5, 6, 7]⟩,
    ⟨some 19, .mov (.tmp 4), none, [0, 1]⟩,
    ⟨some 20, .pur (mkO (.binOp .eql 28 (.tmp 19) (.const (.int .i64 0)) 28) 4), none, [0, 1]⟩,
    ⟨some 21, .mov (.tmp 20), none, [0, 1]⟩,
    ⟨some 22, .mov (.tmp 6), some (21, true), [0, 1]⟩,
    ⟨some 23, .pur (mkO (.binOp .eql 28 (.tmp 22) (.const (.int .i64 0)) 28) 4), some (21, true), [0, 1]⟩,
    ⟨some 24, .pick (.tmp 21) (.tmp 23) (.const (.bool false)), none, [0, 1]⟩,
    ⟨some 25, .build (.agg #[(.int .i64 0), (.int .i64 0), (.slice none 0 0), (.int .i64 0), (.int .i64 0), (.bool false), (.int .i64 0), (.int .i64 0), (.slice none 0 0), (.int .i64 0), (.int .i64 0), (.bool false), (.slice none 0 0), (.slice none 0 0), (.slice none 0 0), (.slice none 0 0), (.bool false)]) [(0, 6, (.tmp 17)), (6, 6, (.tmp 18)), (16, 1, (.tmp 24))], none, []⟩,
    ⟨none, .store 17 (.tmp 2) (.tmp 25), none, []⟩] false)
  .ret))))
def a12 : AFunc := ⟨26, c12, [.cell 2 17 true], 1⟩

/-- blindstamp/blindstamplaw25.does -/
def c13 : ACode :=
  (.seq (.region [⟨some 2, .box 39 (.tmp 0), none, [1, 2]⟩,
    ⟨some 3, .box 43 (.tmp 1), none, [0, 2]⟩,
    ⟨some 4, .alloc 39 (.agg #[(.int .i64 0), (.int .i64 0), (.slice none 0 0), (.int .i64 0), (.int .i64 0), (.bool false), (.int .i64 0), (.int .i64 0), (.slice none 0 0), (.int .i64 0), (.int .i64 0), (.bool false), (.slice none 0 0), (.slice none 0 0), (.slice none 0 0), (.slice none 0 0), (.bool false)]), none, [0, 1]⟩] false)
  (.seq (.seq (.region [⟨some 7, .fad 0 (.tmp 3), none, []⟩,
    ⟨some 8, .load 1 false (.tmp 7), none, []⟩] false)
  (.block 0 (.seq (.region [⟨some 10, .pur (mkO (.binOp .eql 5 (.tmp 8) (.const (.int .u8 0)) 5) 4), none, []⟩,
      ⟨some 9, .mov (.tmp 10), none, []⟩] false)
    (.cond (.tmp 9)
      (.seq (.region [⟨some 12, .fad 0 (.tmp 2), none, [2, 3, 4, 5, 10]⟩,
        ⟨some 13, .load 6 true (.tmp 12), none, [2, 3, 4, 5, 10]⟩,
        ⟨some 14, .fad 1 (.tmp 3), none, [0, 1, 10]⟩,
        ⟨some 15, .load 1 false (.tmp 14), none, [0, 1, 10]⟩,
        ⟨some 16, .pur (mkO (.convert 3 5 (.tmp 15)) 5), none, [0, 1, 10]⟩,
        ⟨some 17, .bsl 5 1 (.int .u8 0) 1 [(0, 1, (.tmp 16))], none, [0, 1, 10]⟩,
        ⟨some 18, .call (.func 23) [(.tmp 13), (.tmp 17)], none, [10]⟩,
        ⟨some 11, .mov (.tmp 18), none, [10]⟩,
        ⟨some 19, .ext (.tmp 11) 0, none, [9, 10]⟩,
        ⟨some 20, .ext (.tmp 11) 1, none, [8, 10, 11]⟩,
        ⟨some 5, .alloc 24 (.agg #[(.int .i64 0), (.int .i64 0), (.slice none 0 0), (.int .i64 0), (.int .i64 0), (.bool false)]), none, [0, 1, 2, 3, 4, 5, 6, 7, 8, 9]⟩,
        ⟨none, .store 6 (.tmp 5) (.tmp 19), none, [9]⟩,
        ⟨some 6, .mov (.tmp 20), none, []⟩] false)
      (.seq (.seq (.region [⟨some 21, .mov (.tmp 6), none, []⟩,
        ⟨some 22, .pur (mkO (.binOp .eql 28 (.tmp 21) (.const (.int .i64 0)) 28) 4), none, []⟩] false)
      (.cond (.tmp 22)
        (.seq (.region [⟨some 23, .load 6 true (.tmp 5), none, []⟩,
          ⟨some 24, .fad 0 (.tmp 2), none, []⟩,
          ⟨none, .store 6 (.tmp 24) (.tmp 23), none, []⟩] false)
        (.region [⟨some 25, .fad 14 (.tmp 2), none, [3, 4, 5, 6]⟩,
          ⟨some 26, .load 1 false (.tmp 25), none, [3, 4, 5, 6]⟩,
          ⟨some 27, .app 5 1 1 (.int .u8 0) (.const (.slice none 0 0)) (.tmp 26), none, [3, 4, 5, 6]⟩,
          ⟨some 28, .fad 1 (.tmp 3), none, [0, 1, 2]⟩,
          ⟨some 29, .load 1 false (.tmp 28), none, [0, 1, 2]⟩,
          ⟨some 30, .pur (mkO (.convert 3 5 (.tmp 29)) 5), none, [0, 1, 2]⟩,
          ⟨some 31, .bsl 5 1 (.int .u8 0) 1 [(0, 1, (.tmp 30))], none, [0, 1, 2]⟩,
          ⟨some 32, .app 5 1 1 (.int .u8 0) (.tmp 27) (.tmp 31), none, []⟩,
          ⟨some 33, .fad 14 (.tmp 2), none, []⟩,
          ⟨none, .store 1 (.tmp 33) (.tmp 32), none, []⟩] true))
        .skip))
      (.seq (.region [⟨some 34, .fad 16 (.tmp 2), none, []⟩,
        ⟨some 35, .load 1 false (.tmp 34), none, []⟩,
        ⟨some 36, .mov (.tmp 35), none, []⟩,
        ⟨some 37, .mov (.tmp 6), some (36, true), []⟩,
        ⟨some 38, .pur (mkO (.binOp .eql 28 (.tmp 37) (.const (.int .i64 0)) 28) 4), some (36, true), []⟩,
        ⟨some 39, .mov (.tmp 38), some (36, true), []⟩,
        ⟨some 40, .mov (.tmp 6), some (39, false), []⟩,
        ⟨some 41, .pur (mkO (.binOp .eql 28 (.tmp 40) (.const (.int .i64 9)) 28) 4), some (39, false), []⟩,
        ⟨some 42, .pick (.tmp 39) (.const (.bool true)) (.tmp 41), some (36, true), []⟩,
        ⟨some 43, .pick (.tmp 36) (.tmp 42) (.const (.bool false)), none, []⟩,
        ⟨some 44, .fad 16 (.tmp 2), none, []⟩,
        ⟨none, .store 1 (.tmp 44) (.tmp 43), none, []⟩] false)
      (.seq (.region [⟨some 45, .load 17 true (.tmp 2), none, []⟩,
        ⟨none, .store 17 (.tmp 4) (.tmp 45), none, []⟩] false)
      .ret))))
      (.seq (.seq (.region [⟨some 47, .pur (mkO (.binOp .eql 5 (.tmp 8) (.const (.int .u8 1)) 5) 4), none, []⟩,
        ⟨some 46, .mov (.tmp 47), none, []⟩] false)
      (.cond (.tmp 46)
        .skip
        (.region [⟨some 48, .pur (mkO (.binOp .eql 5 (.tmp 8) (.const (.int .u8 2)) 5) 4), none, []⟩,
          ⟨some 46, .mov (.tmp 48), none, []⟩] false)))
      (.cond (.tmp 46)
        (.seq (.region [⟨some 49, .load 17 true (.tmp 2), none, [1, 2, 3]⟩,
          ⟨some 50, .fad 0 (.tmp 3), none, [0]⟩,
          ⟨some 51, .load 1 false (.tmp 50), none, [0]⟩,
          ⟨some 52, .pur (mkO (.binOp .eql 5 (.tmp 51) (.const (.int .u8 2)) 5) 4), none, [0]⟩,
          ⟨some 53, .call (.func 29) [(.tmp 49), (.tmp 52), (.const (.bool false))], none, []⟩,
          ⟨none, .store 17 (.tmp 4) (.tmp 53), none, []⟩] false)
        .ret)
        (.seq (.seq (.region [⟨some 55, .pur (mkO (.binOp .eql 5 (.tmp 8) (.const (.int .u8 3)) 5) 4), none, []⟩,
          ⟨some 54, .mov (.tmp 55), none, []⟩] false)
        (.cond (.tmp 54)
          .skip
          (.region [⟨some 56, .pur (mkO (.binOp .eql 5 (.tmp 8) (.const (.int .u8 4)) 5) 4), none, []⟩,
            ⟨some 54, .mov (.tmp 56), none, []⟩] false)))
        (.cond (.tmp 54)
          (.seq (.region [⟨some 57, .load 17 true (.tmp 2), none, [1, 2, 3, 4, 5]⟩,
            ⟨some 58, .fad 1 (.tmp 3), none, [0, 3, 4, 5]⟩,
            ⟨some 59, .load 1 false (.tmp 58), none, [0, 3, 4, 5]⟩,
            ⟨some 60, .fad 0 (.tmp 3), none, [0, 1, 2]⟩,
            ⟨some 61, .load 1 false (.tmp 60), none, [0, 1, 2]⟩,
            ⟨some 62, .pur (mkO (.binOp .eql 5 (.tmp 61) (.const (.int .u8 4)) 5) 4), none, [0, 1, 2]⟩,
            ⟨some 63, .call (.func 30) [(.tmp 57), (.tmp 59), (.tmp 62), (.const (.bool false))], none, []⟩,
            ⟨none, .store 17 (.tmp 4) (.tmp 63), none, []⟩] false)
          .ret)
          (.seq (.seq (.region [⟨some 65, .pur (mkO (.binOp .eql 5 (.tmp 8) (.const (.int .u8 5)) 5) 4), none, []⟩,
            ⟨some 64, .mov (.tmp 65), none, []⟩] false)
          (.cond (.tmp 64)
            .skip
            (.region [⟨some 66, .pur (mkO (.binOp .eql 5 (.tmp 8) (.const (.int .u8 6)) 5) 4), none, []⟩,
              ⟨some 64, .mov (.tmp 66), none, []⟩] false)))
          (.cond (.tmp 64)
            (.seq (.region [⟨some 67, .load 17 true (.tmp 2), none, [1, 2, 3, 4, 5]⟩,
              ⟨some 68, .fad 1 (.tmp 3), none, [0, 3, 4, 5]⟩,
              ⟨some 69, .load 1 false (.tmp 68), none, [0, 3, 4, 5]⟩,
              ⟨some 70, .fad 0 (.tmp 3), none, [0, 1, 2]⟩,
              ⟨some 71, .load 1 false (.tmp 70), none, [0, 1, 2]⟩,
              ⟨some 72, .pur (mkO (.binOp .eql 5 (.tmp 71) (.const (.int .u8 6)) 5) 4), none, [0, 1, 2]⟩,
              ⟨some 73, .call (.func 31) [(.tmp 67), (.tmp 69), (.tmp 72)], none, []⟩,
              ⟨none, .store 17 (.tmp 4) (.tmp 73), none, []⟩] false)
            .ret)
            (.seq (.seq (.region [⟨some 75, .pur (mkO (.binOp .eql 5 (.tmp 8) (.const (.int .u8 7)) 5) 4), none, []⟩,
              ⟨some 74, .mov (.tmp 75), none, []⟩] false)
            (.cond (.tmp 74)
              .skip
              (.region [⟨some 76, .pur (mkO (.binOp .eql 5 (.tmp 8) (.const (.int .u8 8)) 5) 4), none, []⟩,
                ⟨some 74, .mov (.tmp 76), none, []⟩] false)))
            (.cond (.tmp 74)
              (.seq (.region [⟨some 77, .load 17 true (.tmp 2), none, [1, 2, 3, 4, 5]⟩,
                ⟨some 78, .fad 1 (.tmp 3), none, [0, 3, 4, 5]⟩,
                ⟨some 79, .load 1 false (.tmp 78), none, [0, 3, 4, 5]⟩,
                ⟨some 80, .fad 0 (.tmp 3), none, [0, 1, 2]⟩,
                ⟨some 81, .load 1 false (.tmp 80), none, [0, 1, 2]⟩,
                ⟨some 82, .pur (mkO (.binOp .eql 5 (.tmp 81) (.const (.int .u8 8)) 5) 4), none, [0, 1, 2]⟩,
                ⟨some 83, .call (.func 30) [(.tmp 77), (.tmp 79), (.tmp 82), (.const (.bool true))], none, []⟩,
                ⟨none, .store 17 (.tmp 4) (.tmp 83), none, []⟩] false)
              .ret)
              (.seq (.seq (.region [⟨some 85, .pur (mkO (.binOp .eql 5 (.tmp 8) (.const (.int .u8 9)) 5) 4), none, []⟩,
                ⟨some 84, .mov (.tmp 85), none, []⟩] false)
              (.cond (.tmp 84)
                .skip
                (.region [⟨some 86, .pur (mkO (.binOp .eql 5 (.tmp 8) (.const (.int .u8 10)) 5) 4), none, []⟩,
                  ⟨some 84, .mov (.tmp 86), none, []⟩] false)))
              (.cond (.tmp 84)
                (.seq (.region [⟨some 87, .load 17 true (.tmp 2), none, [1, 2, 3]⟩,
                  ⟨some 88, .fad 0 (.tmp 3), none, [0]⟩,
                  ⟨some 89, .load 1 false (.tmp 88), none, [0]⟩,
                  ⟨some 90, .pur (mkO (.binOp .eql 5 (.tmp 89) (.const (.int .u8 10)) 5) 4), none, [0]⟩,
                  ⟨some 91, .call (.func 29) [(.tmp 87), (.tmp 90), (.const (.bool true))], none, []⟩,
                  ⟨none, .store 17 (.tmp 4) (.tmp 91), none, []⟩] false)
                .ret)
                .skip))))))))))))))
  (.seq (.region [⟨some 92, .load 17 true (.tmp 2), none, []⟩,
    ⟨none, .store 17 (.tmp 4) (.tmp 92), none, []⟩] false)
  .ret)))
def a13 : AFunc := ⟨93, c13, [.cell 4 17 true], 1⟩

/-- blindstamp/blindstamplaw25.round -/
def c14 : ACode :=
  (.seq (.region [⟨some 1, .box 39 (.tmp 0), none, [1]⟩,
    ⟨some 2, .alloc 39 (.agg #[(.int .i64 0), (.int .i64 0), (.slice none 0 0), (.int .i64 0), (.int .i64 0), (.bool false), (.int .i64 0), (.int .i64 0), (.slice none 0 0), (.int .i64 0), (.int .i64 0), (.bool false), (.slice none 0 0), (.slice none 0 0), (.slice none 0 0), (.slice none 0 0), (.bool false)]), none, [0]⟩] false)
  (.seq (.region [⟨some 5, .load 17 true (.tmp 1), none, []⟩,
    ⟨some 6, .call (.func 29) [(.tmp 5), (.const (.bool false)), (.const (.bool false))], none, []⟩,
    ⟨none, .store 17 (.tmp 1) (.tmp 6), none, []⟩] false)
  (.seq (.seq (.region [⟨some 3, .mov (.const (.int .i64 0)), none, []⟩] false)
  (.block 0 (.loop (.seq (.seq (.region [⟨some 7, .mov (.tmp 3), none, []⟩,
        ⟨some 8, .pur (mkO (.binOp .lss 3 (.tmp 7) (.const (.int .i64 500)) 3) 4), none, []⟩,
        ⟨some 9, .mov (.tmp 8), none, []⟩,
        ⟨some 10, .fad 12 (.tmp 1), some (9, true), []⟩,
        ⟨some 11, .load 1 false (.tmp 10), some (9, true), []⟩,
        ⟨some 12, .len (.tmp 11), some (9, true), []⟩,
        ⟨some 13, .pur (mkO (.binOp .gtr 3 (.tmp 12) (.const (.int .i64 0)) 3) 4), some (9, true), []⟩,
        ⟨some 14, .pick (.tmp 9) (.tmp 13) (.const (.bool false)), none, []⟩] false)
      (.cond (.tmp 14)
        .skip
        (.exit 0)))
      (.seq (.block 1 (.region [⟨some 17, .load 17 true (.tmp 1), none, []⟩,
          ⟨some 18, .call (.func 30) [(.tmp 17), (.const (.int .i64 0)), (.const (.bool false)), (.const (.bool false))], none, []⟩,
          ⟨none, .store 17 (.tmp 1) (.tmp 18), none, []⟩] false))
      (.region [⟨some 15, .mov (.tmp 3), none, []⟩,
        ⟨some 16, .pur (mkO (.binOp .add 3 (.tmp 15) (.const (.int .i64 1)) 3) 3), none, []⟩,
        ⟨some 3, .mov (.tmp 16), none, []⟩] false))))))
  (.seq (.region [⟨some 19, .load 17 true (.tmp 1), none, []⟩,
    ⟨some 20, .call (.func 29) [(.tmp 19), (.const (.bool true)), (.const (.bool false))], none, []⟩,
    ⟨none, .store 17 (.tmp 1) (.tmp 20), none, []⟩] false)
  (.seq (.seq (.region [⟨some 4, .mov (.const (.int .i64 0)), none, []⟩] false)
  (.block 2 (.loop (.seq (.seq (.region [⟨some 21, .mov (.tmp 4), none, []⟩,
        ⟨some 22, .pur (mkO (.binOp .lss 3 (.tmp 21) (.const (.int .i64 500)) 3) 4), none, []⟩,
        ⟨some 23, .mov (.tmp 22), none, []⟩,
        ⟨some 24, .fad 13 (.tmp 1), some (23, true), []⟩,
        ⟨some 25, .load 1 false (.tmp 24), some (23, true), []⟩,
        ⟨some 26, .len (.tmp 25), some (23, true), []⟩,
        ⟨some 27, .pur (mkO (.binOp .gtr 3 (.tmp 26) (.const (.int .i64 0)) 3) 4), some (23, true), []⟩,
        ⟨some 28, .pick (.tmp 23) (.tmp 27) (.const (.bool false)), none, []⟩] false)
      (.cond (.tmp 28)
        .skip
        (.exit 2)))
      (.seq (.block 3 (.region [⟨some 31, .load 17 true (.tmp 1), none, []⟩,
          ⟨some 32, .call (.func 30) [(.tmp 31), (.const (.int .i64 0)), (.const (.bool true)), (.const (.bool false))], none, []⟩,
          ⟨none, .store 17 (.tmp 1) (.tmp 32), none, []⟩] false))
      (.region [⟨some 29, .mov (.tmp 4), none, []⟩,
        ⟨some 30, .pur (mkO (.binOp .add 3 (.tmp 29) (.const (.int .i64 1)) 3) 3), none, []⟩,
        ⟨some 4, .mov (.tmp 30), none, []⟩] false))))))
  (.seq (.region [⟨some 33, .load 17 true (.tmp 1), none, []⟩,
    ⟨none, .store 17 (.tmp 2) (.tmp 33), none, []⟩] false)
  .ret))))))
def a14 : AFunc := ⟨34, c14, [.cell 2 17 true], 1⟩

/-- blindstamp/blindstampref25.SamePackets -/
def c19 : ACode :=
  (.seq (.region [⟨some 4, .mov (.const (.bool false)), none, []⟩] false)
  (.seq (.seq (.region [⟨some 6, .mov (.tmp 0), none, [2, 3]⟩,
    ⟨some 7, .len (.tmp 6), none, [2, 3]⟩,
    ⟨some 8, .mov (.tmp 1), none, [0, 1]⟩,
    ⟨some 9, .len (.tmp 8), none, [0, 1]⟩,
    ⟨some 10, .pur (mkO (.binOp .neq 3 (.tmp 7) (.tmp 9) 3) 4), none, []⟩] false)
  (.cond (.tmp 10)
    (.seq (.region [⟨some 4, .mov (.const (.bool false)), none, []⟩] false)
    .ret)
    .skip))
  (.seq (.seq (.region [⟨some 5, .mov (.const (.int .i64 0)), none, []⟩] false)
  (.block 0 (.loop (.seq (.seq (.region [⟨some 11, .mov (.tmp 5), none, [1, 2]⟩,
        ⟨some 12, .mov (.tmp 0), none, [0]⟩,
        ⟨some 13, .len (.tmp 12), none, [0]⟩,
        ⟨some 14, .pur (mkO (.binOp .lss 3 (.tmp 11) (.tmp 13) 3) 4), none, []⟩] false)
      (.cond (.tmp 14)
        .skip
        (.exit 0)))
      (.seq (.block 1 (.seq (.region [⟨some 17, .mov (.tmp 0), none, [1, 5, 6, 7, 8, 9]⟩,
          ⟨some 18, .mov (.tmp 5), none, [0, 5, 6, 7, 8, 9]⟩,
          ⟨some 19, .iad 4 (.tmp 17) (.tmp 18), none, [5, 6, 7, 8, 9]⟩,
          ⟨some 20, .fad 0 (.tmp 19), none, [5, 6, 7, 8, 9]⟩,
          ⟨some 21, .load 1 false (.tmp 20), none, [5, 6, 7, 8, 9]⟩,
          ⟨some 22, .mov (.tmp 1), none, [0, 1, 2, 3, 4, 6]⟩,
          ⟨some 23, .mov (.tmp 5), none, [0, 1, 2, 3, 4, 5]⟩,
          ⟨some 24, .iad 4 (.tmp 22) (.tmp 23), none, [0, 1, 2, 3, 4]⟩,
          ⟨some 25, .fad 0 (.tmp 24), none, [0, 1, 2, 3, 4]⟩,
          ⟨some 26, .load 1 false (.tmp 25), none, [0, 1, 2, 3, 4]⟩,
          ⟨some 27, .pur (mkO (.binOp .neq 3 (.tmp 21) (.tmp 26) 3) 4), none, []⟩,
          ⟨some 28, .mov (.tmp 27), none, []⟩,
          ⟨some 29, .mov (.tmp 0), some (28, false), [13, 17, 18, 19, 20, 21]⟩,
          ⟨some 30, .mov (.tmp 5), some (28, false), [12, 17, 18, 19, 20, 21]⟩,
          ⟨some 31, .iad 4 (.tmp 29) (.tmp 30), some (28, false), [17, 18, 19, 20, 21]⟩,
          ⟨some 32, .fad 1 (.tmp 31), some (28, false), [17, 18, 19, 20, 21]⟩,
          ⟨some 33, .load 1 false (.tmp 32), some (28, false), [17, 18, 19, 20, 21]⟩,
          ⟨some 34, .mov (.tmp 1), some (28, false), [12, 13, 14, 15, 16, 18]⟩,
          ⟨some 35, .mov (.tmp 5), some (28, false), [12, 13, 14, 15, 16, 17]⟩,
          ⟨some 36, .iad 4 (.tmp 34) (.tmp 35), some (28, false), [12, 13, 14, 15, 16]⟩,
          ⟨some 37, .fad 1 (.tmp 36), some (28, false), [12, 13, 14, 15, 16]⟩,
          ⟨some 38, .load 1 false (.tmp 37), some (28, false), [12, 13, 14, 15, 16]⟩,
          ⟨some 39, .pur (mkO (.binOp .neq 3 (.tmp 33) (.tmp 38) 3) 4), some (28, false), []⟩,
          ⟨some 40, .pick (.tmp 28) (.const (.bool true)) (.tmp 39), none, []⟩,
          ⟨some 41, .mov (.tmp 40), none, []⟩,
          ⟨some 42, .mov (.tmp 0), some (41, false), [26, 30, 31, 32, 33, 34]⟩,
          ⟨some 43, .mov (.tmp 5), some (41, false), [25, 30, 31, 32, 33, 34]⟩,
          ⟨some 44, .iad 4 (.tmp 42) (.tmp 43), some (41, false), [30, 31, 32, 33, 34]⟩,
          ⟨some 45, .fad 2 (.tmp 44), some (41, false), [30, 31, 32, 33, 34]⟩,
          ⟨some 46, .load 1 false (.tmp 45), some (41, false), [30, 31, 32, 33, 34]⟩,
          ⟨some 47, .mov (.tmp 1), some (41, false), [25, 26, 27, 28, 29, 31]⟩,
          ⟨some 48, .mov (.tmp 5), some (41, false), [25, 26, 27, 28, 29, 30]⟩,
          ⟨some 49, .iad 4 (.tmp 47) (.tmp 48), some (41, false), [25, 26, 27, 28, 29]⟩,
          ⟨some 50, .fad 2 (.tmp 49), some (41, false), [25, 26, 27, 28, 29]⟩,
          ⟨some 51, .load 1 false (.tmp 50), some (41, false), [25, 26, 27, 28, 29]⟩,
          ⟨some 52, .pur (mkO (.binOp .neq 3 (.tmp 46) (.tmp 51) 3) 4), some (41, false), []⟩,
          ⟨some 53, .pick (.tmp 41) (.const (.bool true)) (.tmp 52), none, []⟩,
          ⟨some 54, .mov (.tmp 53), none, []⟩,
          ⟨some 55, .mov (.tmp 0), some (54, false), [39, 44, 45, 46, 47, 48, 49]⟩,
          ⟨some 56, .mov (.tmp 5), some (54, false), [38, 44, 45, 46, 47, 48, 49]⟩,
          ⟨some 57, .iad 4 (.tmp 55) (.tmp 56), some (54, false), [44, 45, 46, 47, 48, 49]⟩,
          ⟨some 58, .fad 3 (.tmp 57), some (54, false), [44, 45, 46, 47, 48, 49]⟩,
          ⟨some 59, .load 1 false (.tmp 58), some (54, false), [44, 45, 46, 47, 48, 49]⟩,
          ⟨some 60, .b2s (.tmp 59), some (54, false), [44, 45, 46, 47, 48, 49]⟩,
          ⟨some 61, .mov (.tmp 1), some (54, false), [38, 39, 40, 41, 42, 43, 45]⟩,
          ⟨some 62, .mov (.tmp 5), some (54, false), [38, 39, 40, 41, 42, 43, 44]⟩,
          ⟨some 63, .iad 4 (.tmp 61) (.tmp 62), some (54, false), [38, 39, 40, 41, 42, 43]⟩,
          ⟨some 64, .fad 3 (.tmp 63), some (54, false), [38, 39, 40, 41, 42, 43]⟩,
          ⟨some 65, .load 1 false (.tmp 64), some (54, false), [38, 39, 40, 41, 42, 43]⟩,
          ⟨some 66, .b2s (.tmp 65), some (54, false), [38, 39, 40, 41, 42, 43]⟩,
          ⟨some 67, .pur (mkO (.binOp .neq 9 (.tmp 60) (.tmp 66) 9) 4), some (54, false), []⟩,
          ⟨some 68, .pick (.tmp 54) (.const (.bool true)) (.tmp 67), none, []⟩] true)
        (.cond (.tmp 68)
          (.seq (.region [⟨some 4, .mov (.const (.bool false)), none, []⟩] false)
          .ret)
          .skip)))
      (.region [⟨some 15, .mov (.tmp 5), none, []⟩,
        ⟨some 16, .pur (mkO (.binOp .add 3 (.tmp 15) (.const (.int .i64 1)) 3) 3), none, []⟩,
        ⟨some 5, .mov (.tmp 16), none, []⟩] false))))))
  (.seq (.region [⟨some 4, .mov (.const (.bool true)), none, []⟩] false)
  .ret))))
def a19 : AFunc := ⟨69, c19, [.tmp 4], 1⟩

/-- blindstamp/link.CheckPacket -/
def c20 : ACode :=
  (.seq (.region [⟨some 1, .box 47 (.tmp 0), none, [1]⟩,
    ⟨some 2, .mov (.const (.int .i64 0)), none, [0]⟩] false)
  (.seq (.region [⟨some 4, .fad 0 (.tmp 1), none, []⟩,
    ⟨some 5, .load 1 false (.tmp 4), none, []⟩,
    ⟨some 6, .call (.func 28) [(.tmp 5), (.const (.int .i64 0)), (.const (.int .i64 2147483648))], none, []⟩,
    ⟨some 7, .mov (.tmp 6), none, []⟩,
    ⟨some 8, .fad 1 (.tmp 1), some (7, true), []⟩,
    ⟨some 9, .load 1 false (.tmp 8), some (7, true), []⟩,
    ⟨some 10, .call (.func 28) [(.tmp 9), (.const (.int .i64 0)), (.const (.int .i64 16777216))], some (7, true), []⟩,
    ⟨some 11, .pick (.tmp 7) (.tmp 10) (.const (.bool false)), none, []⟩,
    ⟨some 12, .mov (.tmp 11), none, []⟩,
    ⟨some 13, .fad 2 (.tmp 1), some (12, true), []⟩,
    ⟨some 14, .load 1 false (.tmp 13), some (12, true), []⟩,
    ⟨some 15, .call (.func 28) [(.tmp 14), (.const (.int .i64 0)), (.const (.int .i64 16777216))], some (12, true), []⟩,
    ⟨some 16, .pick (.tmp 12) (.tmp 15) (.const (.bool false)), none, []⟩,
    ⟨some 3, .mov (.tmp 16), none, []⟩] false)
  (.seq (.seq (.region [⟨some 17, .mov (.tmp 3), none, []⟩,
    ⟨some 18, .pur (mkO (.unOp .not 4 (.tmp 17)) 4), none, []⟩,
    ⟨some 19, .mov (.tmp 18), none, []⟩,
    ⟨some 20, .fad 3 (.tmp 1), some (19, false), []⟩,
    ⟨some 21, .load 1 false (.tmp 20), some (19, false), []⟩,
    ⟨some 22, .len (.tmp 21), some (19, false), []⟩,
    ⟨some 23, .pur (mkO (.binOp .gtr 3 (.tmp 22) (.const (.int .i64 900)) 3) 4), some (19, false), []⟩,
    ⟨some 24, .pick (.tmp 19) (.const (.bool true)) (.tmp 23), none, []⟩,
    ⟨some 25, .mov (.tmp 24), none, []⟩,
    ⟨some 26, .fad 1 (.tmp 1), some (25, false), []⟩,
    ⟨some 27, .load 1 false (.tmp 26), some (25, false), []⟩,
    ⟨some 28, .pur (mkO (.binOp .eql 3 (.tmp 27) (.const (.int .i64 0)) 3) 4), some (25, false), []⟩,
    ⟨some 29, .mov (.tmp 28), some (25, false), []⟩,
    ⟨some 30, .fad 3 (.tmp 1), some (29, true), []⟩,
    ⟨some 31, .load 1 false (.tmp 30), some (29, true), []⟩,
    ⟨some 32, .len (.tmp 31), some (29, true), []⟩,
    ⟨some 33, .pur (mkO (.binOp .gtr 3 (.tmp 32) (.const (.int .i64 0)) 3) 4), some (29, true), []⟩,
    ⟨some 34, .pick (.tmp 29) (.tmp 33) (.const (.bool false)), some (25, false), []⟩,
    ⟨some 35, .pick (.tmp 25) (.const (.bool true)) (.tmp 34), none, []⟩] false)
  (.cond (.tmp 35)
    (.seq (.region [⟨some 2, .mov (.const (.int .i64 8)), none, []⟩] false)
    .ret)
    .skip))
  (.seq (.region [⟨some 2, .mov (.const (.int .i64 0)), none, []⟩] false)
  .ret))))
def a20 : AFunc := ⟨36, c20, [.tmp 2], 1⟩

/-- blindstamp/link.New -/
def c22 : ACode :=
  (.seq (.region [⟨some 2, .alloc 24 (.agg #[(.int .i64 0), (.int .i64 0), (.slice none 0 0), (.int .i64 0), (.int .i64 0), (.bool false)]), none, [1]⟩,
    ⟨some 3, .mov (.const (.int .i64 0)), none, [0]⟩] false)
  (.seq (.seq (.region [⟨some 4, .mov (.tmp 0), none, []⟩,
    ⟨some 5, .call (.func 28) [(.tmp 4), (.const (.int .i64 0)), (.const (.int .i64 2147483648))], none, []⟩,
    ⟨some 6, .pur (mkO (.unOp .not 4 (.tmp 5)) 4), none, []⟩] false)
  (.cond (.tmp 6)
    (.seq (.region [⟨some 7, .build (.agg #[(.int .i64 0), (.int .i64 0), (.slice none 0 0), (.int .i64 0), (.int .i64 0), (.bool false)]) [], none, []⟩,
      ⟨none, .store 6 (.tmp 2) (.tmp 7), none, []⟩,
      ⟨some 3, .mov (.const (.int .i64 2)), none, []⟩] false)
    .ret)
    .skip))
  (.seq (.region [⟨some 8, .mov (.tmp 0), none, []⟩,
    ⟨some 9, .build (.agg #[(.int .i64 0), (.int .i64 0), (.slice none 0 0), (.int .i64 0), (.int .i64 0), (.bool false)]) [(0, 1, (.tmp 8)), (1, 1, (.const (.int .i64 1))), (3, 1, (.const (.int .i64 1)))], none, []⟩,
    ⟨none, .store 6 (.tmp 2) (.tmp 9), none, []⟩,
    ⟨some 3, .mov (.const (.int .i64 0)), none, []⟩] false)
  .ret)))
def a22 : AFunc := ⟨10, c22, [.cell 2 6 true, .tmp 3], 1⟩

/-- blindstamp/link.Put -/
def c23 : ACode :=
  (.seq (.region [⟨some 2, .box 24 (.tmp 0), none, [1, 2]⟩,
    ⟨some 4, .alloc 24 (.agg #[(.int .i64 0), (.int .i64 0), (.slice none 0 0), (.int .i64 0), (.int .i64 0), (.bool false)]), none, [0, 2]⟩,
    ⟨some 5, .mov (.const (.int .i64 0)), none, [0, 1]⟩] false)
  (.seq (.region [⟨some 10, .load 6 true (.tmp 2), none, []⟩,
    ⟨some 11, .call (.func 26) [(.tmp 10)], none, []⟩,
    ⟨some 9, .mov (.tmp 11), none, []⟩,
    ⟨some 12, .ext (.tmp 9) 0, none, [4]⟩,
    ⟨some 13, .ext (.tmp 9) 1, none, [3, 5]⟩,
    ⟨some 6, .mov (.tmp 12), none, [4]⟩,
    ⟨some 7, .mov (.tmp 13), none, []⟩] false)
  (.seq (.seq (.region [⟨some 14, .mov (.tmp 7), none, []⟩,
    ⟨some 15, .pur (mkO (.binOp .neq 28 (.tmp 14) (.const (.int .i64 0)) 28) 4), none, []⟩] false)
  (.cond (.tmp 15)
    (.seq (.region [⟨some 16, .build (.agg #[(.int .i64 0), (.int .i64 0), (.slice none 0 0), (.int .i64 0), (.int .i64 0), (.bool false)]) [], none, [1]⟩,
      ⟨some 17, .mov (.tmp 7), none, [0, 2]⟩,
      ⟨none, .store 6 (.tmp 4) (.tmp 16), none, [1]⟩,
      ⟨some 5, .mov (.tmp 17), none, []⟩] false)
    .ret)
    .skip))
  (.seq (.seq (.region [⟨some 18, .mov (.tmp 6), none, [1]⟩,
    ⟨some 19, .mov (.tmp 1), none, [0]⟩,
    ⟨some 20, .call (.func 27) [(.tmp 18), (.tmp 19)], none, []⟩,
    ⟨some 8, .mov (.tmp 20), none, []⟩] false)
  (.seq (.region [⟨some 21, .mov (.tmp 8), none, []⟩,
    ⟨some 22, .pur (mkO (.binOp .neq 28 (.tmp 21) (.const (.int .i64 0)) 28) 4), none, []⟩] false)
  (.cond (.tmp 22)
    (.seq (.region [⟨some 23, .build (.agg #[(.int .i64 0), (.int .i64 0), (.slice none 0 0), (.int .i64 0), (.int .i64 0), (.bool false)]) [], none, [1]⟩,
      ⟨some 24, .mov (.tmp 8), none, [0, 2]⟩,
      ⟨none, .store 6 (.tmp 4) (.tmp 23), none, [1]⟩,
      ⟨some 5, .mov (.tmp 24), none, []⟩] false)
    .ret)
    .skip)))
  (.seq (.region [⟨some 25, .mov (.tmp 6), none, []⟩,
    ⟨some 26, .nilck (.tmp 25), none, []⟩,
    ⟨some 27, .fad 0 (.tmp 26), none, []⟩,
    ⟨some 28, .load 6 true (.tmp 27), none, []⟩,
    ⟨none, .store 6 (.tmp 4) (.tmp 28), none, []⟩,
    ⟨some 5, .mov (.const (.int .i64 0)), none, []⟩] false)
  .ret)))))
def a23 : AFunc := ⟨29, c23, [.cell 4 6 true, .tmp 5], 1⟩

/-- blindstamp/link.Send -/
def c24 : ACode :=
  (.seq (.region [⟨some 1, .box 24 (.tmp 0), none, [1, 2, 3]⟩,
    ⟨some 2, .alloc 24 (.agg #[(.int .i64 0), (.int .i64 0), (.slice none 0 0), (.int .i64 0), (.int .i64 0), (.bool false)]), none, [0, 2, 3]⟩,
    ⟨some 3, .mov (.const (.slice none 0 0)), none, [0, 1]⟩,
    ⟨some 4, .mov (.const (.int .i64 0)), none, [0, 1]⟩] false)
  (.seq (.region [⟨some 9, .load 6 true (.tmp 1), none, []⟩,
    ⟨some 10, .call (.func 26) [(.tmp 9)], none, []⟩,
    ⟨some 8, .mov (.tmp 10), none, []⟩,
    ⟨some 11, .ext (.tmp 8) 0, none, [4]⟩,
    ⟨some 12, .ext (.tmp 8) 1, none, [3, 5]⟩,
    ⟨some 5, .mov (.tmp 11), none, [4]⟩,
    ⟨some 6, .mov (.tmp 12), none, []⟩] false)
  (.seq (.seq (.region [⟨some 13, .mov (.tmp 6), none, []⟩,
    ⟨some 14, .pur (mkO (.binOp .neq 28 (.tmp 13) (.const (.int .i64 0)) 28) 4), none, []⟩] false)
  (.cond (.tmp 14)
    (.seq (.region [⟨some 15, .build (.agg #[(.int .i64 0), (.int .i64 0), (.slice none 0 0), (.int .i64 0), (.int .i64 0), (.bool false)]) [], none, [1]⟩,
      ⟨some 16, .mov (.tmp 6), none, [0, 2, 3]⟩,
      ⟨none, .store 6 (.tmp 2) (.tmp 15), none, [1]⟩,
      ⟨some 3, .mov (.const (.slice none 0 0)), none, [1]⟩,
      ⟨some 4, .mov (.tmp 16), none, []⟩] false)
    .ret)
    .skip))
  (.seq (.region [⟨some 17, .mov (.tmp 5), none, []⟩,
    ⟨some 18, .call (.func 42) [(.tmp 17)], none, []⟩,
    ⟨some 7, .mov (.tmp 18), none, []⟩] false)
  (.seq (.region [⟨some 19, .mov (.tmp 5), none, [4]⟩,
    ⟨some 20, .nilck (.tmp 19), none, [4]⟩,
    ⟨some 21, .fad 0 (.tmp 20), none, [4]⟩,
    ⟨some 22, .load 6 true (.tmp 21), none, [4]⟩,
    ⟨some 23, .mov (.tmp 7), none, [0, 1, 2, 3, 5]⟩,
    ⟨none, .store 6 (.tmp 2) (.tmp 22), none, [4]⟩,
    ⟨some 3, .mov (.tmp 23), none, []⟩,
    ⟨some 4, .mov (.const (.int .i64 0)), none, []⟩] false)
  .ret)))))
def a24 : AFunc := ⟨24, c24, [.cell 2 6 true, .tmp 3, .tmp 4], 1⟩

/-- blindstamp/link.Take -/
def c25 : ACode :=
  (.seq (.region [⟨some 2, .box 24 (.tmp 0), none, [1, 2, 3, 4, 5]⟩,
    ⟨some 3, .box 47 (.tmp 1), none, [0, 2, 3, 4, 5]⟩,
    ⟨some 4, .alloc 24 (.agg #[(.int .i64 0), (.int .i64 0), (.slice none 0 0), (.int .i64 0), (.int .i64 0), (.bool false)]), none, [0, 1, 3, 4, 5]⟩,
    ⟨some 5, .mov (.const (.slice none 0 0)), none, [0, 1, 2]⟩,
    ⟨some 6, .mov (.const (.bool false)), none, [0, 1, 2]⟩,
    ⟨some 7, .mov (.const (.int .i64 0)), none, [0, 1, 2]⟩] false)
  (.seq (.region [⟨some 10, .load 6 true (.tmp 2), none, []⟩,
    ⟨some 11, .call (.func 26) [(.tmp 10)], none, []⟩,
    ⟨some 9, .mov (.tmp 11), none, []⟩,
    ⟨some 12, .ext (.tmp 9) 0, none, [4]⟩,
    ⟨some 13, .ext (.tmp 9) 1, none, [3, 5]⟩,
    ⟨some 8, .mov (.tmp 12), none, [4]⟩,
    ⟨some 7, .mov (.tmp 13), none, []⟩] false)
  (.seq (.seq (.region [⟨some 14, .mov (.tmp 7), none, []⟩,
    ⟨some 15, .pur (mkO (.binOp .eql 28 (.tmp 14) (.const (.int .i64 0)) 28) 4), none, []⟩] false)
  (.cond (.tmp 15)
    (.region [⟨some 16, .load 4 true (.tmp 3), none, []⟩,
      ⟨some 17, .call (.func 20) [(.tmp 16)], none, []⟩,
      ⟨some 7, .mov (.tmp 17), none, []⟩] false)
    .skip))
  (.seq (.seq (.region [⟨some 18, .mov (.tmp 7), none, []⟩,
    ⟨some 19, .pur (mkO (.binOp .neq 28 (.tmp 18) (.const (.int .i64 0)) 28) 4), none, []⟩] false)
  (.cond (.tmp 19)
    (.seq (.region [⟨some 20, .build (.agg #[(.int .i64 0), (.int .i64 0), (.slice none 0 0), (.int .i64 0), (.int .i64 0), (.bool false)]) [], none, [1]⟩,
      ⟨some 21, .mov (.tmp 7), none, [0, 2, 3, 4]⟩,
      ⟨none, .store 6 (.tmp 4) (.tmp 20), none, [1]⟩,
      ⟨some 5, .mov (.const (.slice none 0 0)), none, [1]⟩,
      ⟨some 6, .mov (.const (.bool false)), none, [1]⟩,
      ⟨some 7, .mov (.tmp 21), none, []⟩] false)
    .ret)
    .skip))
  (.seq (.seq (.region [⟨some 22, .fad 0 (.tmp 3), none, [2, 3, 4, 5, 6]⟩,
    ⟨some 23, .load 1 false (.tmp 22), none, [2, 3, 4, 5, 6]⟩,
    ⟨some 24, .mov (.tmp 8), none, [0, 1]⟩,
    ⟨some 25, .nilck (.tmp 24), none, [0, 1]⟩,
    ⟨some 26, .fad 0 (.tmp 25), none, [0, 1]⟩,
    ⟨some 27, .fad 0 (.tmp 26), none, [0, 1]⟩,
    ⟨some 28, .load 1 false (.tmp 27), none, [0, 1]⟩,
    ⟨some 29, .pur (mkO (.binOp .neq 3 (.tmp 23) (.tmp 28) 3) 4), none, []⟩,
    ⟨some 30, .mov (.tmp 29), none, []⟩,
    ⟨some 31, .fad 1 (.tmp 3), some (30, false), [11, 12, 13, 14, 15]⟩,
    ⟨some 32, .load 1 false (.tmp 31), some (30, false), [11, 12, 13, 14, 15]⟩,
    ⟨some 33, .mov (.tmp 8), some (30, false), [9, 10]⟩,
    ⟨some 34, .nilck (.tmp 33), some (30, false), [9, 10]⟩,
    ⟨some 35, .fad 0 (.tmp 34), some (30, false), [9, 10]⟩,
    ⟨some 36, .fad 3 (.tmp 35), some (30, false), [9, 10]⟩,
    ⟨some 37, .load 1 false (.tmp 36), some (30, false), [9, 10]⟩,
    ⟨some 38, .pur (mkO (.binOp .eql 3 (.tmp 32) (.tmp 37) 3) 4), some (30, false), []⟩,
    ⟨some 39, .mov (.tmp 38), some (30, false), []⟩,
    ⟨some 40, .mov (.tmp 8), some (39, true), []⟩,
    ⟨some 41, .nilck (.tmp 40), some (39, true), []⟩,
    ⟨some 42, .fad 0 (.tmp 41), some (39, true), []⟩,
    ⟨some 43, .fad 3 (.tmp 42), some (39, true), []⟩,
    ⟨some 44, .load 1 false (.tmp 43), some (39, true), []⟩,
    ⟨some 45, .pur (mkO (.binOp .add 3 (.tmp 44) (.const (.int .i64 1)) 3) 3), some (39, true), []⟩,
    ⟨some 46, .pur (mkO (.binOp .geq 3 (.tmp 45) (.const (.int .i64 16777216)) 3) 4), some (39, true), []⟩,
    ⟨some 47, .pick (.tmp 39) (.tmp 46) (.const (.bool false)), some (30, false), []⟩,
    ⟨some 48, .pick (.tmp 30) (.const (.bool true)) (.tmp 47), none, []⟩] true)
  (.cond (.tmp 48)
    (.seq (.region [⟨some 49, .mov (.tmp 8), none, []⟩,
      ⟨some 50, .nilck (.tmp 49), none, []⟩,
      ⟨some 51, .fad 0 (.tmp 50), none, []⟩,
      ⟨some 52, .load 6 true (.tmp 51), none, []⟩,
      ⟨none, .store 6 (.tmp 4) (.tmp 52), none, []⟩,
      ⟨some 5, .mov (.const (.slice none 0 0)), none, []⟩,
      ⟨some 6, .mov (.const (.bool false)), none, []⟩,
      ⟨some 7, .mov (.const (.int .i64 0)), none, []⟩] false)
    .ret)
    .skip))
  (.seq (.region [⟨some 53, .mov (.tmp 8), none, [1, 2]⟩,
    ⟨some 54, .fad 2 (.tmp 3), none, [0]⟩,
    ⟨some 55, .load 1 false (.tmp 54), none, [0]⟩,
    ⟨some 56, .call (.func 43) [(.tmp 53), (.tmp 55)], none, []⟩] false)
  (.seq (.region [⟨some 57, .mov (.tmp 8), none, [1, 2, 3, 4, 5, 6, 7, 8, 9, 10]⟩,
    ⟨some 58, .mov (.tmp 8), none, [0]⟩,
    ⟨some 59, .nilck (.tmp 58), none, [0]⟩,
    ⟨some 60, .fad 0 (.tmp 59), none, [0]⟩,
    ⟨some 61, .fad 5 (.tmp 60), none, [0]⟩,
    ⟨some 62, .load 1 false (.tmp 61), none, [0]⟩,
    ⟨some 63, .mov (.tmp 62), none, [0]⟩,
    ⟨some 64, .fad 1 (.tmp 3), some (63, false), [0]⟩,
    ⟨some 65, .load 1 false (.tmp 64), some (63, false), [0]⟩,
    ⟨some 66, .pur (mkO (.binOp .gtr 3 (.tmp 65) (.const (.int .i64 0)) 3) 4), some (63, false), [0]⟩,
    ⟨some 67, .pick (.tmp 63) (.const (.bool true)) (.tmp 66), none, [0]⟩,
    ⟨some 68, .nilck (.tmp 57), none, []⟩,
    ⟨some 69, .fad 0 (.tmp 68), none, []⟩,
    ⟨some 70, .fad 5 (.tmp 69), none, []⟩,
    ⟨none, .store 1 (.tmp 70) (.tmp 67), none, []⟩] false)
  (.seq (.seq (.region [⟨some 71, .fad 1 (.tmp 3), none, [2, 3, 4, 5, 6]⟩,
    ⟨some 72, .load 1 false (.tmp 71), none, [2, 3, 4, 5, 6]⟩,
    ⟨some 73, .mov (.tmp 8), none, [0, 1]⟩,
    ⟨some 74, .nilck (.tmp 73), none, [0, 1]⟩,
    ⟨some 75, .fad 0 (.tmp 74), none, [0, 1]⟩,
    ⟨some 76, .fad 3 (.tmp 75), none, [0, 1]⟩,
    ⟨some 77, .load 1 false (.tmp 76), none, [0, 1]⟩,
    ⟨some 78, .pur (mkO (.binOp .neq 3 (.tmp 72) (.tmp 77) 3) 4), none, []⟩] true)
  (.cond (.tmp 78)
    (.seq (.region [⟨some 79, .mov (.tmp 8), none, []⟩,
      ⟨some 80, .nilck (.tmp 79), none, []⟩,
      ⟨some 81, .fad 0 (.tmp 80), none, []⟩,
      ⟨some 82, .load 6 true (.tmp 81), none, []⟩,
      ⟨none, .store 6 (.tmp 4) (.tmp 82), none, []⟩,
      ⟨some 5, .mov (.const (.slice none 0 0)), none, []⟩,
      ⟨some 6, .mov (.const (.bool false)), none, []⟩,
      ⟨some 7, .mov (.const (.int .i64 0)), none, []⟩] false)
    .ret)
    .skip))
  (.seq (.region [⟨some 83, .mov (.tmp 8), none, []⟩,
    ⟨some 84, .nilck (.tmp 83), none, []⟩,
    ⟨some 85, .fad 0 (.tmp 84), none, []⟩,
    ⟨some 86, .fad 3 (.tmp 85), none, []⟩,
    ⟨some 87, .load 1 false (.tmp 86), none, []⟩,
    ⟨some 88, .pur (mkO (.binOp .add 3 (.tmp 87) (.const (.int .i64 1)) 3) 3), none, []⟩,
    ⟨some 89, .nilck (.tmp 83), none, []⟩,
    ⟨some 90, .fad 0 (.tmp 89), none, []⟩,
    ⟨some 91, .fad 3 (.tmp 90), none, []⟩,
    ⟨none, .store 1 (.tmp 91) (.tmp 88), none, []⟩] false)
  (.seq (.region [⟨some 92, .mov (.tmp 8), none, [4, 5, 6]⟩,
    ⟨some 93, .nilck (.tmp 92), none, [4, 5, 6]⟩,
    ⟨some 94, .fad 0 (.tmp 93), none, [4, 5, 6]⟩,
    ⟨some 95, .load 6 true (.tmp 94), none, [4, 5, 6]⟩,
    ⟨some 96, .fad 3 (.tmp 3), none, [0, 1, 2, 3]⟩,
    ⟨some 97, .load 1 false (.tmp 96), none, [0, 1, 2, 3]⟩,
    ⟨some 98, .call (.func 39) [(.tmp 97)], none, [0, 1, 2, 3]⟩,
    ⟨none, .store 6 (.tmp 4) (.tmp 95), none, []⟩,
    ⟨some 5, .mov (.tmp 98), none, []⟩,
    ⟨some 6, .mov (.const (.bool true)), none, []⟩,
    ⟨some 7, .mov (.const (.int .i64 0)), none, []⟩] true)
  .ret))))))))))
def a25 : AFunc := ⟨99, c25, [.cell 4 6 true, .tmp 5, .tmp 6, .tmp 7], 1⟩

/-- blindstamp/link.of -/
def c26 : ACode :=
  (.seq (.region [⟨some 1, .box 24 (.tmp 0), none, [1, 2]⟩,
    ⟨some 2, .mov (.const (.pointer none)), none, [0]⟩,
    ⟨some 3, .mov (.const (.int .i64 0)), none, [0]⟩] false)
  (.seq (.seq (.region [⟨some 5, .load 6 true (.tmp 1), none, []⟩,
    ⟨some 6, .call (.func 11) [(.tmp 5)], none, []⟩,
    ⟨some 4, .mov (.tmp 6), none, []⟩] false)
  (.seq (.region [⟨some 7, .mov (.tmp 4), none, []⟩,
    ⟨some 8, .pur (mkO (.binOp .neq 28 (.tmp 7) (.const (.int .i64 0)) 28) 4), none, []⟩] false)
  (.cond (.tmp 8)
    (.seq (.region [⟨some 9, .mov (.tmp 4), none, [1]⟩,
      ⟨some 2, .mov (.const (.pointer none)), none, [0]⟩,
      ⟨some 3, .mov (.tmp 9), none, []⟩] false)
    .ret)
    .skip)))
  (.seq (.region [⟨some 10, .load 6 true (.tmp 1), none, []⟩,
    ⟨some 11, .call (.func 44) [(.tmp 10)], none, []⟩,
    ⟨some 12, .build (.agg #[(.int .i64 0), (.int .i64 0), (.slice none 0 0), (.int .i64 0), (.int .i64 0), (.bool false)]) [(0, 6, (.tmp 11))], none, []⟩,
    ⟨some 13, .box 71 (.tmp 12), none, []⟩,
    ⟨some 2, .mov (.tmp 13), none, []⟩,
    ⟨some 3, .mov (.const (.int .i64 0)), none, []⟩] false)
  .ret)))
def a26 : AFunc := ⟨14, c26, [.tmp 2, .tmp 3], 0⟩

/-- (*blindstamp/link.under).put -/
def c27 : ACode :=
  (.seq (.region [⟨some 4, .mov (.const (.int .i64 0)), none, []⟩] false)
  (.seq (.block 0 (.seq (.region [⟨some 6, .mov (.tmp 1), none, []⟩,
      ⟨some 7, .len (.tmp 6), none, []⟩,
      ⟨some 8, .pur (mkO (.binOp .gtr 3 (.tmp 7) (.const (.int .i64 900)) 3) 4), none, []⟩,
      ⟨some 5, .mov (.tmp 8), none, []⟩] false)
    (.cond (.tmp 5)
      (.seq (.region [⟨some 4, .mov (.const (.int .i64 4)), none, []⟩] false)
      .ret)
      (.seq (.seq (.region [⟨some 10, .mov (.tmp 0), none, []⟩,
        ⟨some 11, .nilck (.tmp 10), none, []⟩,
        ⟨some 12, .fad 0 (.tmp 11), none, []⟩,
        ⟨some 13, .fad 2 (.tmp 12), none, []⟩,
        ⟨some 14, .load 1 false (.tmp 13), none, []⟩,
        ⟨some 15, .len (.tmp 14), none, []⟩,
        ⟨some 16, .pur (mkO (.binOp .geq 3 (.tmp 15) (.const (.int .i64 32)) 3) 4), none, []⟩,
        ⟨some 9, .mov (.tmp 16), none, []⟩] false)
      (.cond (.tmp 9)
        .skip
        (.region [⟨some 17, .mov (.tmp 0), none, []⟩,
          ⟨some 18, .nilck (.tmp 17), none, []⟩,
          ⟨some 19, .fad 0 (.tmp 18), none, []⟩,
          ⟨some 20, .fad 1 (.tmp 19), none, []⟩,
          ⟨some 21, .load 1 false (.tmp 20), none, []⟩,
          ⟨some 22, .pur (mkO (.binOp .add 3 (.tmp 21) (.const (.int .i64 1)) 3) 3), none, []⟩,
          ⟨some 23, .pur (mkO (.binOp .geq 3 (.tmp 22) (.const (.int .i64 16777216)) 3) 4), none, []⟩,
          ⟨some 9, .mov (.tmp 23), none, []⟩] false)))
      (.cond (.tmp 9)
        (.seq (.region [⟨some 4, .mov (.const (.int .i64 9)), none, []⟩] false)
        .ret)
        .skip)))))
  (.seq (.region [⟨some 24, .mov (.tmp 0), none, [1, 2, 3, 4, 5, 6, 7, 8, 9, 10, 11, 12, 13, 14, 15]⟩,
    ⟨some 25, .mov (.tmp 0), none, [0, 6, 7, 8, 9, 10, 11, 12, 13, 14]⟩,
    ⟨some 26, .nilck (.tmp 25), none, [0, 6, 7, 8, 9, 10, 11, 12, 13, 14]⟩,
    ⟨some 27, .fad 0 (.tmp 26), none, [0, 6, 7, 8, 9, 10, 11, 12, 13, 14]⟩,
    ⟨some 28, .fad 2 (.tmp 27), none, [0, 6, 7, 8, 9, 10, 11, 12, 13, 14]⟩,
    ⟨some 29, .load 1 false (.tmp 28), none, [0, 6, 7, 8, 9, 10, 11, 12, 13, 14]⟩,
    ⟨some 30, .mov (.tmp 0), none, [0, 1, 2, 3, 4, 5, 11, 12]⟩,
    ⟨some 31, .nilck (.tmp 30), none, [0, 1, 2, 3, 4, 5, 11, 12]⟩,
    ⟨some 32, .fad 0 (.tmp 31), none, [0, 1, 2, 3, 4, 5, 11, 12]⟩,
    ⟨some 33, .fad 1 (.tmp 32), none, [0, 1, 2, 3, 4, 5, 11, 12]⟩,
    ⟨some 34, .load 1 false (.tmp 33), none, [0, 1, 2, 3, 4, 5, 11, 12]⟩,
    ⟨some 35, .mov (.tmp 1), none, [0, 1, 2, 3, 4, 5, 6, 7, 8, 9, 10]⟩,
    ⟨some 36, .call (.func 39) [(.tmp 35)], none, [0, 1, 2, 3, 4, 5, 6, 7, 8, 9, 10]⟩,
    ⟨some 37, .build (.agg #[(.int .i64 0), (.slice none 0 0)]) [(0, 1, (.tmp 34)), (1, 1, (.tmp 36))], none, [0, 1, 2, 3, 4, 5]⟩,
    ⟨some 38, .bsl 34 2 (.agg #[(.int .i64 0), (.slice none 0 0)]) 1 [(0, 2, (.tmp 37))], none, [0, 1, 2, 3, 4, 5]⟩,
    ⟨some 39, .app 34 2 32 (.agg #[(.int .i64 0), (.slice none 0 0)]) (.tmp 29) (.tmp 38), none, [0]⟩,
    ⟨some 40, .nilck (.tmp 24), none, []⟩,
    ⟨some 41, .fad 0 (.tmp 40), none, []⟩,
    ⟨some 42, .fad 2 (.tmp 41), none, []⟩,
    ⟨none, .store 1 (.tmp 42) (.tmp 39), none, []⟩] true)
  (.seq (.region [⟨some 43, .mov (.tmp 0), none, []⟩,
    ⟨some 44, .nilck (.tmp 43), none, []⟩,
    ⟨some 45, .fad 0 (.tmp 44), none, []⟩,
    ⟨some 46, .fad 1 (.tmp 45), none, []⟩,
    ⟨some 47, .load 1 false (.tmp 46), none, []⟩,
    ⟨some 48, .pur (mkO (.binOp .add 3 (.tmp 47) (.const (.int .i64 1)) 3) 3), none, []⟩,
    ⟨some 49, .nilck (.tmp 43), none, []⟩,
    ⟨some 50, .fad 0 (.tmp 49), none, []⟩,
    ⟨some 51, .fad 1 (.tmp 50), none, []⟩,
    ⟨none, .store 1 (.tmp 51) (.tmp 48), none, []⟩] false)
  (.seq (.region [⟨some 4, .mov (.const (.int .i64 0)), none, []⟩] false)
  .ret)))))
def a27 : AFunc := ⟨52, c27, [.tmp 4], 0⟩

/-- blindstamp/link.from -/
def c28 : ACode :=
  (.seq (.region [⟨some 6, .mov (.const (.bool false)), none, []⟩] false)
  (.seq (.region [⟨some 7, .mov (.tmp 0), none, [1]⟩,
    ⟨some 8, .mov (.tmp 1), none, [0]⟩,
    ⟨some 9, .pur (mkO (.binOp .geq 3 (.tmp 7) (.tmp 8) 3) 4), none, []⟩,
    ⟨some 10, .mov (.tmp 9), none, []⟩,
    ⟨some 11, .mov (.tmp 0), some (10, true), [5]⟩,
    ⟨some 12, .mov (.tmp 2), some (10, true), [4]⟩,
    ⟨some 13, .pur (mkO (.binOp .lss 3 (.tmp 11) (.tmp 12) 3) 4), some (10, true), []⟩,
    ⟨some 14, .pick (.tmp 10) (.tmp 13) (.const (.bool false)), none, []⟩,
    ⟨some 6, .mov (.tmp 14), none, []⟩] false)
  .ret))
def a28 : AFunc := ⟨15, c28, [.tmp 6], 1⟩

/-- blindstamp/blindstamplaw25.sends -/
def c29 : ACode :=
  (.seq (.region [⟨some 3, .box 39 (.tmp 0), none, [1]⟩,
    ⟨some 6, .alloc 39 (.agg #[(.int .i64 0), (.int .i64 0), (.slice none 0 0), (.int .i64 0), (.int .i64 0), (.bool false), (.int .i64 0), (.int .i64 0), (.slice none 0 0), (.int .i64 0), (.int .i64 0), (.bool false), (.slice none 0 0), (.slice none 0 0), (.slice none 0 0), (.slice none 0 0), (.bool false)]), none, [0]⟩] false)
  (.seq (.region [⟨some 11, .fad 0 (.tmp 3), none, [2]⟩,
    ⟨some 12, .load 6 true (.tmp 11), none, [2]⟩,
    ⟨some 7, .alloc 24 (.agg #[(.int .i64 0), (.int .i64 0), (.slice none 0 0), (.int .i64 0), (.int .i64 0), (.bool false)]), none, [0, 1]⟩,
    ⟨none, .store 6 (.tmp 7) (.tmp 12), none, []⟩] false)
  (.seq (.seq (.region [⟨some 13, .mov (.tmp 1), none, []⟩] false)
  (.cond (.tmp 13)
    (.region [⟨some 14, .fad 6 (.tmp 3), none, []⟩,
      ⟨some 15, .load 6 true (.tmp 14), none, []⟩,
      ⟨none, .store 6 (.tmp 7) (.tmp 15), none, []⟩] false)
    .skip))
  (.seq (.region [⟨some 17, .load 6 true (.tmp 7), none, [6]⟩,
    ⟨some 18, .call (.func 24) [(.tmp 17)], none, [6]⟩,
    ⟨some 16, .mov (.tmp 18), none, [6]⟩,
    ⟨some 19, .ext (.tmp 16) 0, none, [4, 5, 6]⟩,
    ⟨some 20, .ext (.tmp 16) 1, none, [3, 5, 6, 7]⟩,
    ⟨some 21, .ext (.tmp 16) 2, none, [3, 4, 6, 7, 8]⟩,
    ⟨some 8, .alloc 24 (.agg #[(.int .i64 0), (.int .i64 0), (.slice none 0 0), (.int .i64 0), (.int .i64 0), (.bool false)]), none, [0, 1, 2, 3, 4, 5]⟩,
    ⟨none, .store 6 (.tmp 8) (.tmp 19), none, [4, 5]⟩,
    ⟨some 9, .mov (.tmp 20), none, [5]⟩,
    ⟨some 10, .mov (.tmp 21), none, []⟩] false)
  (.seq (.seq (.region [⟨some 22, .mov (.tmp 2), none, []⟩] false)
  (.cond (.tmp 22)
    (.region [⟨some 24, .load 6 true (.tmp 7), none, []⟩,
      ⟨some 25, .call (.func 45) [(.tmp 24)], none, []⟩,
      ⟨some 23, .mov (.tmp 25), none, []⟩,
      ⟨some 26, .ext (.tmp 23) 0, none, [4, 5]⟩,
      ⟨some 27, .ext (.tmp 23) 1, none, [3, 5, 6]⟩,
      ⟨some 28, .ext (.tmp 23) 2, none, [3, 4, 6, 7]⟩,
      ⟨none, .store 6 (.tmp 8) (.tmp 26), none, [4, 5]⟩,
      ⟨some 9, .mov (.tmp 27), none, [5]⟩,
      ⟨some 10, .mov (.tmp 28), none, []⟩] false)
    .skip))
  (.seq (.region [⟨some 29, .fad 16 (.tmp 3), none, []⟩,
    ⟨some 30, .load 1 false (.tmp 29), none, []⟩,
    ⟨some 31, .mov (.tmp 30), none, []⟩,
    ⟨some 32, .mov (.tmp 10), some (31, true), []⟩,
    ⟨some 33, .pur (mkO (.binOp .eql 28 (.tmp 32) (.const (.int .i64 0)) 28) 4), some (31, true), []⟩,
    ⟨some 34, .pick (.tmp 31) (.tmp 33) (.const (.bool false)), none, []⟩,
    ⟨some 35, .fad 16 (.tmp 3), none, []⟩,
    ⟨none, .store 1 (.tmp 35) (.tmp 34), none, []⟩] false)
  (.seq (.seq (.region [⟨some 36, .mov (.tmp 1), none, []⟩] false)
  (.cond (.tmp 36)
    (.seq (.region [⟨some 37, .load 6 true (.tmp 8), none, []⟩,
      ⟨some 38, .fad 6 (.tmp 3), none, []⟩,
      ⟨none, .store 6 (.tmp 38) (.tmp 37), none, []⟩] false)
    (.seq (.region [⟨some 39, .fad 13 (.tmp 3), none, [3]⟩,
      ⟨some 40, .load 1 false (.tmp 39), none, [3]⟩,
      ⟨some 41, .app 47 4 48 (.agg #[(.int .i64 0), (.int .i64 0), (.int .i64 0), (.slice none 0 0)]) (.const (.slice none 0 0)) (.tmp 40), none, [3]⟩,
      ⟨some 42, .mov (.tmp 9), none, [0, 1, 2]⟩,
      ⟨some 43, .app 47 4 48 (.agg #[(.int .i64 0), (.int .i64 0), (.int .i64 0), (.slice none 0 0)]) (.tmp 41) (.tmp 42), none, []⟩,
      ⟨some 44, .fad 13 (.tmp 3), none, []⟩,
      ⟨none, .store 1 (.tmp 44) (.tmp 43), none, []⟩] false)
    (.seq (.region [⟨some 45, .load 17 true (.tmp 3), none, []⟩,
      ⟨none, .store 17 (.tmp 6) (.tmp 45), none, []⟩] false)
    .ret)))
    .skip))
  (.seq (.region [⟨some 46, .load 6 true (.tmp 8), none, []⟩,
    ⟨some 47, .fad 0 (.tmp 3), none, []⟩,
    ⟨none, .store 6 (.tmp 47) (.tmp 46), none, []⟩] false)
  (.seq (.region [⟨some 48, .fad 12 (.tmp 3), none, [3]⟩,
    ⟨some 49, .load 1 false (.tmp 48), none, [3]⟩,
    ⟨some 50, .app 47 4 48 (.agg #[(.int .i64 0), (.int .i64 0), (.int .i64 0), (.slice none 0 0)]) (.const (.slice none 0 0)) (.tmp 49), none, [3]⟩,
    ⟨some 51, .mov (.tmp 9), none, [0, 1, 2]⟩,
    ⟨some 52, .app 47 4 48 (.agg #[(.int .i64 0), (.int .i64 0), (.int .i64 0), (.slice none 0 0)]) (.tmp 50) (.tmp 51), none, []⟩,
    ⟨some 53, .fad 12 (.tmp 3), none, []⟩,
    ⟨none, .store 1 (.tmp 53) (.tmp 52), none, []⟩] false)
  (.seq (.region [⟨some 54, .load 17 true (.tmp 3), none, []⟩,
    ⟨none, .store 17 (.tmp 6) (.tmp 54), none, []⟩] false)
  .ret))))))))))
def a29 : AFunc := ⟨55, c29, [.cell 6 17 true], 1⟩

/-- blindstamp/blindstamplaw25.comes -/
def c30 : ACode :=
  (.seq (.region [⟨some 4, .box 39 (.tmp 0), none, [1]⟩,
    ⟨some 8, .alloc 39 (.agg #[(.int .i64 0), (.int .i64 0), (.slice none 0 0), (.int .i64 0), (.int .i64 0), (.bool false), (.int .i64 0), (.int .i64 0), (.slice none 0 0), (.int .i64 0), (.int .i64 0), (.bool false), (.slice none 0 0), (.slice none 0 0), (.slice none 0 0), (.slice none 0 0), (.bool false)]), none, [0]⟩] false)
  (.seq (.region [⟨some 19, .fad 12 (.tmp 4), none, []⟩,
    ⟨some 20, .load 1 false (.tmp 19), none, []⟩,
    ⟨some 9, .mov (.tmp 20), none, []⟩] false)
  (.seq (.seq (.region [⟨some 21, .mov (.tmp 2), none, []⟩] false)
  (.cond (.tmp 21)
    (.region [⟨some 22, .fad 13 (.tmp 4), none, []⟩,
      ⟨some 23, .load 1 false (.tmp 22), none, []⟩,
      ⟨some 9, .mov (.tmp 23), none, []⟩] false)
    .skip))
  (.seq (.seq (.region [⟨some 24, .mov (.tmp 1), none, []⟩,
    ⟨some 25, .pur (mkO (.binOp .lss 3 (.tmp 24) (.const (.int .i64 0)) 3) 4), none, []⟩,
    ⟨some 26, .mov (.tmp 25), none, []⟩,
    ⟨some 27, .mov (.tmp 1), some (26, false), [4, 5]⟩,
    ⟨some 28, .mov (.tmp 9), some (26, false), [3]⟩,
    ⟨some 29, .len (.tmp 28), some (26, false), [3]⟩,
    ⟨some 30, .pur (mkO (.binOp .geq 3 (.tmp 27) (.tmp 29) 3) 4), some (26, false), []⟩,
    ⟨some 31, .pick (.tmp 26) (.const (.bool true)) (.tmp 30), none, []⟩] false)
  (.cond (.tmp 31)
    (.seq (.region [⟨some 32, .load 17 true (.tmp 4), none, []⟩,
      ⟨none, .store 17 (.tmp 8) (.tmp 32), none, []⟩] false)
    .ret)
    .skip))
  (.seq (.region [⟨some 33, .mov (.tmp 9), none, [1, 4]⟩,
    ⟨some 34, .mov (.tmp 1), none, [0, 4]⟩,
    ⟨some 35, .iad 4 (.tmp 33) (.tmp 34), none, [4]⟩,
    ⟨some 36, .load 4 true (.tmp 35), none, [4]⟩,
    ⟨some 10, .alloc 47 (.agg #[(.int .i64 0), (.int .i64 0), (.int .i64 0), (.slice none 0 0)]), none, [0, 1, 2, 3]⟩,
    ⟨none, .store 4 (.tmp 10) (.tmp 36), none, []⟩] false)
  (.seq (.seq (.region [⟨some 37, .mov (.tmp 3), none, []⟩,
    ⟨some 38, .pur (mkO (.unOp .not 4 (.tmp 37)) 4), none, []⟩] false)
  (.cond (.tmp 38)
    (.region [⟨some 39, .mov (.tmp 9), none, [1, 4, 5, 6, 7]⟩,
      ⟨some 40, .mov (.tmp 1), none, [0, 4, 5, 6, 7]⟩,
      ⟨some 41, .slc 4 (.tmp 39) none (some (.tmp 40)) none, none, [4, 5, 6, 7]⟩,
      ⟨some 42, .app 47 4 48 (.agg #[(.int .i64 0), (.int .i64 0), (.int .i64 0), (.slice none 0 0)]) (.const (.slice none 0 0)) (.tmp 41), none, [4, 5, 6, 7]⟩,
      ⟨some 43, .mov (.tmp 9), none, [0, 1, 2, 3, 5, 6]⟩,
      ⟨some 44, .mov (.tmp 1), none, [0, 1, 2, 3, 4]⟩,
      ⟨some 45, .pur (mkO (.binOp .add 3 (.tmp 44) (.const (.int .i64 1)) 3) 3), none, [0, 1, 2, 3, 4]⟩,
      ⟨some 46, .slc 4 (.tmp 43) (some (.tmp 45)) none none, none, [0, 1, 2, 3]⟩,
      ⟨some 47, .app 47 4 48 (.agg #[(.int .i64 0), (.int .i64 0), (.int .i64 0), (.slice none 0 0)]) (.tmp 42) (.tmp 46), none, []⟩,
      ⟨some 9, .mov (.tmp 47), none, []⟩] true)
    .skip))
  (.seq (.seq (.region [⟨some 48, .mov (.tmp 2), none, []⟩] false)
  (.cond (.tmp 48)
    (.seq (.region [⟨some 49, .mov (.tmp 9), none, []⟩,
      ⟨some 50, .fad 13 (.tmp 4), none, []⟩,
      ⟨none, .store 1 (.tmp 50) (.tmp 49), none, []⟩] false)
    (.seq (.region [⟨some 52, .fad 0 (.tmp 4), none, [2, 9]⟩,
      ⟨some 53, .load 6 true (.tmp 52), none, [2, 9]⟩,
      ⟨some 54, .load 4 true (.tmp 10), none, [0, 1, 9]⟩,
      ⟨some 55, .call (.func 25) [(.tmp 53), (.tmp 54)], none, [9]⟩,
      ⟨some 51, .mov (.tmp 55), none, [9]⟩,
      ⟨some 56, .ext (.tmp 51) 0, none, [6, 7, 8, 9]⟩,
      ⟨some 57, .ext (.tmp 51) 1, none, [5, 7, 8, 9, 10]⟩,
      ⟨some 58, .ext (.tmp 51) 2, none, [5, 6, 8, 9, 10, 11]⟩,
      ⟨some 59, .ext (.tmp 51) 3, none, [5, 6, 7, 9, 10, 11, 12]⟩,
      ⟨some 11, .alloc 24 (.agg #[(.int .i64 0), (.int .i64 0), (.slice none 0 0), (.int .i64 0), (.int .i64 0), (.bool false)]), none, [0, 1, 2, 3, 4, 5, 6, 7, 8]⟩,
      ⟨none, .store 6 (.tmp 11) (.tmp 56), none, [6, 7, 8]⟩,
      ⟨some 12, .mov (.tmp 57), none, [7, 8]⟩,
      ⟨some 13, .mov (.tmp 58), none, [8]⟩,
      ⟨some 14, .mov (.tmp 59), none, []⟩] false)
    (.seq (.region [⟨some 60, .load 6 true (.tmp 11), none, []⟩,
      ⟨some 61, .fad 0 (.tmp 4), none, []⟩,
      ⟨none, .store 6 (.tmp 61) (.tmp 60), none, []⟩] false)
    (.seq (.region [⟨some 62, .fad 16 (.tmp 4), none, []⟩,
      ⟨some 63, .load 1 false (.tmp 62), none, []⟩,
      ⟨some 64, .mov (.tmp 63), none, []⟩,
      ⟨some 65, .mov (.tmp 14), some (64, true), []⟩,
      ⟨some 66, .pur (mkO (.binOp .eql 28 (.tmp 65) (.const (.int .i64 0)) 28) 4), some (64, true), []⟩,
      ⟨some 67, .pick (.tmp 64) (.tmp 66) (.const (.bool false)), none, []⟩,
      ⟨some 68, .mov (.tmp 67), none, []⟩,
      ⟨some 69, .mov (.tmp 13), some (68, true), []⟩,
      ⟨some 70, .pur (mkO (.unOp .not 4 (.tmp 69)) 4), some (68, true), []⟩,
      ⟨some 71, .pick (.tmp 68) (.tmp 70) (.const (.bool false)), none, []⟩,
      ⟨some 72, .fad 16 (.tmp 4), none, []⟩,
      ⟨none, .store 1 (.tmp 72) (.tmp 71), none, []⟩] false)
    (.seq (.region [⟨some 73, .load 17 true (.tmp 4), none, []⟩,
      ⟨none, .store 17 (.tmp 8) (.tmp 73), none, []⟩] false)
    .ret)))))
    .skip))
  (.seq (.region [⟨some 74, .mov (.tmp 9), none, []⟩,
    ⟨some 75, .fad 12 (.tmp 4), none, []⟩,
    ⟨none, .store 1 (.tmp 75) (.tmp 74), none, []⟩] false)
  (.seq (.region [⟨some 77, .fad 6 (.tmp 4), none, [2, 9]⟩,
    ⟨some 78, .load 6 true (.tmp 77), none, [2, 9]⟩,
    ⟨some 79, .load 4 true (.tmp 10), none, [0, 1, 9]⟩,
    ⟨some 80, .call (.func 25) [(.tmp 78), (.tmp 79)], none, [9]⟩,
    ⟨some 76, .mov (.tmp 80), none, [9]⟩,
    ⟨some 81, .ext (.tmp 76) 0, none, [6, 7, 8, 9]⟩,
    ⟨some 82, .ext (.tmp 76) 1, none, [5, 7, 8, 9, 10]⟩,
    ⟨some 83, .ext (.tmp 76) 2, none, [5, 6, 8, 9, 10, 11]⟩,
    ⟨some 84, .ext (.tmp 76) 3, none, [5, 6, 7, 9, 10, 11, 12]⟩,
    ⟨some 15, .alloc 24 (.agg #[(.int .i64 0), (.int .i64 0), (.slice none 0 0), (.int .i64 0), (.int .i64 0), (.bool false)]), none, [0, 1, 2, 3, 4, 5, 6, 7, 8]⟩,
    ⟨none, .store 6 (.tmp 15) (.tmp 81), none, [6, 7, 8]⟩,
    ⟨some 16, .mov (.tmp 82), none, [7, 8]⟩,
    ⟨some 17, .mov (.tmp 83), none, [8]⟩,
    ⟨some 18, .mov (.tmp 84), none, []⟩] false)
  (.seq (.region [⟨some 85, .load 6 true (.tmp 15), none, []⟩,
    ⟨some 86, .fad 6 (.tmp 4), none, []⟩,
    ⟨none, .store 6 (.tmp 86) (.tmp 85), none, []⟩] false)
  (.seq (.region [⟨some 87, .fad 16 (.tmp 4), none, []⟩,
    ⟨some 88, .load 1 false (.tmp 87), none, []⟩,
    ⟨some 89, .mov (.tmp 88), none, []⟩,
    ⟨some 90, .mov (.tmp 18), some (89, true), []⟩,
    ⟨some 91, .pur (mkO (.binOp .eql 28 (.tmp 90) (.const (.int .i64 0)) 28) 4), some (89, true), []⟩,
    ⟨some 92, .pick (.tmp 89) (.tmp 91) (.const (.bool false)), none, []⟩,
    ⟨some 93, .mov (.tmp 92), none, []⟩,
    ⟨some 94, .mov (.tmp 17), some (93, true), []⟩,
    ⟨some 95, .pur (mkO (.unOp .not 4 (.tmp 94)) 4), some (93, true), []⟩,
    ⟨some 96, .mov (.tmp 95), some (93, true), []⟩,
    ⟨some 97, .mov (.tmp 16), some (96, false), []⟩,
    ⟨some 98, .len (.tmp 97), some (96, false), []⟩,
    ⟨some 99, .pur (mkO (.binOp .eql 3 (.tmp 98) (.const (.int .i64 1)) 3) 4), some (96, false), []⟩,
    ⟨some 100, .pick (.tmp 96) (.const (.bool true)) (.tmp 99), some (93, true), []⟩,
    ⟨some 101, .pick (.tmp 93) (.tmp 100) (.const (.bool false)), none, []⟩,
    ⟨some 102, .fad 16 (.tmp 4), none, []⟩,
    ⟨none, .store 1 (.tmp 102) (.tmp 101), none, []⟩] false)
  (.seq (.seq (.region [⟨some 103, .mov (.tmp 17), none, []⟩,
    ⟨some 104, .mov (.tmp 103), none, []⟩,
    ⟨some 105, .fad 16 (.tmp 4), some (104, true), []⟩,
    ⟨some 106, .load 1 false (.tmp 105), some (104, true), []⟩,
    ⟨some 107, .pick (.tmp 104) (.tmp 106) (.const (.bool false)), none, []⟩] false)
  (.cond (.tmp 107)
    (.region [⟨some 108, .fad 15 (.tmp 4), none, [3, 4, 5, 6]⟩,
      ⟨some 109, .load 1 false (.tmp 108), none, [3, 4, 5, 6]⟩,
      ⟨some 110, .app 5 1 1 (.int .u8 0) (.const (.slice none 0 0)) (.tmp 109), none, [3, 4, 5, 6]⟩,
      ⟨some 111, .mov (.tmp 16), none, [0, 1, 2]⟩,
      ⟨some 112, .iad 1 (.tmp 111) (.const (.int .i64 0)), none, [0, 1, 2]⟩,
      ⟨some 113, .load 1 false (.tmp 112), none, [0, 1, 2]⟩,
      ⟨some 114, .bsl 5 1 (.int .u8 0) 1 [(0, 1, (.tmp 113))], none, [0, 1, 2]⟩,
      ⟨some 115, .app 5 1 1 (.int .u8 0) (.tmp 110) (.tmp 114), none, []⟩,
      ⟨some 116, .fad 15 (.tmp 4), none, []⟩,
      ⟨none, .store 1 (.tmp 116) (.tmp 115), none, []⟩] true)
    .skip))
  (.seq (.region [⟨some 117, .load 17 true (.tmp 4), none, []⟩,
    ⟨none, .store 17 (.tmp 8) (.tmp 117), none, []⟩] false)
  .ret)))))))))))))
def a30 : AFunc := ⟨118, c30, [.cell 8 17 true], 1⟩

/-- blindstamp/blindstamplaw25.lost -/
def c31 : ACode :=
  (.seq (.region [⟨some 3, .box 39 (.tmp 0), none, [1]⟩,
    ⟨some 6, .alloc 39 (.agg #[(.int .i64 0), (.int .i64 0), (.slice none 0 0), (.int .i64 0), (.int .i64 0), (.bool false), (.int .i64 0), (.int .i64 0), (.slice none 0 0), (.int .i64 0), (.int .i64 0), (.bool false), (.slice none 0 0), (.slice none 0 0), (.slice none 0 0), (.slice none 0 0), (.bool false)]), none, [0]⟩] false)
  (.seq (.region [⟨some 8, .fad 12 (.tmp 3), none, []⟩,
    ⟨some 9, .load 1 false (.tmp 8), none, []⟩,
    ⟨some 7, .mov (.tmp 9), none, []⟩] false)
  (.seq (.seq (.region [⟨some 10, .mov (.tmp 2), none, []⟩] false)
  (.cond (.tmp 10)
    (.region [⟨some 11, .fad 13 (.tmp 3), none, []⟩,
      ⟨some 12, .load 1 false (.tmp 11), none, []⟩,
      ⟨some 7, .mov (.tmp 12), none, []⟩] false)
    .skip))
  (.seq (.seq (.region [⟨some 13, .mov (.tmp 1), none, []⟩,
    ⟨some 14, .pur (mkO (.binOp .lss 3 (.tmp 13) (.const (.int .i64 0)) 3) 4), none, []⟩,
    ⟨some 15, .mov (.tmp 14), none, []⟩,
    ⟨some 16, .mov (.tmp 1), some (15, false), [4, 5]⟩,
    ⟨some 17, .mov (.tmp 7), some (15, false), [3]⟩,
    ⟨some 18, .len (.tmp 17), some (15, false), [3]⟩,
    ⟨some 19, .pur (mkO (.binOp .geq 3 (.tmp 16) (.tmp 18) 3) 4), some (15, false), []⟩,
    ⟨some 20, .pick (.tmp 15) (.const (.bool true)) (.tmp 19), none, []⟩] false)
  (.cond (.tmp 20)
    (.seq (.region [⟨some 21, .load 17 true (.tmp 3), none, []⟩,
      ⟨none, .store 17 (.tmp 6) (.tmp 21), none, []⟩] false)
    .ret)
    .skip))
  (.seq (.region [⟨some 22, .mov (.tmp 7), none, [1, 4, 5, 6, 7]⟩,
    ⟨some 23, .mov (.tmp 1), none, [0, 4, 5, 6, 7]⟩,
    ⟨some 24, .slc 4 (.tmp 22) none (some (.tmp 23)) none, none, [4, 5, 6, 7]⟩,
    ⟨some 25, .app 47 4 48 (.agg #[(.int .i64 0), (.int .i64 0), (.int .i64 0), (.slice none 0 0)]) (.const (.slice none 0 0)) (.tmp 24), none, [4, 5, 6, 7]⟩,
    ⟨some 26, .mov (.tmp 7), none, [0, 1, 2, 3, 5, 6]⟩,
    ⟨some 27, .mov (.tmp 1), none, [0, 1, 2, 3, 4]⟩,
    ⟨some 28, .pur (mkO (.binOp .add 3 (.tmp 27) (.const (.int .i64 1)) 3) 3), none, [0, 1, 2, 3, 4]⟩,
    ⟨some 29, .slc 4 (.tmp 26) (some (.tmp 28)) none none, none, [0, 1, 2, 3]⟩,
    ⟨some 30, .app 47 4 48 (.agg #[(.int .i64 0), (.int .i64 0), (.int .i64 0), (.slice none 0 0)]) (.tmp 25) (.tmp 29), none, []⟩,
    ⟨some 7, .mov (.tmp 30), none, []⟩] true)
  (.seq (.seq (.region [⟨some 31, .mov (.tmp 2), none, []⟩] false)
  (.cond (.tmp 31)
    (.region [⟨some 32, .mov (.tmp 7), none, []⟩,
      ⟨some 33, .fad 13 (.tmp 3), none, []⟩,
      ⟨none, .store 1 (.tmp 33) (.tmp 32), none, []⟩] false)
    (.region [⟨some 34, .mov (.tmp 7), none, []⟩,
      ⟨some 35, .fad 12 (.tmp 3), none, []⟩,
      ⟨none, .store 1 (.tmp 35) (.tmp 34), none, []⟩] false)))
  (.seq (.region [⟨some 36, .load 17 true (.tmp 3), none, []⟩,
    ⟨none, .store 17 (.tmp 6) (.tmp 36), none, []⟩] false)
  .ret)))))))
def a31 : AFunc := ⟨37, c31, [.cell 6 17 true], 1⟩

/-- bytes.Clone -/
def c39 : ACode :=
  (.seq (.region [⟨some 2, .mov (.const (.slice none 0 0)), none, []⟩] false)
  (.seq (.seq (.region [⟨some 3, .mov (.tmp 0), none, []⟩,
    ⟨some 4, .eqnil false 1 (.tmp 3) (mkO (.binOp .eql 32 (.tmp 3) (.const (.slice none 0 0)) 32) 4), none, []⟩] false)
  (.cond (.tmp 4)
    (.seq (.region [⟨some 2, .mov (.const (.slice none 0 0)), none, []⟩] false)
    .ret)
    .skip))
  (.seq (.region [⟨some 5, .bsl 5 1 (.int .u8 0) 0 [], none, [1]⟩,
    ⟨some 6, .mov (.tmp 0), none, [0]⟩,
    ⟨some 7, .app 5 1 1 (.int .u8 0) (.tmp 5) (.tmp 6), none, []⟩,
    ⟨some 2, .mov (.tmp 7), none, []⟩] false)
  .ret)))
def a39 : AFunc := ⟨8, c39, [.tmp 2], 1⟩

/-- (*blindstamp/link.under).send -/
def c42 : ACode :=
  (.seq (.region [⟨some 2, .mov (.const (.slice none 0 0)), none, []⟩] false)
  (.seq (.seq (.region [⟨some 5, .mov (.tmp 0), none, [5, 6, 7, 8, 9, 10, 11, 14]⟩,
    ⟨some 6, .nilck (.tmp 5), none, [5, 6, 7, 8, 9, 10, 11, 14]⟩,
    ⟨some 7, .fad 0 (.tmp 6), none, [5, 6, 7, 8, 9, 10, 11, 14]⟩,
    ⟨some 8, .fad 2 (.tmp 7), none, [5, 6, 7, 8, 9, 10, 11, 14]⟩,
    ⟨some 9, .load 1 false (.tmp 8), none, [5, 6, 7, 8, 9, 10, 11, 14]⟩,
    ⟨some 10, .mov (.tmp 0), none, [0, 1, 2, 3, 4, 14]⟩,
    ⟨some 11, .nilck (.tmp 10), none, [0, 1, 2, 3, 4, 14]⟩,
    ⟨some 12, .fad 0 (.tmp 11), none, [0, 1, 2, 3, 4, 14]⟩,
    ⟨some 13, .fad 2 (.tmp 12), none, [0, 1, 2, 3, 4, 14]⟩,
    ⟨some 14, .load 1 false (.tmp 13), none, [0, 1, 2, 3, 4, 14]⟩,
    ⟨some 15, .len (.tmp 14), none, [0, 1, 2, 3, 4, 14]⟩,
    ⟨some 16, .pur (mkO (.call ⟨.builtin .min, #[(.tmp 15), (.const (.int .i64 4))], #[3, 3]⟩) 3), none, [0, 1, 2, 3, 4, 14]⟩,
    ⟨some 17, .slc 2 (.tmp 9) none (some (.tmp 16)) none, none, [14]⟩,
    ⟨some 18, .len (.tmp 17), none, [14]⟩,
    ⟨some 19, .mov (.const (.int .i64 0)), none, [0, 1, 2, 3, 4, 5, 6, 7, 8, 9, 10, 11, 12, 13]⟩] true)
  (.block 0 (.loop (.seq (.region [⟨some 20, .pur (mkO (.binOp .lss 3 (.tmp 19) (.tmp 18) 3) 0), none, []⟩] false)
      (.seq (.cond (.tmp 20)
        .skip
        (.exit 0))
      (.seq (.block 1 (.seq (.region [⟨some 21, .iad 2 (.tmp 17) (.tmp 19), none, [2]⟩,
          ⟨some 22, .load 2 true (.tmp 21), none, [2]⟩,
          ⟨some 4, .alloc 34 (.agg #[(.int .i64 0), (.slice none 0 0)]), none, [0, 1]⟩,
          ⟨none, .store 2 (.tmp 4) (.tmp 22), none, []⟩] false)
        (.region [⟨some 23, .mov (.tmp 2), none, [1, 2, 3, 4, 5, 6, 7, 8, 9, 10, 11, 12, 13, 14, 15, 16, 17, 18]⟩,
          ⟨some 24, .mov (.tmp 0), none, [0, 6, 7, 8, 9, 10, 11, 12, 13, 14, 15, 16]⟩,
          ⟨some 25, .nilck (.tmp 24), none, [0, 6, 7, 8, 9, 10, 11, 12, 13, 14, 15, 16]⟩,
          ⟨some 26, .fad 0 (.tmp 25), none, [0, 6, 7, 8, 9, 10, 11, 12, 13, 14, 15, 16]⟩,
          ⟨some 27, .fad 0 (.tmp 26), none, [0, 6, 7, 8, 9, 10, 11, 12, 13, 14, 15, 16]⟩,
          ⟨some 28, .load 1 false (.tmp 27), none, [0, 6, 7, 8, 9, 10, 11, 12, 13, 14, 15, 16]⟩,
          ⟨some 29, .fad 0 (.tmp 4), none, [0, 1, 2, 3, 4, 5, 8, 9, 10, 11, 12, 13, 14, 15, 16]⟩,
          ⟨some 30, .load 1 false (.tmp 29), none, [0, 1, 2, 3, 4, 5, 8, 9, 10, 11, 12, 13, 14, 15, 16]⟩,
          ⟨some 31, .mov (.tmp 0), none, [0, 1, 2, 3, 4, 5, 6, 7, 14, 15, 16]⟩,
          ⟨some 32, .nilck (.tmp 31), none, [0, 1, 2, 3, 4, 5, 6, 7, 14, 15, 16]⟩,
          ⟨some 33, .fad 0 (.tmp 32), none, [0, 1, 2, 3, 4, 5, 6, 7, 14, 15, 16]⟩,
          ⟨some 34, .fad 3 (.tmp 33), none, [0, 1, 2, 3, 4, 5, 6, 7, 14, 15, 16]⟩,
          ⟨some 35, .load 1 false (.tmp 34), none, [0, 1, 2, 3, 4, 5, 6, 7, 14, 15, 16]⟩,
          ⟨some 36, .pur (mkO (.binOp .sub 3 (.tmp 35) (.const (.int .i64 1)) 3) 3), none, [0, 1, 2, 3, 4, 5, 6, 7, 14, 15, 16]⟩,
          ⟨some 37, .fad 1 (.tmp 4), none, [0, 1, 2, 3, 4, 5, 6, 7, 8, 9, 10, 11, 12, 13]⟩,
          ⟨some 38, .load 1 false (.tmp 37), none, [0, 1, 2, 3, 4, 5, 6, 7, 8, 9, 10, 11, 12, 13]⟩,
          ⟨some 39, .call (.func 39) [(.tmp 38)], none, [0, 1, 2, 3, 4, 5, 6, 7, 8, 9, 10, 11, 12, 13]⟩,
          ⟨some 40, .build (.agg #[(.int .i64 0), (.int .i64 0), (.int .i64 0), (.slice none 0 0)]) [(0, 1, (.tmp 28)), (1, 1, (.tmp 30)), (2, 1, (.tmp 36)), (3, 1, (.tmp 39))], none, [0]⟩,
          ⟨some 41, .bsl 47 4 (.agg #[(.int .i64 0), (.int .i64 0), (.int .i64 0), (.slice none 0 0)]) 1 [(0, 4, (.tmp 40))], none, [0]⟩,
          ⟨some 42, .app 47 4 48 (.agg #[(.int .i64 0), (.int .i64 0), (.int .i64 0), (.slice none 0 0)]) (.tmp 23) (.tmp 41), none, []⟩,
          ⟨some 2, .mov (.tmp 42), none, []⟩] true)))
      (.region [⟨some 43, .pur (mkO (.binOp .add 3 (.tmp 19) (.const (.int .i64 1)) 3) 3), none, []⟩,
        ⟨some 19, .mov (.tmp 43), none, []⟩] false)))))))
  (.seq (.seq (.region [⟨some 44, .mov (.tmp 2), none, []⟩,
    ⟨some 45, .len (.tmp 44), none, []⟩,
    ⟨some 46, .pur (mkO (.binOp .eql 3 (.tmp 45) (.const (.int .i64 0)) 3) 4), none, []⟩,
    ⟨some 47, .mov (.tmp 46), none, []⟩,
    ⟨some 48, .mov (.tmp 0), some (47, true), []⟩,
    ⟨some 49, .nilck (.tmp 48), some (47, true), []⟩,
    ⟨some 50, .fad 0 (.tmp 49), some (47, true), []⟩,
    ⟨some 51, .fad 5 (.tmp 50), some (47, true), []⟩,
    ⟨some 52, .load 1 false (.tmp 51), some (47, true), []⟩,
    ⟨some 53, .pick (.tmp 47) (.tmp 52) (.const (.bool false)), none, []⟩] false)
  (.cond (.tmp 53)
    (.region [⟨some 54, .mov (.tmp 2), none, [1, 2, 3, 4, 5, 6, 7, 8, 9, 10, 11, 12, 13]⟩,
      ⟨some 55, .mov (.tmp 0), none, [0, 6, 7, 8, 9, 10, 11]⟩,
      ⟨some 56, .nilck (.tmp 55), none, [0, 6, 7, 8, 9, 10, 11]⟩,
      ⟨some 57, .fad 0 (.tmp 56), none, [0, 6, 7, 8, 9, 10, 11]⟩,
      ⟨some 58, .fad 0 (.tmp 57), none, [0, 6, 7, 8, 9, 10, 11]⟩,
      ⟨some 59, .load 1 false (.tmp 58), none, [0, 6, 7, 8, 9, 10, 11]⟩,
      ⟨some 60, .mov (.tmp 0), none, [0, 1, 2, 3, 4, 5]⟩,
      ⟨some 61, .nilck (.tmp 60), none, [0, 1, 2, 3, 4, 5]⟩,
      ⟨some 62, .fad 0 (.tmp 61), none, [0, 1, 2, 3, 4, 5]⟩,
      ⟨some 63, .fad 3 (.tmp 62), none, [0, 1, 2, 3, 4, 5]⟩,
      ⟨some 64, .load 1 false (.tmp 63), none, [0, 1, 2, 3, 4, 5]⟩,
      ⟨some 65, .pur (mkO (.binOp .sub 3 (.tmp 64) (.const (.int .i64 1)) 3) 3), none, [0, 1, 2, 3, 4, 5]⟩,
      ⟨some 66, .build (.agg #[(.int .i64 0), (.int .i64 0), (.int .i64 0), (.slice none 0 0)]) [(0, 1, (.tmp 59)), (2, 1, (.tmp 65))], none, [0]⟩,
      ⟨some 67, .bsl 47 4 (.agg #[(.int .i64 0), (.int .i64 0), (.int .i64 0), (.slice none 0 0)]) 1 [(0, 4, (.tmp 66))], none, [0]⟩,
      ⟨some 68, .app 47 4 48 (.agg #[(.int .i64 0), (.int .i64 0), (.int .i64 0), (.slice none 0 0)]) (.tmp 54) (.tmp 67), none, []⟩,
      ⟨some 2, .mov (.tmp 68), none, []⟩] true)
    .skip))
  (.seq (.region [⟨some 69, .mov (.tmp 0), none, [1]⟩,
    ⟨some 70, .mov (.tmp 0), none, [0, 2, 3, 4, 5]⟩,
    ⟨some 71, .nilck (.tmp 69), none, [1]⟩,
    ⟨some 72, .fad 0 (.tmp 71), none, [1]⟩,
    ⟨some 73, .fad 5 (.tmp 72), none, [1]⟩,
    ⟨none, .store 1 (.tmp 73) (.const (.bool false)), none, [1]⟩,
    ⟨some 74, .nilck (.tmp 70), none, []⟩,
    ⟨some 75, .fad 0 (.tmp 74), none, []⟩,
    ⟨some 76, .fad 4 (.tmp 75), none, []⟩,
    ⟨none, .store 1 (.tmp 76) (.const (.int .i64 0)), none, []⟩] false)
  (.seq (.region [⟨some 77, .mov (.tmp 2), none, []⟩,
    ⟨some 2, .mov (.tmp 77), none, []⟩] false)
  .ret)))))
def a42 : AFunc := ⟨78, c42, [.tmp 2], 0⟩

/-- (*blindstamp/link.under).acked -/
def c43 : ACode :=
  (.seq (.region [⟨some 3, .box 3 (.tmp 1), none, []⟩] false)
  (.seq (.region [⟨some 5, .mkfn 59 [] [(.tmp 3)], none, []⟩,
    ⟨some 4, .mov (.tmp 5), none, []⟩] false)
  (.seq (.region [⟨some 6, .load 1 false (.tmp 3), none, [1, 2, 3, 4, 5]⟩,
    ⟨some 7, .mov (.tmp 0), none, [0]⟩,
    ⟨some 8, .nilck (.tmp 7), none, [0]⟩,
    ⟨some 9, .fad 0 (.tmp 8), none, [0]⟩,
    ⟨some 10, .fad 1 (.tmp 9), none, [0]⟩,
    ⟨some 11, .load 1 false (.tmp 10), none, [0]⟩,
    ⟨some 12, .pur (mkO (.binOp .lss 3 (.tmp 6) (.tmp 11) 3) 4), none, []⟩,
    ⟨some 13, .mov (.tmp 12), none, []⟩,
    ⟨some 14, .mov (.tmp 0), some (13, true), [13]⟩,
    ⟨some 15, .nilck (.tmp 14), some (13, true), [13]⟩,
    ⟨some 16, .fad 0 (.tmp 15), some (13, true), [13]⟩,
    ⟨some 17, .fad 2 (.tmp 16), some (13, true), [13]⟩,
    ⟨some 18, .load 1 false (.tmp 17), some (13, true), [13]⟩,
    ⟨some 19, .mov (.tmp 4), some (13, true), [8, 9, 10, 11, 12]⟩,
    ⟨some 20, .call (.func 60) [(.tmp 18), (.tmp 19)], some (13, true), []⟩,
    ⟨some 21, .pick (.tmp 13) (.tmp 20) (.const (.bool false)), none, []⟩] true)
  (.cond (.tmp 21)
    (.region [⟨some 22, .mov (.tmp 0), none, [1, 2, 3, 4, 5, 6, 7, 8]⟩,
      ⟨some 23, .mov (.tmp 0), none, [0, 2, 3, 4, 5, 6, 7, 8, 9, 10, 11, 12]⟩,
      ⟨some 24, .mov (.tmp 0), none, [0, 1, 7]⟩,
      ⟨some 25, .nilck (.tmp 24), none, [0, 1, 7]⟩,
      ⟨some 26, .fad 0 (.tmp 25), none, [0, 1, 7]⟩,
      ⟨some 27, .fad 2 (.tmp 26), none, [0, 1, 7]⟩,
      ⟨some 28, .load 1 false (.tmp 27), none, [0, 1, 7]⟩,
      ⟨some 29, .mov (.tmp 4), none, [0, 1, 2, 3, 4, 5, 6]⟩,
      ⟨some 30, .call (.func 61) [(.tmp 28), (.tmp 29)], none, [0, 1]⟩,
      ⟨some 31, .nilck (.tmp 22), none, [1]⟩,
      ⟨some 32, .fad 0 (.tmp 31), none, [1]⟩,
      ⟨some 33, .fad 2 (.tmp 32), none, [1]⟩,
      ⟨none, .store 1 (.tmp 33) (.tmp 30), none, [1]⟩,
      ⟨some 34, .nilck (.tmp 23), none, []⟩,
      ⟨some 35, .fad 0 (.tmp 34), none, []⟩,
      ⟨some 36, .fad 4 (.tmp 35), none, []⟩,
      ⟨none, .store 1 (.tmp 36) (.const (.int .i64 0)), none, []⟩] false)
    .skip))))
def a43 : AFunc := ⟨37, c43, [], 0⟩

/-- blindstamp/link.Twin -/
def c44 : ACode :=
  (.seq (.region [⟨some 1, .box 24 (.tmp 0), none, [1]⟩,
    ⟨some 2, .alloc 24 (.agg #[(.int .i64 0), (.int .i64 0), (.slice none 0 0), (.int .i64 0), (.int .i64 0), (.bool false)]), none, [0]⟩] false)
  (.seq (.region [⟨some 5, .fad 2 (.tmp 1), none, []⟩,
    ⟨some 6, .load 1 false (.tmp 5), none, []⟩,
    ⟨some 7, .call (.func 62) [(.tmp 6)], none, []⟩,
    ⟨some 8, .fad 2 (.tmp 1), none, []⟩,
    ⟨none, .store 1 (.tmp 8) (.tmp 7), none, []⟩] false)
  (.seq (.seq (.region [⟨some 9, .fad 2 (.tmp 1), none, [3]⟩,
    ⟨some 10, .load 1 false (.tmp 9), none, [3]⟩,
    ⟨some 11, .len (.tmp 10), none, [3]⟩,
    ⟨some 12, .mov (.const (.int .i64 0)), none, [0, 1, 2]⟩] false)
  (.block 0 (.loop (.seq (.region [⟨some 13, .pur (mkO (.binOp .lss 3 (.tmp 12) (.tmp 11) 3) 0), none, []⟩] false)
      (.seq (.cond (.tmp 13)
        .skip
        (.exit 0))
      (.seq (.block 1 (.seq (.region [⟨some 14, .mov (.tmp 12), none, [1, 2, 3]⟩,
          ⟨some 15, .iad 2 (.tmp 10) (.tmp 12), none, [0, 3]⟩,
          ⟨some 16, .load 2 true (.tmp 15), none, [0, 3]⟩,
          ⟨some 4, .alloc 34 (.agg #[(.int .i64 0), (.slice none 0 0)]), none, [0, 1, 2]⟩,
          ⟨some 3, .mov (.tmp 14), none, []⟩,
          ⟨none, .store 2 (.tmp 4) (.tmp 16), none, []⟩] false)
        (.region [⟨some 17, .fad 2 (.tmp 1), none, [2, 3, 4, 5]⟩,
          ⟨some 18, .load 1 false (.tmp 17), none, [2, 3, 4, 5]⟩,
          ⟨some 19, .mov (.tmp 3), none, [0, 1, 3, 4, 5]⟩,
          ⟨some 20, .fad 1 (.tmp 4), none, [0, 1, 2]⟩,
          ⟨some 21, .load 1 false (.tmp 20), none, [0, 1, 2]⟩,
          ⟨some 22, .call (.func 39) [(.tmp 21)], none, [0, 1, 2]⟩,
          ⟨some 23, .iad 2 (.tmp 18) (.tmp 19), none, []⟩,
          ⟨some 24, .fad 1 (.tmp 23), none, []⟩,
          ⟨none, .store 1 (.tmp 24) (.tmp 22), none, []⟩] true)))
      (.region [⟨some 25, .pur (mkO (.binOp .add 3 (.tmp 12) (.const (.int .i64 1)) 3) 3), none, []⟩,
        ⟨some 12, .mov (.tmp 25), none, []⟩] false)))))))
  (.seq (.region [⟨some 26, .load 6 true (.tmp 1), none, []⟩,
    ⟨none, .store 6 (.tmp 2) (.tmp 26), none, []⟩] false)
  .ret))))
def a44 : AFunc := ⟨27, c44, [.cell 2 6 true], 0⟩

/-- blindstamp/link.Tick -/
def c45 : ACode :=
  (.seq (.region [⟨some 1, .box 24 (.tmp 0), none, [1, 2, 3]⟩,
    ⟨some 2, .alloc 24 (.agg #[(.int .i64 0), (.int .i64 0), (.slice none 0 0), (.int .i64 0), (.int .i64 0), (.bool false)]), none, [0, 2, 3]⟩,
    ⟨some 3, .mov (.const (.slice none 0 0)), none, [0, 1]⟩,
    ⟨some 4, .mov (.const (.int .i64 0)), none, [0, 1]⟩] false)
  (.seq (.region [⟨some 9, .load 6 true (.tmp 1), none, []⟩,
    ⟨some 10, .call (.func 26) [(.tmp 9)], none, []⟩,
    ⟨some 8, .mov (.tmp 10), none, []⟩,
    ⟨some 11, .ext (.tmp 8) 0, none, [4]⟩,
    ⟨some 12, .ext (.tmp 8) 1, none, [3, 5]⟩,
    ⟨some 5, .mov (.tmp 11), none, [4]⟩,
    ⟨some 6, .mov (.tmp 12), none, []⟩] false)
  (.seq (.seq (.region [⟨some 13, .mov (.tmp 6), none, []⟩,
    ⟨some 14, .pur (mkO (.binOp .neq 28 (.tmp 13) (.const (.int .i64 0)) 28) 4), none, []⟩] false)
  (.cond (.tmp 14)
    (.seq (.region [⟨some 15, .build (.agg #[(.int .i64 0), (.int .i64 0), (.slice none 0 0), (.int .i64 0), (.int .i64 0), (.bool false)]) [], none, [1]⟩,
      ⟨some 16, .mov (.tmp 6), none, [0, 2, 3]⟩,
      ⟨none, .store 6 (.tmp 2) (.tmp 15), none, [1]⟩,
      ⟨some 3, .mov (.const (.slice none 0 0)), none, [1]⟩,
      ⟨some 4, .mov (.tmp 16), none, []⟩] false)
    .ret)
    .skip))
  (.seq (.seq (.region [⟨some 17, .mov (.tmp 5), none, []⟩,
    ⟨some 18, .nilck (.tmp 17), none, []⟩,
    ⟨some 19, .fad 0 (.tmp 18), none, []⟩,
    ⟨some 20, .fad 2 (.tmp 19), none, []⟩,
    ⟨some 21, .load 1 false (.tmp 20), none, []⟩,
    ⟨some 22, .len (.tmp 21), none, []⟩,
    ⟨some 23, .pur (mkO (.binOp .eql 3 (.tmp 22) (.const (.int .i64 0)) 3) 4), none, []⟩] false)
  (.cond (.tmp 23)
    (.seq (.region [⟨some 24, .mov (.tmp 5), none, []⟩,
      ⟨some 25, .nilck (.tmp 24), none, []⟩,
      ⟨some 26, .fad 0 (.tmp 25), none, []⟩,
      ⟨some 27, .load 6 true (.tmp 26), none, []⟩,
      ⟨none, .store 6 (.tmp 2) (.tmp 27), none, []⟩,
      ⟨some 3, .mov (.const (.slice none 0 0)), none, []⟩,
      ⟨some 4, .mov (.const (.int .i64 0)), none, []⟩] false)
    .ret)
    .skip))
  (.seq (.seq (.region [⟨some 28, .mov (.tmp 5), none, []⟩,
    ⟨some 29, .nilck (.tmp 28), none, []⟩,
    ⟨some 30, .fad 0 (.tmp 29), none, []⟩,
    ⟨some 31, .fad 4 (.tmp 30), none, []⟩,
    ⟨some 32, .load 1 false (.tmp 31), none, []⟩,
    ⟨some 33, .pur (mkO (.binOp .add 3 (.tmp 32) (.const (.int .i64 1)) 3) 3), none, []⟩,
    ⟨some 34, .nilck (.tmp 28), none, []⟩,
    ⟨some 35, .fad 0 (.tmp 34), none, []⟩,
    ⟨some 36, .fad 4 (.tmp 35), none, []⟩,
    ⟨none, .store 1 (.tmp 36) (.tmp 33), none, []⟩] false)
  (.seq (.region [⟨some 37, .mov (.tmp 5), none, []⟩,
    ⟨some 38, .nilck (.tmp 37), none, []⟩,
    ⟨some 39, .fad 0 (.tmp 38), none, []⟩,
    ⟨some 40, .fad 4 (.tmp 39), none, []⟩,
    ⟨some 41, .load 1 false (.tmp 40), none, []⟩,
    ⟨some 42, .pur (mkO (.binOp .lss 3 (.tmp 41) (.const (.int .i64 3)) 3) 4), none, []⟩] false)
  (.cond (.tmp 42)
    (.seq (.region [⟨some 43, .mov (.tmp 5), none, []⟩,
      ⟨some 44, .nilck (.tmp 43), none, []⟩,
      ⟨some 45, .fad 0 (.tmp 44), none, []⟩,
      ⟨some 46, .load 6 true (.tmp 45), none, []⟩,
      ⟨none, .store 6 (.tmp 2) (.tmp 46), none, []⟩,
      ⟨some 3, .mov (.const (.slice none 0 0)), none, []⟩,
      ⟨some 4, .mov (.const (.int .i64 0)), none, []⟩] false)
    .ret)
    .skip)))
  (.seq (.region [⟨some 47, .mov (.tmp 5), none, []⟩,
    ⟨some 48, .call (.func 42) [(.tmp 47)], none, []⟩,
    ⟨some 7, .mov (.tmp 48), none, []⟩] false)
  (.seq (.region [⟨some 49, .mov (.tmp 5), none, [4]⟩,
    ⟨some 50, .nilck (.tmp 49), none, [4]⟩,
    ⟨some 51, .fad 0 (.tmp 50), none, [4]⟩,
    ⟨some 52, .load 6 true (.tmp 51), none, [4]⟩,
    ⟨some 53, .mov (.tmp 7), none, [0, 1, 2, 3, 5]⟩,
    ⟨none, .store 6 (.tmp 2) (.tmp 52), none, [4]⟩,
    ⟨some 3, .mov (.tmp 53), none, []⟩,
    ⟨some 4, .mov (.const (.int .i64 0)), none, []⟩] false)
  .ret)))))))
def a45 : AFunc := ⟨54, c45, [.cell 2 6 true, .tmp 3, .tmp 4], 1⟩

/-- (*blindstamp/link.under).acked$1 -/
def c59 : ACode :=
  (.seq (.region [⟨some 2, .box 34 (.tmp 0), none, [1]⟩,
    ⟨some 3, .mov (.const (.bool false)), none, [0]⟩] false)
  (.seq (.region [⟨some 4, .fad 0 (.tmp 2), none, [2]⟩,
    ⟨some 5, .load 1 false (.tmp 4), none, [2]⟩,
    ⟨some 6, .load 1 false (.tmp 1), none, [0, 1]⟩,
    ⟨some 7, .pur (mkO (.binOp .leq 3 (.tmp 5) (.tmp 6) 3) 4), none, []⟩,
    ⟨some 3, .mov (.tmp 7), none, []⟩] false)
  .ret))
def a59 : AFunc := ⟨8, c59, [.tmp 3], 0⟩

/-- slices.ContainsFunc[[]blindstamp/api.Item,blindstamp/api.Item] -/
def c60 : ACode :=
  (.seq (.region [⟨some 4, .mov (.const (.bool false)), none, []⟩] false)
  (.seq (.region [⟨some 5, .mov (.tmp 0), none, [1]⟩,
    ⟨some 6, .mov (.tmp 1), none, [0]⟩,
    ⟨some 7, .call (.func 66) [(.tmp 5), (.tmp 6)], none, []⟩,
    ⟨some 8, .pur (mkO (.binOp .geq 3 (.tmp 7) (.const (.int .i64 0)) 3) 4), none, []⟩,
    ⟨some 4, .mov (.tmp 8), none, []⟩] false)
  .ret))
def a60 : AFunc := ⟨9, c60, [.tmp 4], 0⟩

/-- slices.DeleteFunc[[]blindstamp/api.Item,blindstamp/api.Item] -/
def c61 : ACode :=
  (.seq (.region [⟨some 4, .mov (.const (.slice none 0 0)), none, []⟩] false)
  (.seq (.region [⟨some 8, .mov (.tmp 0), none, [1]⟩,
    ⟨some 9, .mov (.tmp 1), none, [0]⟩,
    ⟨some 10, .call (.func 66) [(.tmp 8), (.tmp 9)], none, []⟩,
    ⟨some 5, .mov (.tmp 10), none, []⟩] false)
  (.seq (.seq (.region [⟨some 11, .mov (.tmp 5), none, []⟩,
    ⟨some 12, .pur (mkO (.binOp .eql 3 (.tmp 11) (.const (.int .i64 (-1))) 3) 4), none, []⟩] false)
  (.cond (.tmp 12)
    (.seq (.region [⟨some 13, .mov (.tmp 0), none, []⟩,
      ⟨some 4, .mov (.tmp 13), none, []⟩] false)
    .ret)
    .skip))
  (.seq (.seq (.region [⟨some 14, .mov (.tmp 5), none, []⟩,
    ⟨some 15, .pur (mkO (.binOp .add 3 (.tmp 14) (.const (.int .i64 1)) 3) 3), none, []⟩,
    ⟨some 6, .mov (.tmp 15), none, []⟩] false)
  (.block 0 (.loop (.seq (.seq (.region [⟨some 16, .mov (.tmp 6), none, [1, 2]⟩,
        ⟨some 17, .mov (.tmp 0), none, [0]⟩,
        ⟨some 18, .len (.tmp 17), none, [0]⟩,
        ⟨some 19, .pur (mkO (.binOp .lss 3 (.tmp 16) (.tmp 18) 3) 4), none, []⟩] false)
      (.cond (.tmp 19)
        .skip
        (.exit 0)))
      (.seq (.block 1 (.seq (.region [⟨some 22, .mov (.tmp 0), none, [1, 4]⟩,
          ⟨some 23, .mov (.tmp 6), none, [0, 4]⟩,
          ⟨some 24, .iad 2 (.tmp 22) (.tmp 23), none, [4]⟩,
          ⟨some 25, .load 2 true (.tmp 24), none, [4]⟩,
          ⟨some 7, .alloc 34 (.agg #[(.int .i64 0), (.slice none 0 0)]), none, [0, 1, 2, 3]⟩,
          ⟨none, .store 2 (.tmp 7) (.tmp 25), none, []⟩] false)
        (.seq (.region [⟨some 26, .mov (.tmp 1), none, [1]⟩,
          ⟨some 27, .load 2 true (.tmp 7), none, [0]⟩,
          ⟨some 28, .call (.tmp 26) [(.tmp 27)], none, []⟩,
          ⟨some 29, .pur (mkO (.unOp .not 4 (.tmp 28)) 4), none, []⟩] false)
        (.cond (.tmp 29)
          (.seq (.region [⟨some 30, .mov (.tmp 0), none, [1, 2]⟩,
            ⟨some 31, .mov (.tmp 5), none, [0, 2]⟩,
            ⟨some 32, .load 2 true (.tmp 7), none, [0, 1]⟩,
            ⟨some 33, .iad 2 (.tmp 30) (.tmp 31), none, []⟩,
            ⟨none, .store 2 (.tmp 33) (.tmp 32), none, []⟩] false)
          (.region [⟨some 34, .mov (.tmp 5), none, []⟩,
            ⟨some 35, .pur (mkO (.binOp .add 3 (.tmp 34) (.const (.int .i64 1)) 3) 3), none, []⟩,
            ⟨some 5, .mov (.tmp 35), none, []⟩] false))
          .skip))))
      (.region [⟨some 20, .mov (.tmp 6), none, []⟩,
        ⟨some 21, .pur (mkO (.binOp .add 3 (.tmp 20) (.const (.int .i64 1)) 3) 3), none, []⟩,
        ⟨some 6, .mov (.tmp 21), none, []⟩] false))))))
  (.seq (.region [⟨some 36, .mov (.tmp 0), none, [1]⟩,
    ⟨some 37, .mov (.tmp 5), none, [0]⟩,
    ⟨some 38, .slc 2 (.tmp 36) (some (.tmp 37)) none none, none, []⟩,
    ⟨none, .clr 2 (.agg #[(.int .i64 0), (.slice none 0 0)]) (.tmp 38), none, []⟩] false)
  (.seq (.region [⟨some 39, .mov (.tmp 0), none, [1]⟩,
    ⟨some 40, .mov (.tmp 5), none, [0]⟩,
    ⟨some 41, .slc 2 (.tmp 39) none (some (.tmp 40)) none, none, []⟩,
    ⟨some 4, .mov (.tmp 41), none, []⟩] false)
  .ret))))))
def a61 : AFunc := ⟨42, c61, [.tmp 4], 0⟩

/-- slices.Clone[[]blindstamp/api.Item,blindstamp/api.Item] -/
def c62 : ACode :=
  (.seq (.region [⟨some 2, .mov (.const (.slice none 0 0)), none, []⟩] false)
  (.seq (.seq (.region [⟨some 3, .mov (.tmp 0), none, []⟩,
    ⟨some 4, .eqnil false 1 (.tmp 3) (mkO (.binOp .eql 22 (.tmp 3) (.const (.slice none 0 0)) 22) 4), none, []⟩] false)
  (.cond (.tmp 4)
    (.seq (.region [⟨some 2, .mov (.const (.slice none 0 0)), none, []⟩] false)
    .ret)
    .skip))
  (.seq (.region [⟨some 5, .bsl 34 2 (.agg #[(.int .i64 0), (.slice none 0 0)]) 0 [], none, [1]⟩,
    ⟨some 6, .mov (.tmp 0), none, [0]⟩,
    ⟨some 7, .app 34 2 32 (.agg #[(.int .i64 0), (.slice none 0 0)]) (.tmp 5) (.tmp 6), none, []⟩,
    ⟨some 2, .mov (.tmp 7), none, []⟩] false)
  .ret)))
def a62 : AFunc := ⟨8, c62, [.tmp 2], 0⟩

/-- slices.IndexFunc[[]blindstamp/api.Item,blindstamp/api.Item] -/
def c66 : ACode :=
  (.seq (.region [⟨some 4, .mov (.const (.int .i64 0)), none, []⟩] false)
  (.seq (.seq (.region [⟨some 6, .mov (.tmp 0), none, [2]⟩,
    ⟨some 7, .len (.tmp 6), none, [2]⟩,
    ⟨some 8, .mov (.const (.int .i64 0)), none, [0, 1]⟩] false)
  (.block 0 (.loop (.seq (.region [⟨some 9, .pur (mkO (.binOp .lss 3 (.tmp 8) (.tmp 7) 3) 0), none, []⟩] false)
      (.seq (.cond (.tmp 9)
        .skip
        (.exit 0))
      (.seq (.block 1 (.seq (.region [⟨some 10, .mov (.tmp 8), none, []⟩,
          ⟨some 5, .mov (.tmp 10), none, []⟩] false)
        (.seq (.region [⟨some 11, .mov (.tmp 1), none, [1, 2, 3, 4]⟩,
          ⟨some 12, .mov (.tmp 0), none, [0, 2]⟩,
          ⟨some 13, .mov (.tmp 5), none, [0, 1]⟩,
          ⟨some 14, .iad 2 (.tmp 12) (.tmp 13), none, [0]⟩,
          ⟨some 15, .load 2 true (.tmp 14), none, [0]⟩,
          ⟨some 16, .call (.tmp 11) [(.tmp 15)], none, []⟩] false)
        (.cond (.tmp 16)
          (.seq (.region [⟨some 17, .mov (.tmp 5), none, []⟩,
            ⟨some 4, .mov (.tmp 17), none, []⟩] false)
          .ret)
          .skip))))
      (.region [⟨some 18, .pur (mkO (.binOp .add 3 (.tmp 8) (.const (.int .i64 1)) 3) 3), none, []⟩,
        ⟨some 8, .mov (.tmp 18), none, []⟩] false)))))))
  (.seq (.region [⟨some 4, .mov (.const (.int .i64 (-1))), none, []⟩] false)
  .ret)))
def a66 : AFunc := ⟨19, c66, [.tmp 4], 0⟩

def tbl : List (Option AFunc) := [none, none, none, none, some a4, none, none, none, some a8, none, none, some a11, some a12, some a13, some a14, none, none, none, none, some a19, some a20, none, some a22, some a23, some a24, some a25, some a26, some a27, some a28, some a29, some a30, some a31, none, none, none, none, none, none, none, some a39, none, none, some a42, some a43, some a44, some a45, none, none, none, none, none, none, none, none, none, none, none, none, none, some a59, some a60, some a61, some a62, none, none, none, some a66, none]
theorem tf4 : fsT tbl 4 = some a4 := rfl
theorem tf8 : fsT tbl 8 = some a8 := rfl
theorem tf11 : fsT tbl 11 = some a11 := rfl
theorem tf12 : fsT tbl 12 = some a12 := rfl
theorem tf13 : fsT tbl 13 = some a13 := rfl
theorem tf14 : fsT tbl 14 = some a14 := rfl
theorem tf19 : fsT tbl 19 = some a19 := rfl
theorem tf20 : fsT tbl 20 = some a20 := rfl
theorem tf22 : fsT tbl 22 = some a22 := rfl
theorem tf23 : fsT tbl 23 = some a23 := rfl
theorem tf24 : fsT tbl 24 = some a24 := rfl
theorem tf25 : fsT tbl 25 = some a25 := rfl
theorem tf26 : fsT tbl 26 = some a26 := rfl
theorem tf27 : fsT tbl 27 = some a27 := rfl
theorem tf28 : fsT tbl 28 = some a28 := rfl
theorem tf29 : fsT tbl 29 = some a29 := rfl
theorem tf30 : fsT tbl 30 = some a30 := rfl
theorem tf31 : fsT tbl 31 = some a31 := rfl
theorem tf39 : fsT tbl 39 = some a39 := rfl
theorem tf42 : fsT tbl 42 = some a42 := rfl
theorem tf43 : fsT tbl 43 = some a43 := rfl
theorem tf44 : fsT tbl 44 = some a44 := rfl
theorem tf45 : fsT tbl 45 = some a45 := rfl
theorem tf59 : fsT tbl 59 = some a59 := rfl
theorem tf60 : fsT tbl 60 = some a60 := rfl
theorem tf61 : fsT tbl 61 = some a61 := rfl
theorem tf62 : fsT tbl 62 = some a62 := rfl
theorem tf66 : fsT tbl 66 = some a66 := rfl
end Go.Proofs.Ytbemomagabjbnaa
