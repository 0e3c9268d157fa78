/-
  The program's functions, as the executor has them: the table.
-/
import Derived.Test.YtimimdjpmcmpnaaRows
import Derived.Test.YtimimdjpmcmpnaaEf
set_option linter.unusedSimpArgs false
set_option linter.unusedVariables false
set_option maxRecDepth 100000
namespace Go.Proofs.Ytimimdjpmcmpnaa
open Go Go.Ax
/-- blindstamp/blindstamplaw19.DocAlone -/
def c3 : ACode :=
  (.seq (.region [⟨some 4, .box 34 (.tmp 1), none, [1, 2]⟩,
    ⟨some 5, .box 25 (.tmp 2), none, [0, 2]⟩,
    ⟨some 6, .mov (.const (.bool false)), none, [0, 1]⟩] false)
  (.seq (.region [⟨some 10, .call (.func 4) [], none, []⟩,
    ⟨some 7, .mov (.tmp 10), none, []⟩] false)
  (.seq (.seq (.region [⟨some 11, .mov (.tmp 0), none, []⟩,
    ⟨some 12, .call (.func 5) [(.tmp 11), (.const (.int .i64 25))], none, []⟩,
    ⟨some 13, .mov (.tmp 12), none, []⟩,
    ⟨some 14, .fad 16 (.tmp 4), some (13, false), []⟩,
    ⟨some 15, .load 1 false (.tmp 14), some (13, false), []⟩,
    ⟨some 16, .len (.tmp 15), some (13, false), []⟩,
    ⟨some 17, .pur (mkO (.binOp .gtr 3 (.tmp 16) (.const (.int .i64 300)) 3) 4), some (13, false), []⟩,
    ⟨some 18, .pick (.tmp 13) (.const (.bool true)) (.tmp 17), none, []⟩,
    ⟨some 19, .mov (.tmp 18), none, []⟩,
    ⟨some 20, .mov (.tmp 7), some (19, false), []⟩,
    ⟨some 21, .pur (mkO (.unOp .not 4 (.tmp 20)) 4), some (19, false), []⟩,
    ⟨some 22, .pick (.tmp 19) (.const (.bool true)) (.tmp 21), none, []⟩] false)
  (.cond (.tmp 22)
    (.seq (.region [⟨some 23, .mov (.tmp 7), none, []⟩,
      ⟨some 6, .mov (.tmp 23), none, []⟩] false)
    .ret)
    .skip))
  (.seq (.region [⟨some 25, .mov (.tmp 0), none, [1]⟩,
    ⟨some 26, .load 2 true (.tmp 5), none, [0]⟩,
    ⟨some 27, .call (.func 6) [(.tmp 25), (.tmp 26)], none, []⟩,
    ⟨some 24, .mov (.tmp 27), none, []⟩,
    ⟨some 28, .ext (.tmp 24) 0, none, [5]⟩,
    ⟨some 29, .ext (.tmp 24) 1, none, [4, 6]⟩,
    ⟨some 8, .mov (.tmp 28), none, [5]⟩,
    ⟨some 9, .mov (.tmp 29), none, []⟩] false)
  (.seq (.seq (.region [⟨some 30, .mov (.tmp 9), none, []⟩,
    ⟨some 31, .pur (mkO (.binOp .neq 37 (.tmp 30) (.const (.int .i64 0)) 37) 4), none, []⟩] false)
  (.cond (.tmp 31)
    (.seq (.region [⟨some 32, .mov (.tmp 7), none, []⟩,
      ⟨some 33, .mov (.tmp 32), none, []⟩,
      ⟨some 34, .mov (.tmp 8), some (33, true), []⟩,
      ⟨some 35, .len (.tmp 34), some (33, true), []⟩,
      ⟨some 36, .pur (mkO (.binOp .eql 3 (.tmp 35) (.const (.int .i64 0)) 3) 4), some (33, true), []⟩,
      ⟨some 37, .pick (.tmp 33) (.tmp 36) (.const (.bool false)), none, []⟩,
      ⟨some 6, .mov (.tmp 37), none, []⟩] false)
    .ret)
    .skip))
  (.seq (.seq (.region [⟨some 38, .mov (.tmp 8), none, []⟩,
    ⟨some 39, .call (.func 7) [(.tmp 38)], none, []⟩,
    ⟨some 40, .pur (mkO (.binOp .neq 37 (.tmp 39) (.const (.int .i64 0)) 37) 4), none, []⟩] false)
  (.cond (.tmp 40)
    (.seq (.region [⟨some 6, .mov (.const (.bool false)), none, []⟩] false)
    .ret)
    .skip))
  (.seq (.region [⟨some 41, .mov (.tmp 7), none, []⟩,
    ⟨some 42, .mov (.tmp 41), none, []⟩,
    ⟨some 43, .fad 1 (.tmp 4), some (42, true), [5]⟩,
    ⟨some 44, .fad 0 (.tmp 43), some (42, true), [5]⟩,
    ⟨some 45, .load 2 true (.tmp 44), some (42, true), [5]⟩,
    ⟨some 46, .load 2 true (.tmp 5), some (42, true), [2, 3, 4]⟩,
    ⟨some 47, .call (.func 8) [(.tmp 45), (.tmp 46)], some (42, true), []⟩,
    ⟨some 48, .pur (mkO (.unOp .not 4 (.tmp 47)) 4), some (42, true), []⟩,
    ⟨some 49, .mov (.tmp 48), some (42, true), []⟩,
    ⟨some 50, .mov (.tmp 0), some (49, false), [10, 12, 13]⟩,
    ⟨some 51, .load 17 true (.tmp 4), some (49, false), [9, 12, 13]⟩,
    ⟨some 52, .call (.func 9) [(.tmp 50), (.tmp 51)], some (49, false), [12, 13]⟩,
    ⟨some 53, .mov (.tmp 8), some (49, false), [9, 10, 11, 13]⟩,
    ⟨some 54, .load 17 true (.tmp 4), some (49, false), [9, 10, 11, 12]⟩,
    ⟨some 55, .call (.func 9) [(.tmp 53), (.tmp 54)], some (49, false), []⟩,
    ⟨some 56, .pur (mkO (.binOp .eql 37 (.tmp 52) (.tmp 55) 37) 4), some (49, false), []⟩,
    ⟨some 57, .pick (.tmp 49) (.const (.bool true)) (.tmp 56), some (42, true), []⟩,
    ⟨some 58, .pick (.tmp 42) (.tmp 57) (.const (.bool false)), none, []⟩,
    ⟨some 6, .mov (.tmp 58), none, []⟩] true)
  .ret)))))))
def a3 : AFunc := ⟨59, c3, [.tmp 6], 1⟩

/-- blindstamp/blindstamplaw19.alive -/
def c4 : ACode :=
  (.seq (.region [⟨some 0, .mov (.const (.bool false)), none, []⟩] false)
  (.seq (.region [⟨some 6, .call (.func 11) [], none, []⟩,
    ⟨some 7, .call (.func 10) [(.tmp 6)], none, []⟩,
    ⟨some 5, .mov (.tmp 7), none, []⟩,
    ⟨some 8, .ext (.tmp 5) 0, none, [4]⟩,
    ⟨some 9, .ext (.tmp 5) 1, none, [3, 5]⟩,
    ⟨some 1, .mov (.tmp 8), none, [4]⟩,
    ⟨some 2, .mov (.tmp 9), none, []⟩] false)
  (.seq (.region [⟨some 11, .mov (.tmp 1), none, []⟩,
    ⟨some 12, .call (.func 12) [(.tmp 11)], none, []⟩,
    ⟨some 10, .mov (.tmp 12), none, []⟩,
    ⟨some 13, .ext (.tmp 10) 0, none, [4]⟩,
    ⟨some 14, .ext (.tmp 10) 1, none, [3, 5]⟩,
    ⟨some 3, .mov (.tmp 13), none, [4]⟩,
    ⟨some 4, .mov (.tmp 14), none, []⟩] false)
  (.seq (.seq (.region [⟨some 15, .mov (.tmp 2), none, []⟩,
    ⟨some 16, .pur (mkO (.binOp .neq 37 (.tmp 15) (.const (.int .i64 0)) 37) 4), none, []⟩,
    ⟨some 17, .mov (.tmp 16), none, []⟩,
    ⟨some 18, .mov (.tmp 4), some (17, false), []⟩,
    ⟨some 19, .pur (mkO (.binOp .neq 37 (.tmp 18) (.const (.int .i64 0)) 37) 4), some (17, false), []⟩,
    ⟨some 20, .pick (.tmp 17) (.const (.bool true)) (.tmp 19), none, []⟩,
    ⟨some 21, .mov (.tmp 20), none, []⟩,
    ⟨some 22, .mov (.tmp 3), some (21, false), []⟩,
    ⟨some 23, .len (.tmp 22), some (21, false), []⟩,
    ⟨some 24, .pur (mkO (.binOp .neq 3 (.tmp 23) (.const (.int .i64 4)) 3) 4), some (21, false), []⟩,
    ⟨some 25, .pick (.tmp 21) (.const (.bool true)) (.tmp 24), none, []⟩] false)
  (.cond (.tmp 25)
    (.seq (.region [⟨some 0, .mov (.const (.bool false)), none, []⟩] false)
    .ret)
    .skip))
  (.seq (.region [⟨some 26, .mov (.tmp 3), none, [3]⟩,
    ⟨some 27, .iad 4 (.tmp 26) (.const (.int .i64 0)), none, [3]⟩,
    ⟨some 28, .load 4 true (.tmp 27), none, [3]⟩,
    ⟨some 29, .call (.func 13) [(.const (.int .u8 1)), (.const (.int .i64 1))], none, [0, 1, 2]⟩,
    ⟨some 30, .pur (mkO (.binOp .eql 29 (.tmp 28) (.tmp 29) 29) 4), none, []⟩,
    ⟨some 31, .mov (.tmp 30), none, []⟩,
    ⟨some 32, .mov (.tmp 3), some (31, true), [9]⟩,
    ⟨some 33, .iad 4 (.tmp 32) (.const (.int .i64 1)), some (31, true), [9]⟩,
    ⟨some 34, .load 4 true (.tmp 33), some (31, true), [9]⟩,
    ⟨some 35, .call (.func 13) [(.const (.int .u8 1)), (.const (.int .i64 2))], some (31, true), [6, 7, 8]⟩,
    ⟨some 36, .pur (mkO (.binOp .eql 29 (.tmp 34) (.tmp 35) 29) 4), some (31, true), []⟩,
    ⟨some 37, .pick (.tmp 31) (.tmp 36) (.const (.bool false)), none, []⟩,
    ⟨some 38, .mov (.tmp 37), none, []⟩,
    ⟨some 39, .mov (.tmp 3), some (38, true), [16]⟩,
    ⟨some 40, .iad 4 (.tmp 39) (.const (.int .i64 2)), some (38, true), [16]⟩,
    ⟨some 41, .load 4 true (.tmp 40), some (38, true), [16]⟩,
    ⟨some 42, .call (.func 13) [(.const (.int .u8 2)), (.const (.int .i64 5))], some (38, true), [13, 14, 15]⟩,
    ⟨some 43, .pur (mkO (.binOp .eql 29 (.tmp 41) (.tmp 42) 29) 4), some (38, true), []⟩,
    ⟨some 44, .pick (.tmp 38) (.tmp 43) (.const (.bool false)), none, []⟩,
    ⟨some 45, .mov (.tmp 44), none, []⟩,
    ⟨some 46, .mov (.tmp 3), some (45, true), [23]⟩,
    ⟨some 47, .iad 4 (.tmp 46) (.const (.int .i64 3)), some (45, true), [23]⟩,
    ⟨some 48, .load 4 true (.tmp 47), some (45, true), [23]⟩,
    ⟨some 49, .call (.func 13) [(.const (.int .u8 1)), (.const (.int .i64 3))], some (45, true), [20, 21, 22]⟩,
    ⟨some 50, .pur (mkO (.binOp .eql 29 (.tmp 48) (.tmp 49) 29) 4), some (45, true), []⟩,
    ⟨some 51, .pick (.tmp 45) (.tmp 50) (.const (.bool false)), none, []⟩,
    ⟨some 52, .mov (.tmp 51), none, []⟩,
    ⟨some 53, .call (.func 11) [], some (52, true), []⟩,
    ⟨some 54, .call (.func 13) [(.const (.int .u8 1)), (.const (.int .i64 1))], some (52, true), []⟩,
    ⟨some 55, .call (.func 14) [(.const (.int .u8 2)), (.const (.int .u8 1)), (.tmp 54), (.const (.int .i64 2))], some (52, true), []⟩,
    ⟨some 56, .call (.func 9) [(.tmp 53), (.tmp 55)], some (52, true), []⟩,
    ⟨some 57, .pur (mkO (.binOp .eql 37 (.tmp 56) (.const (.int .i64 0)) 37) 4), some (52, true), []⟩,
    ⟨some 58, .pick (.tmp 52) (.tmp 57) (.const (.bool false)), none, []⟩,
    ⟨some 0, .mov (.tmp 58), none, []⟩] true)
  .ret)))))
def a4 : AFunc := ⟨59, c4, [.tmp 0], 1⟩

/-- blindstamp/blindstampref18.Great -/
def c5 : ACode :=
  (.seq (.region [⟨some 4, .mov (.const (.bool false)), none, []⟩] false)
  (.seq (.region [⟨some 5, .mov (.const (.int .i64 0)), none, []⟩] false)
  (.seq (.seq (.region [⟨some 6, .mov (.const (.int .i64 0)), none, []⟩] false)
  (.block 0 (.loop (.seq (.seq (.region [⟨some 7, .mov (.tmp 6), none, [1, 2]⟩,
        ⟨some 8, .mov (.tmp 0), none, [0]⟩,
        ⟨some 9, .len (.tmp 8), none, [0]⟩,
        ⟨some 10, .pur (mkO (.binOp .lss 3 (.tmp 7) (.tmp 9) 3) 4), none, []⟩,
        ⟨some 11, .mov (.tmp 10), none, []⟩,
        ⟨some 12, .mov (.tmp 6), some (11, true), []⟩,
        ⟨some 13, .pur (mkO (.binOp .lss 3 (.tmp 12) (.const (.int .i64 300)) 3) 4), some (11, true), []⟩,
        ⟨some 14, .pick (.tmp 11) (.tmp 13) (.const (.bool false)), none, []⟩] false)
      (.cond (.tmp 14)
        .skip
        (.exit 0)))
      (.seq (.block 1 (.region [⟨some 17, .mov (.tmp 5), none, [1, 2, 3, 4, 5, 6, 7, 8, 9, 10, 11, 12, 13, 14, 15, 16]⟩,
          ⟨some 18, .mov (.tmp 0), none, [0, 2, 9, 10, 11, 12, 13, 14, 15]⟩,
          ⟨some 19, .mov (.tmp 6), none, [0, 1, 9, 10, 11, 12, 13, 14, 15]⟩,
          ⟨some 20, .iad 17 (.tmp 18) (.tmp 19), none, [0, 9, 10, 11, 12, 13, 14, 15]⟩,
          ⟨some 21, .fad 5 (.tmp 20), none, [0, 9, 10, 11, 12, 13, 14, 15]⟩,
          ⟨some 22, .fad 4 (.tmp 21), none, [0, 9, 10, 11, 12, 13, 14, 15]⟩,
          ⟨some 23, .load 1 false (.tmp 22), none, [0, 9, 10, 11, 12, 13, 14, 15]⟩,
          ⟨some 24, .pur (mkO (.call ⟨.builtin .max, #[(.tmp 23), (.const (.int .i64 0))], #[3, 3]⟩) 3), none, [0, 9, 10, 11, 12, 13, 14, 15]⟩,
          ⟨some 25, .pur (mkO (.call ⟨.builtin .min, #[(.tmp 24), (.const (.int .i64 100))], #[3, 3]⟩) 3), none, [0, 9, 10, 11, 12, 13, 14, 15]⟩,
          ⟨some 26, .mov (.tmp 0), none, [0, 1, 2, 3, 4, 5, 6, 7, 8, 10]⟩,
          ⟨some 27, .mov (.tmp 6), none, [0, 1, 2, 3, 4, 5, 6, 7, 8, 9]⟩,
          ⟨some 28, .iad 17 (.tmp 26) (.tmp 27), none, [0, 1, 2, 3, 4, 5, 6, 7, 8]⟩,
          ⟨some 29, .fad 16 (.tmp 28), none, [0, 1, 2, 3, 4, 5, 6, 7, 8]⟩,
          ⟨some 30, .load 1 false (.tmp 29), none, [0, 1, 2, 3, 4, 5, 6, 7, 8]⟩,
          ⟨some 31, .len (.tmp 30), none, [0, 1, 2, 3, 4, 5, 6, 7, 8]⟩,
          ⟨some 32, .pur (mkO (.call ⟨.builtin .min, #[(.tmp 31), (.const (.int .i64 1000))], #[3, 3]⟩) 3), none, [0, 1, 2, 3, 4, 5, 6, 7, 8]⟩,
          ⟨some 33, .pur (mkO (.call ⟨.builtin .max, #[(.tmp 25), (.tmp 32)], #[3, 3]⟩) 3), none, [0]⟩,
          ⟨some 34, .pur (mkO (.binOp .add 3 (.tmp 17) (.tmp 33) 3) 3), none, []⟩,
          ⟨some 5, .mov (.tmp 34), none, []⟩] true))
      (.region [⟨some 15, .mov (.tmp 6), none, []⟩,
        ⟨some 16, .pur (mkO (.binOp .add 3 (.tmp 15) (.const (.int .i64 1)) 3) 3), none, []⟩,
        ⟨some 6, .mov (.tmp 16), none, []⟩] false))))))
  (.seq (.region [⟨some 35, .mov (.tmp 0), none, [2]⟩,
    ⟨some 36, .len (.tmp 35), none, [2]⟩,
    ⟨some 37, .mov (.tmp 1), none, [0, 1]⟩,
    ⟨some 38, .pur (mkO (.binOp .gtr 3 (.tmp 36) (.tmp 37) 3) 4), none, []⟩,
    ⟨some 39, .mov (.tmp 38), none, []⟩,
    ⟨some 40, .mov (.tmp 5), some (39, false), []⟩,
    ⟨some 41, .pur (mkO (.binOp .gtr 3 (.tmp 40) (.const (.int .i64 300)) 3) 4), some (39, false), []⟩,
    ⟨some 42, .pick (.tmp 39) (.const (.bool true)) (.tmp 41), none, []⟩,
    ⟨some 4, .mov (.tmp 42), none, []⟩] false)
  .ret))))
def a5 : AFunc := ⟨43, c5, [.tmp 4], 1⟩

/-- blindstamp/doc.Only -/
def c6 : ACode :=
  (.seq (.region [⟨some 3, .box 25 (.tmp 1), none, [1, 2]⟩,
    ⟨some 4, .mov (.const (.slice none 0 0)), none, [0]⟩,
    ⟨some 5, .mov (.const (.int .i64 0)), none, [0]⟩] false)
  (.seq (.seq (.region [⟨some 9, .mov (.tmp 0), none, [2]⟩,
    ⟨some 10, .call (.func 7) [(.tmp 9)], none, [2]⟩,
    ⟨some 11, .load 2 true (.tmp 3), none, [0, 1]⟩,
    ⟨some 12, .call (.func 15) [(.tmp 11)], none, []⟩,
    ⟨some 13, .pur (mkO (.call ⟨.builtin .max, #[(.tmp 10), (.tmp 12)], #[37, 37]⟩) 37), none, []⟩,
    ⟨some 6, .mov (.tmp 13), none, []⟩] true)
  (.seq (.region [⟨some 14, .mov (.tmp 6), none, []⟩,
    ⟨some 15, .pur (mkO (.binOp .neq 37 (.tmp 14) (.const (.int .i64 0)) 37) 4), none, []⟩] false)
  (.cond (.tmp 15)
    (.seq (.region [⟨some 16, .mov (.tmp 6), none, [1]⟩,
      ⟨some 4, .mov (.const (.slice none 0 0)), none, [0]⟩,
      ⟨some 5, .mov (.tmp 16), none, []⟩] false)
    .ret)
    .skip)))
  (.seq (.seq (.region [⟨some 17, .mov (.tmp 0), none, [2]⟩,
    ⟨some 18, .len (.tmp 17), none, [2]⟩,
    ⟨some 19, .mov (.const (.int .i64 0)), none, [0, 1]⟩] false)
  (.block 0 (.loop (.seq (.region [⟨some 20, .pur (mkO (.binOp .lss 3 (.tmp 19) (.tmp 18) 3) 0), none, []⟩] false)
      (.seq (.cond (.tmp 20)
        .skip
        (.exit 0))
      (.seq (.block 1 (.seq (.region [⟨some 21, .iad 17 (.tmp 17) (.tmp 19), none, [2]⟩,
          ⟨some 22, .load 17 true (.tmp 21), none, [2]⟩,
          ⟨some 8, .alloc 34 (.agg #[(.int .u8 0), (.int .u8 0), (.int .u32 0), (.int .u8 0), (.int .i64 0), (.int .u8 0), (.int .u32 0), (.int .u8 0), (.int .i64 0), (.int .i64 0), (.int .u8 0), (.int .u32 0), (.int .u8 0), (.int .i64 0), (.int .u8 0), (.int .u32 0), (.slice none 0 0)]), none, [0, 1]⟩,
          ⟨none, .store 17 (.tmp 8) (.tmp 22), none, []⟩] false)
        (.seq (.region [⟨some 23, .fad 1 (.tmp 8), none, [3]⟩,
          ⟨some 24, .fad 0 (.tmp 23), none, [3]⟩,
          ⟨some 25, .load 2 true (.tmp 24), none, [3]⟩,
          ⟨some 26, .load 2 true (.tmp 3), none, [0, 1, 2]⟩,
          ⟨some 27, .call (.func 8) [(.tmp 25), (.tmp 26)], none, []⟩] false)
        (.cond (.tmp 27)
          (.region [⟨some 28, .mov (.tmp 4), none, [1, 2, 3]⟩,
            ⟨some 29, .load 17 true (.tmp 8), none, [0]⟩,
            ⟨some 30, .call (.func 16) [(.tmp 29)], none, [0]⟩,
            ⟨some 31, .bsl 34 17 (.agg #[(.int .u8 0), (.int .u8 0), (.int .u32 0), (.int .u8 0), (.int .i64 0), (.int .u8 0), (.int .u32 0), (.int .u8 0), (.int .i64 0), (.int .i64 0), (.int .u8 0), (.int .u32 0), (.int .u8 0), (.int .i64 0), (.int .u8 0), (.int .u32 0), (.slice none 0 0)]) 1 [(0, 17, (.tmp 30))], none, [0]⟩,
            ⟨some 32, .app 34 17 112 (.agg #[(.int .u8 0), (.int .u8 0), (.int .u32 0), (.int .u8 0), (.int .i64 0), (.int .u8 0), (.int .u32 0), (.int .u8 0), (.int .i64 0), (.int .i64 0), (.int .u8 0), (.int .u32 0), (.int .u8 0), (.int .i64 0), (.int .u8 0), (.int .u32 0), (.slice none 0 0)]) (.tmp 28) (.tmp 31), none, []⟩,
            ⟨some 4, .mov (.tmp 32), none, []⟩] false)
          .skip))))
      (.region [⟨some 33, .pur (mkO (.binOp .add 3 (.tmp 19) (.const (.int .i64 1)) 3) 3), none, []⟩,
        ⟨some 19, .mov (.tmp 33), none, []⟩] false)))))))
  (.seq (.region [⟨some 34, .mov (.tmp 4), none, []⟩,
    ⟨some 4, .mov (.tmp 34), none, []⟩,
    ⟨some 5, .mov (.const (.int .i64 0)), none, []⟩] false)
  .ret))))
def a6 : AFunc := ⟨35, c6, [.tmp 4, .tmp 5], 1⟩

/-- blindstamp/doc.Check -/
def c7 : ACode :=
  (.seq (.region [⟨some 2, .mov (.const (.int .i64 0)), none, []⟩] false)
  (.seq (.seq (.region [⟨some 6, .mov (.tmp 0), none, []⟩,
    ⟨some 7, .call (.func 17) [(.tmp 6)], none, []⟩,
    ⟨some 5, .mov (.tmp 7), none, []⟩,
    ⟨some 8, .ext (.tmp 5) 0, none, [4]⟩,
    ⟨some 9, .ext (.tmp 5) 1, none, [3, 5]⟩,
    ⟨some 3, .mov (.tmp 8), none, [4]⟩,
    ⟨some 4, .mov (.tmp 9), none, []⟩] false)
  (.seq (.region [⟨some 10, .mov (.tmp 4), none, []⟩,
    ⟨some 11, .pur (mkO (.unOp .not 4 (.tmp 10)) 4), none, []⟩] false)
  (.cond (.tmp 11)
    (.seq (.region [⟨some 2, .mov (.const (.int .i64 8)), none, []⟩] false)
    .ret)
    .skip)))
  (.seq (.region [⟨some 2, .mov (.const (.int .i64 0)), none, []⟩] false)
  .ret)))
def a7 : AFunc := ⟨12, c7, [.tmp 2], 1⟩

/-- blindstamp/label.Leq -/
def c8 : ACode :=
  (.seq (.region [⟨some 2, .box 25 (.tmp 0), none, [1, 2]⟩,
    ⟨some 3, .box 25 (.tmp 1), none, [0, 2]⟩,
    ⟨some 4, .mov (.const (.bool false)), none, [0, 1]⟩] false)
  (.seq (.region [⟨some 5, .fad 0 (.tmp 2), none, [2, 3]⟩,
    ⟨some 6, .load 1 false (.tmp 5), none, [2, 3]⟩,
    ⟨some 7, .fad 0 (.tmp 3), none, [0, 1]⟩,
    ⟨some 8, .load 1 false (.tmp 7), none, [0, 1]⟩,
    ⟨some 9, .pur (mkO (.binOp .leq 5 (.tmp 6) (.tmp 8) 5) 4), none, []⟩,
    ⟨some 10, .mov (.tmp 9), none, []⟩,
    ⟨some 11, .fad 1 (.tmp 2), some (10, true), [8, 9]⟩,
    ⟨some 12, .load 1 false (.tmp 11), some (10, true), [8, 9]⟩,
    ⟨some 13, .fad 1 (.tmp 3), some (10, true), [6, 7]⟩,
    ⟨some 14, .load 1 false (.tmp 13), some (10, true), [6, 7]⟩,
    ⟨some 15, .pur (mkO (.binOp .andNot 23 (.tmp 12) (.tmp 14) 23) 23), some (10, true), []⟩,
    ⟨some 16, .pur (mkO (.binOp .eql 23 (.tmp 15) (.const (.int .u32 0)) 23) 4), some (10, true), []⟩,
    ⟨some 17, .pick (.tmp 10) (.tmp 16) (.const (.bool false)), none, []⟩,
    ⟨some 4, .mov (.tmp 17), none, []⟩] false)
  .ret))
def a8 : AFunc := ⟨18, c8, [.tmp 4], 1⟩

/-- blindstamp/doc.Fits -/
def c9 : ACode :=
  (.seq (.region [⟨some 3, .box 34 (.tmp 1), none, [1]⟩,
    ⟨some 4, .mov (.const (.int .i64 0)), none, [0]⟩] false)
  (.seq (.region [⟨some 9, .mov (.tmp 0), none, []⟩,
    ⟨some 10, .call (.func 17) [(.tmp 9)], none, []⟩,
    ⟨some 8, .mov (.tmp 10), none, []⟩,
    ⟨some 11, .ext (.tmp 8) 0, none, [4]⟩,
    ⟨some 12, .ext (.tmp 8) 1, none, [3, 5]⟩,
    ⟨some 5, .mov (.tmp 11), none, [4]⟩,
    ⟨some 6, .mov (.tmp 12), none, []⟩] false)
  (.seq (.seq (.region [⟨some 13, .mov (.tmp 6), none, []⟩,
    ⟨some 14, .pur (mkO (.unOp .not 4 (.tmp 13)) 4), none, []⟩] false)
  (.cond (.tmp 14)
    (.seq (.region [⟨some 4, .mov (.const (.int .i64 8)), none, []⟩] false)
    .ret)
    .skip))
  (.seq (.seq (.region [⟨some 15, .load 17 true (.tmp 3), none, []⟩,
    ⟨some 16, .call (.func 18) [(.tmp 15)], none, []⟩,
    ⟨some 7, .mov (.tmp 16), none, []⟩] false)
  (.seq (.region [⟨some 17, .mov (.tmp 7), none, []⟩,
    ⟨some 18, .pur (mkO (.binOp .neq 37 (.tmp 17) (.const (.int .i64 0)) 37) 4), none, []⟩] false)
  (.cond (.tmp 18)
    (.seq (.region [⟨some 19, .mov (.tmp 7), none, []⟩,
      ⟨some 4, .mov (.tmp 19), none, []⟩] false)
    .ret)
    .skip)))
  (.seq (.region [⟨some 20, .mov (.tmp 5), none, [1]⟩,
    ⟨some 21, .load 17 true (.tmp 3), none, [0]⟩,
    ⟨some 22, .call (.func 19) [(.tmp 20), (.tmp 21)], none, []⟩,
    ⟨some 4, .mov (.tmp 22), none, []⟩] false)
  .ret)))))
def a9 : AFunc := ⟨23, c9, [.tmp 4], 1⟩

/-- blindstamp/doc.Text -/
def c10 : ACode :=
  (.seq (.region [⟨some 2, .mov (.const (.slice none 0 0)), none, []⟩,
    ⟨some 3, .mov (.const (.int .i64 0)), none, []⟩] false)
  (.seq (.seq (.region [⟨some 9, .mov (.tmp 0), none, []⟩,
    ⟨some 10, .call (.func 7) [(.tmp 9)], none, []⟩,
    ⟨some 4, .mov (.tmp 10), none, []⟩] false)
  (.seq (.region [⟨some 11, .mov (.tmp 4), none, []⟩,
    ⟨some 12, .pur (mkO (.binOp .neq 37 (.tmp 11) (.const (.int .i64 0)) 37) 4), none, []⟩] false)
  (.cond (.tmp 12)
    (.seq (.region [⟨some 13, .mov (.tmp 4), none, [1]⟩,
      ⟨some 2, .mov (.const (.slice none 0 0)), none, [0]⟩,
      ⟨some 3, .mov (.tmp 13), none, []⟩] false)
    .ret)
    .skip)))
  (.seq (.seq (.region [⟨some 14, .mov (.tmp 0), none, [2]⟩,
    ⟨some 15, .len (.tmp 14), none, [2]⟩,
    ⟨some 16, .mov (.const (.int .i64 0)), none, [0, 1]⟩] false)
  (.block 0 (.loop (.seq (.region [⟨some 17, .pur (mkO (.binOp .lss 3 (.tmp 16) (.tmp 15) 3) 0), none, []⟩] false)
      (.seq (.cond (.tmp 17)
        .skip
        (.exit 0))
      (.seq (.block 1 (.seq (.region [⟨some 18, .iad 17 (.tmp 14) (.tmp 16), none, [2]⟩,
          ⟨some 19, .load 17 true (.tmp 18), none, [2]⟩,
          ⟨some 6, .alloc 34 (.agg #[(.int .u8 0), (.int .u8 0), (.int .u32 0), (.int .u8 0), (.int .i64 0), (.int .u8 0), (.int .u32 0), (.int .u8 0), (.int .i64 0), (.int .i64 0), (.int .u8 0), (.int .u32 0), (.int .u8 0), (.int .i64 0), (.int .u8 0), (.int .u32 0), (.slice none 0 0)]), none, [0, 1]⟩,
          ⟨none, .store 17 (.tmp 6) (.tmp 19), none, []⟩] false)
        (.seq (.region [⟨some 21, .load 17 true (.tmp 6), none, [5]⟩,
          ⟨some 22, .call (.func 20) [(.tmp 21)], none, [5]⟩,
          ⟨some 20, .mov (.tmp 22), none, [5]⟩,
          ⟨some 23, .ext (.tmp 20) 0, none, [4, 5]⟩,
          ⟨some 24, .ext (.tmp 20) 1, none, [3, 5, 6]⟩,
          ⟨some 7, .alloc 60 (.agg #[(.int .u8 0), (.int .u32 0), (.int .u8 0), (.int .i64 0), (.int .i64 0), (.int .u8 0), (.int .u32 0), (.int .u8 0), (.int .i64 0), (.slice none 0 0)]), none, [0, 1, 2, 3, 4]⟩,
          ⟨none, .store 10 (.tmp 7) (.tmp 23), none, [4]⟩,
          ⟨some 8, .mov (.tmp 24), none, []⟩] false)
        (.seq (.region [⟨some 25, .mov (.tmp 8), none, []⟩,
          ⟨some 26, .pur (mkO (.binOp .eql 37 (.tmp 25) (.const (.int .i64 0)) 37) 4), none, []⟩] false)
        (.cond (.tmp 26)
          (.seq (.region [⟨some 28, .mov (.tmp 2), none, [1]⟩,
            ⟨some 29, .load 10 true (.tmp 7), none, [0]⟩,
            ⟨some 30, .call (.func 21) [(.tmp 28), (.tmp 29)], none, []⟩,
            ⟨some 27, .mov (.tmp 30), none, []⟩,
            ⟨some 31, .ext (.tmp 27) 0, none, [5]⟩,
            ⟨some 32, .ext (.tmp 27) 1, none, [4, 6]⟩,
            ⟨some 2, .mov (.tmp 31), none, [5]⟩,
            ⟨some 8, .mov (.tmp 32), none, []⟩] false)
          (.seq (.region [⟨some 33, .mov (.tmp 8), none, []⟩,
            ⟨some 34, .pur (mkO (.binOp .neq 37 (.tmp 33) (.const (.int .i64 0)) 37) 4), none, []⟩] false)
          (.cond (.tmp 34)
            (.seq (.region [⟨some 35, .mov (.tmp 8), none, [1]⟩,
              ⟨some 2, .mov (.const (.slice none 0 0)), none, [0]⟩,
              ⟨some 3, .mov (.tmp 35), none, []⟩] false)
            .ret)
            .skip)))
          .skip)))))
      (.region [⟨some 36, .pur (mkO (.binOp .add 3 (.tmp 16) (.const (.int .i64 1)) 3) 3), none, []⟩,
        ⟨some 16, .mov (.tmp 36), none, []⟩] false)))))))
  (.seq (.region [⟨some 37, .mov (.tmp 2), none, []⟩,
    ⟨some 2, .mov (.tmp 37), none, []⟩,
    ⟨some 3, .mov (.const (.int .i64 0)), none, []⟩] false)
  .ret))))
def a10 : AFunc := ⟨38, c10, [.tmp 2, .tmp 3], 1⟩

/-- blindstamp/blindstamplaw19.two -/
def c11 : ACode :=
  (.seq (.region [⟨some 0, .mov (.const (.slice none 0 0)), none, []⟩] false)
  (.seq (.region [⟨some 3, .call (.func 13) [(.const (.int .u8 1)), (.const (.int .i64 1))], none, [2]⟩,
    ⟨some 4, .call (.func 14) [(.const (.int .u8 1)), (.const (.int .u8 1)), (.tmp 3), (.const (.int .i64 3))], none, [2]⟩,
    ⟨some 1, .alloc 34 (.agg #[(.int .u8 0), (.int .u8 0), (.int .u32 0), (.int .u8 0), (.int .i64 0), (.int .u8 0), (.int .u32 0), (.int .u8 0), (.int .i64 0), (.int .i64 0), (.int .u8 0), (.int .u32 0), (.int .u8 0), (.int .i64 0), (.int .u8 0), (.int .u32 0), (.slice none 0 0)]), none, [0, 1]⟩,
    ⟨none, .store 17 (.tmp 1) (.tmp 4), none, []⟩] false)
  (.seq (.region [⟨some 5, .mksl 21 1 4 (.int .i32 0) (.const (.int .i64 3)) (.const (.int .i64 3)), none, []⟩,
    ⟨some 6, .fad 16 (.tmp 1), none, []⟩,
    ⟨none, .store 1 (.tmp 6) (.tmp 5), none, []⟩] false)
  (.seq (.region [⟨some 7, .call (.func 13) [(.const (.int .u8 2)), (.const (.int .i64 5))], none, [2]⟩,
    ⟨some 8, .call (.func 14) [(.const (.int .u8 1)), (.const (.int .u8 2)), (.tmp 7), (.const (.int .i64 1))], none, [2]⟩,
    ⟨some 2, .alloc 34 (.agg #[(.int .u8 0), (.int .u8 0), (.int .u32 0), (.int .u8 0), (.int .i64 0), (.int .u8 0), (.int .u32 0), (.int .u8 0), (.int .i64 0), (.int .i64 0), (.int .u8 0), (.int .u32 0), (.int .u8 0), (.int .i64 0), (.int .u8 0), (.int .u32 0), (.slice none 0 0)]), none, [0, 1]⟩,
    ⟨none, .store 17 (.tmp 2) (.tmp 8), none, []⟩] false)
  (.seq (.region [⟨some 9, .call (.func 13) [(.const (.int .u8 1)), (.const (.int .i64 2))], none, []⟩,
    ⟨some 10, .fad 10 (.tmp 2), none, []⟩,
    ⟨none, .store 4 (.tmp 10) (.tmp 9), none, []⟩] false)
  (.seq (.region [⟨some 11, .mksl 21 1 4 (.int .i32 0) (.const (.int .i64 1)) (.const (.int .i64 1)), none, []⟩,
    ⟨some 12, .fad 16 (.tmp 2), none, []⟩,
    ⟨none, .store 1 (.tmp 12) (.tmp 11), none, []⟩] false)
  (.seq (.region [⟨some 13, .load 17 true (.tmp 1), none, [1]⟩,
    ⟨some 14, .load 17 true (.tmp 2), none, [0]⟩,
    ⟨some 15, .bsl 34 17 (.agg #[(.int .u8 0), (.int .u8 0), (.int .u32 0), (.int .u8 0), (.int .i64 0), (.int .u8 0), (.int .u32 0), (.int .u8 0), (.int .i64 0), (.int .i64 0), (.int .u8 0), (.int .u32 0), (.int .u8 0), (.int .i64 0), (.int .u8 0), (.int .u32 0), (.slice none 0 0)]) 2 [(0, 17, (.tmp 13)), (17, 17, (.tmp 14))], none, []⟩,
    ⟨some 0, .mov (.tmp 15), none, []⟩] false)
  .ret)))))))
def a11 : AFunc := ⟨16, c11, [.tmp 0], 1⟩

/-- blindstamp/tree.Ids -/
def c12 : ACode :=
  (.seq (.region [⟨some 2, .alloc 48 (.slice none 0 0), none, [1]⟩,
    ⟨some 3, .mov (.const (.int .i64 0)), none, [0]⟩] false)
  (.seq (.seq (.region [⟨some 6, .mov (.tmp 0), none, []⟩,
    ⟨some 7, .call (.func 22) [(.tmp 6)], none, []⟩,
    ⟨some 4, .mov (.tmp 7), none, []⟩] false)
  (.seq (.region [⟨some 8, .mov (.tmp 4), none, []⟩,
    ⟨some 9, .pur (mkO (.binOp .neq 37 (.tmp 8) (.const (.int .i64 0)) 37) 4), none, []⟩] false)
  (.cond (.tmp 9)
    (.seq (.region [⟨some 10, .mov (.tmp 4), none, [1]⟩,
      ⟨none, .store 1 (.tmp 2) (.const (.slice none 0 0)), none, [0]⟩,
      ⟨some 3, .mov (.tmp 10), none, []⟩] false)
    .ret)
    .skip)))
  (.seq (.seq (.region [⟨some 11, .mov (.tmp 0), none, []⟩,
    ⟨some 12, .call (.func 23) [(.tmp 11)], none, []⟩] false)
  (.block 0 (.rangeFunc (.tmp 12) [13, 14] (.region [⟨some 5, .alloc 29 (.agg #[(.int .u8 0), (.int .u32 0), (.int .u8 0), (.int .i64 0)]), none, []⟩,
        ⟨none, .store 4 (.tmp 5) (.tmp 13), none, []⟩] false) (.block 1 (.region [⟨some 15, .load 1 false (.tmp 2), none, [1, 2]⟩,
          ⟨some 16, .load 4 true (.tmp 5), none, [0]⟩,
          ⟨some 17, .bsl 29 4 (.agg #[(.int .u8 0), (.int .u32 0), (.int .u8 0), (.int .i64 0)]) 1 [(0, 4, (.tmp 16))], none, [0]⟩,
          ⟨some 18, .app 29 4 24 (.agg #[(.int .u8 0), (.int .u32 0), (.int .u8 0), (.int .i64 0)]) (.tmp 15) (.tmp 17), none, []⟩,
          ⟨none, .store 1 (.tmp 2) (.tmp 18), none, []⟩] false)))))
  (.seq (.region [⟨some 19, .load 1 false (.tmp 2), none, []⟩,
    ⟨none, .store 1 (.tmp 2) (.tmp 19), none, []⟩,
    ⟨some 3, .mov (.const (.int .i64 0)), none, []⟩] false)
  .ret))))
def a12 : AFunc := ⟨20, c12, [.cell 2 1 false, .tmp 3], 1⟩

/-- blindstamp/blindstamplaw19.of -/
def c13 : ACode :=
  (.seq (.region [⟨some 4, .alloc 29 (.agg #[(.int .u8 0), (.int .u32 0), (.int .u8 0), (.int .i64 0)]), none, []⟩] false)
  (.seq (.region [⟨some 5, .mov (.tmp 0), none, [3]⟩,
    ⟨some 6, .build (.agg #[(.int .u8 0), (.int .u32 0)]) [(0, 1, (.tmp 5))], none, [3]⟩,
    ⟨some 7, .build (.agg #[(.int .u8 0), (.int .u32 0), (.int .u8 0)]) [(0, 2, (.tmp 6))], none, [3]⟩,
    ⟨some 8, .mov (.tmp 1), none, [0, 1, 2]⟩,
    ⟨some 9, .build (.agg #[(.int .u8 0), (.int .u32 0), (.int .u8 0), (.int .i64 0)]) [(0, 3, (.tmp 7)), (3, 1, (.tmp 8))], none, []⟩,
    ⟨none, .store 4 (.tmp 4) (.tmp 9), none, []⟩] false)
  .ret))
def a13 : AFunc := ⟨10, c13, [.cell 4 4 true], 1⟩

/-- blindstamp/blindstamplaw19.do -/
def c14 : ACode :=
  (.seq (.region [⟨some 6, .box 29 (.tmp 2), none, [1]⟩,
    ⟨some 8, .alloc 34 (.agg #[(.int .u8 0), (.int .u8 0), (.int .u32 0), (.int .u8 0), (.int .i64 0), (.int .u8 0), (.int .u32 0), (.int .u8 0), (.int .i64 0), (.int .i64 0), (.int .u8 0), (.int .u32 0), (.int .u8 0), (.int .i64 0), (.int .u8 0), (.int .u32 0), (.slice none 0 0)]), none, [0]⟩] false)
  (.seq (.region [⟨some 9, .mov (.tmp 0), none, [1, 2, 3, 4, 5, 6]⟩,
    ⟨some 10, .mov (.tmp 1), none, [0, 4, 5, 6]⟩,
    ⟨some 11, .call (.func 13) [(.tmp 10), (.const (.int .i64 1))], none, [0, 4, 5, 6]⟩,
    ⟨some 12, .fld 0 3 true (.tmp 11), none, [0, 4, 5, 6]⟩,
    ⟨some 13, .load 4 true (.tmp 6), none, [0, 1, 2, 3, 5]⟩,
    ⟨some 14, .mov (.tmp 3), none, [0, 1, 2, 3, 4]⟩,
    ⟨some 15, .build (.agg #[(.int .u8 0), (.int .u32 0), (.int .u8 0), (.int .i64 0), (.int .i64 0)]) [(0, 4, (.tmp 13)), (4, 1, (.tmp 14))], none, [0, 1, 2, 3]⟩,
    ⟨some 16, .build (.agg #[(.int .u8 0), (.int .u8 0), (.int .u32 0), (.int .u8 0), (.int .i64 0), (.int .u8 0), (.int .u32 0), (.int .u8 0), (.int .i64 0), (.int .i64 0), (.int .u8 0), (.int .u32 0), (.int .u8 0), (.int .i64 0), (.int .u8 0), (.int .u32 0), (.slice none 0 0)]) [(0, 1, (.tmp 9)), (1, 3, (.tmp 12)), (4, 1, (.const (.int .i64 1))), (5, 5, (.tmp 15))], none, []⟩,
    ⟨none, .store 17 (.tmp 8) (.tmp 16), none, []⟩] true)
  .ret))
def a14 : AFunc := ⟨17, c14, [.cell 8 17 true], 1⟩

/-- blindstamp/label.Check -/
def c15 : ACode :=
  (.seq (.region [⟨some 1, .box 25 (.tmp 0), none, [1]⟩,
    ⟨some 2, .mov (.const (.int .i64 0)), none, [0]⟩] false)
  (.seq (.seq (.region [⟨some 3, .fad 0 (.tmp 1), none, []⟩,
    ⟨some 4, .load 1 false (.tmp 3), none, []⟩,
    ⟨some 5, .pur (mkO (.binOp .gtr 5 (.tmp 4) (.const (.int .u8 15)) 5) 4), none, []⟩] false)
  (.cond (.tmp 5)
    (.seq (.region [⟨some 2, .mov (.const (.int .i64 8)), none, []⟩] false)
    .ret)
    .skip))
  (.seq (.region [⟨some 2, .mov (.const (.int .i64 0)), none, []⟩] false)
  .ret)))
def a15 : AFunc := ⟨6, c15, [.tmp 2], 1⟩

/-- blindstamp/op.Twin -/
def c16 : ACode :=
  (.seq (.region [⟨some 1, .box 34 (.tmp 0), none, [1]⟩,
    ⟨some 2, .alloc 34 (.agg #[(.int .u8 0), (.int .u8 0), (.int .u32 0), (.int .u8 0), (.int .i64 0), (.int .u8 0), (.int .u32 0), (.int .u8 0), (.int .i64 0), (.int .i64 0), (.int .u8 0), (.int .u32 0), (.int .u8 0), (.int .i64 0), (.int .u8 0), (.int .u32 0), (.slice none 0 0)]), none, [0]⟩] false)
  (.seq (.region [⟨some 3, .fad 16 (.tmp 1), none, []⟩,
    ⟨some 4, .load 1 false (.tmp 3), none, []⟩,
    ⟨some 5, .call (.func 24) [(.tmp 4)], none, []⟩,
    ⟨some 6, .fad 16 (.tmp 1), none, []⟩,
    ⟨none, .store 1 (.tmp 6) (.tmp 5), none, []⟩] false)
  (.seq (.region [⟨some 7, .load 17 true (.tmp 1), none, []⟩,
    ⟨none, .store 17 (.tmp 2) (.tmp 7), none, []⟩] false)
  .ret)))
def a16 : AFunc := ⟨8, c16, [.cell 2 17 true], 0⟩

/-- blindstamp/doc.of -/
def c17 : ACode :=
  (.seq (.region [⟨some 2, .mov (.const (.pointer none)), none, []⟩,
    ⟨some 3, .mov (.const (.bool false)), none, []⟩] false)
  (.seq (.region [⟨some 9, .mkmap, none, []⟩,
    ⟨some 10, .build (.agg #[(.slice none 0 0), (.map none)]) [(1, 1, (.tmp 9))], none, []⟩,
    ⟨some 11, .box 71 (.tmp 10), none, []⟩,
    ⟨some 4, .mov (.tmp 11), none, []⟩] false)
  (.seq (.seq (.region [⟨some 12, .mov (.tmp 0), none, [2]⟩,
    ⟨some 13, .len (.tmp 12), none, [2]⟩,
    ⟨some 14, .mov (.const (.int .i64 0)), none, [0, 1]⟩] false)
  (.block 0 (.loop (.seq (.region [⟨some 15, .pur (mkO (.binOp .lss 3 (.tmp 14) (.tmp 13) 3) 0), none, []⟩] false)
      (.seq (.cond (.tmp 15)
        .skip
        (.exit 0))
      (.seq (.block 1 (.seq (.region [⟨some 16, .iad 17 (.tmp 12) (.tmp 14), none, [2]⟩,
          ⟨some 17, .load 17 true (.tmp 16), none, [2]⟩,
          ⟨some 6, .alloc 34 (.agg #[(.int .u8 0), (.int .u8 0), (.int .u32 0), (.int .u8 0), (.int .i64 0), (.int .u8 0), (.int .u32 0), (.int .u8 0), (.int .i64 0), (.int .i64 0), (.int .u8 0), (.int .u32 0), (.int .u8 0), (.int .i64 0), (.int .u8 0), (.int .u32 0), (.slice none 0 0)]), none, [0, 1]⟩,
          ⟨none, .store 17 (.tmp 6) (.tmp 17), none, []⟩] false)
        (.seq (.seq (.region [⟨some 18, .load 17 true (.tmp 6), none, []⟩,
          ⟨some 19, .call (.func 18) [(.tmp 18)], none, []⟩,
          ⟨some 20, .pur (mkO (.binOp .neq 37 (.tmp 19) (.const (.int .i64 0)) 37) 4), none, []⟩,
          ⟨some 21, .mov (.tmp 20), none, []⟩,
          ⟨some 22, .mov (.tmp 4), some (21, false), [5]⟩,
          ⟨some 23, .load 17 true (.tmp 6), some (21, false), [4]⟩,
          ⟨some 24, .call (.func 19) [(.tmp 22), (.tmp 23)], some (21, false), []⟩,
          ⟨some 25, .pur (mkO (.binOp .neq 37 (.tmp 24) (.const (.int .i64 0)) 37) 4), some (21, false), []⟩,
          ⟨some 26, .pick (.tmp 21) (.const (.bool true)) (.tmp 25), none, []⟩] false)
        (.cond (.tmp 26)
          (.seq (.region [⟨some 2, .mov (.const (.pointer none)), none, []⟩,
            ⟨some 3, .mov (.const (.bool false)), none, []⟩] false)
          .ret)
          .skip))
        (.seq (.region [⟨some 27, .mov (.tmp 4), none, [1, 2, 3, 4, 5, 6, 7]⟩,
          ⟨some 28, .mov (.tmp 4), none, [0, 5, 6]⟩,
          ⟨some 29, .nilck (.tmp 28), none, [0, 5, 6]⟩,
          ⟨some 30, .fad 0 (.tmp 29), none, [0, 5, 6]⟩,
          ⟨some 31, .load 1 false (.tmp 30), none, [0, 5, 6]⟩,
          ⟨some 32, .load 17 true (.tmp 6), none, [0, 1, 2, 3, 4]⟩,
          ⟨some 33, .bsl 34 17 (.agg #[(.int .u8 0), (.int .u8 0), (.int .u32 0), (.int .u8 0), (.int .i64 0), (.int .u8 0), (.int .u32 0), (.int .u8 0), (.int .i64 0), (.int .i64 0), (.int .u8 0), (.int .u32 0), (.int .u8 0), (.int .i64 0), (.int .u8 0), (.int .u32 0), (.slice none 0 0)]) 1 [(0, 17, (.tmp 32))], none, [0, 1, 2, 3, 4]⟩,
          ⟨some 34, .app 34 17 112 (.agg #[(.int .u8 0), (.int .u8 0), (.int .u32 0), (.int .u8 0), (.int .i64 0), (.int .u8 0), (.int .u32 0), (.int .u8 0), (.int .i64 0), (.int .i64 0), (.int .u8 0), (.int .u32 0), (.int .u8 0), (.int .i64 0), (.int .u8 0), (.int .u32 0), (.slice none 0 0)]) (.tmp 31) (.tmp 33), none, [0]⟩,
          ⟨some 35, .nilck (.tmp 27), none, []⟩,
          ⟨some 36, .fad 0 (.tmp 35), none, []⟩,
          ⟨none, .store 1 (.tmp 36) (.tmp 34), none, []⟩] true)
        (.seq (.region [⟨some 37, .fad 0 (.tmp 6), none, []⟩,
          ⟨some 38, .load 1 false (.tmp 37), none, []⟩,
          ⟨some 39, .pur (mkO (.binOp .eql 5 (.tmp 38) (.const (.int .u8 1)) 5) 4), none, []⟩] false)
        (.cond (.tmp 39)
          (.seq (.region [⟨some 40, .fad 5 (.tmp 6), none, [4]⟩,
            ⟨some 41, .load 5 true (.tmp 40), none, [4]⟩,
            ⟨some 42, .call (.func 25) [(.tmp 41)], none, [4]⟩,
            ⟨some 43, .len (.tmp 42), none, [4]⟩,
            ⟨some 44, .mov (.const (.int .i64 0)), none, [0, 1, 2, 3]⟩] false)
          (.block 2 (.loop (.seq (.region [⟨some 45, .pur (mkO (.binOp .lss 3 (.tmp 44) (.tmp 43) 3) 0), none, []⟩] false)
              (.seq (.cond (.tmp 45)
                .skip
                (.exit 2))
              (.seq (.block 3 (.seq (.region [⟨some 46, .iad 4 (.tmp 42) (.tmp 44), none, [2]⟩,
                  ⟨some 47, .load 4 true (.tmp 46), none, [2]⟩,
                  ⟨some 8, .alloc 29 (.agg #[(.int .u8 0), (.int .u32 0), (.int .u8 0), (.int .i64 0)]), none, [0, 1]⟩,
                  ⟨none, .store 4 (.tmp 8) (.tmp 47), none, []⟩] false)
                (.region [⟨some 48, .mov (.tmp 4), none, [4]⟩,
                  ⟨some 49, .nilck (.tmp 48), none, [4]⟩,
                  ⟨some 50, .fad 1 (.tmp 49), none, [4]⟩,
                  ⟨some 51, .load 1 false (.tmp 50), none, [4]⟩,
                  ⟨some 52, .load 4 true (.tmp 8), none, [0, 1, 2, 3]⟩,
                  ⟨none, .mupd 29 (.tmp 51) (.tmp 52) (.const (.bool true)), none, []⟩] true)))
              (.region [⟨some 53, .pur (mkO (.binOp .add 3 (.tmp 44) (.const (.int .i64 1)) 3) 3), none, []⟩,
                ⟨some 44, .mov (.tmp 53), none, []⟩] false)))))))
          .skip))))))
      (.region [⟨some 54, .pur (mkO (.binOp .add 3 (.tmp 14) (.const (.int .i64 1)) 3) 3), none, []⟩,
        ⟨some 14, .mov (.tmp 54), none, []⟩] false)))))))
  (.seq (.region [⟨some 55, .mov (.tmp 4), none, []⟩,
    ⟨some 2, .mov (.tmp 55), none, []⟩,
    ⟨some 3, .mov (.const (.bool true)), none, []⟩] false)
  .ret))))
def a17 : AFunc := ⟨56, c17, [.tmp 2, .tmp 3], 0⟩

/-- blindstamp/op.Check -/
def c18 : ACode :=
  (.seq (.region [⟨some 1, .box 34 (.tmp 0), none, [1]⟩,
    ⟨some 2, .mov (.const (.int .i64 0)), none, [0]⟩] false)
  (.seq (.seq (.region [⟨some 3, .fad 0 (.tmp 1), none, []⟩,
    ⟨some 4, .load 1 false (.tmp 3), none, []⟩,
    ⟨some 5, .pur (mkO (.binOp .eql 5 (.tmp 4) (.const (.int .u8 0)) 5) 4), none, []⟩,
    ⟨some 6, .mov (.tmp 5), none, []⟩,
    ⟨some 7, .fad 0 (.tmp 1), some (6, false), []⟩,
    ⟨some 8, .load 1 false (.tmp 7), some (6, false), []⟩,
    ⟨some 9, .pur (mkO (.binOp .geq 5 (.tmp 8) (.const (.int .u8 4)) 5) 4), some (6, false), []⟩,
    ⟨some 10, .pick (.tmp 6) (.const (.bool true)) (.tmp 9), none, []⟩,
    ⟨some 11, .mov (.tmp 10), none, []⟩,
    ⟨some 12, .fad 1 (.tmp 1), some (11, false), []⟩,
    ⟨some 13, .load 3 true (.tmp 12), some (11, false), []⟩,
    ⟨some 14, .call (.func 26) [(.tmp 13)], some (11, false), []⟩,
    ⟨some 15, .pur (mkO (.binOp .neq 37 (.tmp 14) (.const (.int .i64 0)) 37) 4), some (11, false), []⟩,
    ⟨some 16, .pick (.tmp 11) (.const (.bool true)) (.tmp 15), none, []⟩,
    ⟨some 17, .mov (.tmp 16), none, []⟩,
    ⟨some 18, .fad 4 (.tmp 1), some (17, false), []⟩,
    ⟨some 19, .load 1 false (.tmp 18), some (17, false), []⟩,
    ⟨some 20, .pur (mkO (.binOp .lss 3 (.tmp 19) (.const (.int .i64 1)) 3) 4), some (17, false), []⟩,
    ⟨some 21, .pick (.tmp 17) (.const (.bool true)) (.tmp 20), none, []⟩,
    ⟨some 22, .mov (.tmp 21), none, []⟩,
    ⟨some 23, .fad 4 (.tmp 1), some (22, false), []⟩,
    ⟨some 24, .load 1 false (.tmp 23), some (22, false), []⟩,
    ⟨some 25, .pur (mkO (.binOp .geq 3 (.tmp 24) (.const (.int .i64 16777216)) 3) 4), some (22, false), []⟩,
    ⟨some 26, .pick (.tmp 22) (.const (.bool true)) (.tmp 25), none, []⟩,
    ⟨some 27, .mov (.tmp 26), none, []⟩,
    ⟨some 28, .fad 5 (.tmp 1), some (27, false), []⟩,
    ⟨some 29, .load 5 true (.tmp 28), some (27, false), []⟩,
    ⟨some 30, .call (.func 27) [(.tmp 29)], some (27, false), []⟩,
    ⟨some 31, .pur (mkO (.binOp .neq 37 (.tmp 30) (.const (.int .i64 0)) 37) 4), some (27, false), []⟩,
    ⟨some 32, .pick (.tmp 27) (.const (.bool true)) (.tmp 31), none, []⟩,
    ⟨some 33, .mov (.tmp 32), none, []⟩,
    ⟨some 34, .call (.func 28) [], some (33, false), [32, 33, 36]⟩,
    ⟨some 35, .fad 0 (.tmp 1), some (33, false), [31, 36]⟩,
    ⟨some 36, .load 1 false (.tmp 35), some (33, false), [31, 36]⟩,
    ⟨some 37, .idx 4 2 true (.tmp 34) (.tmp 36), some (33, false), [36]⟩,
    ⟨some 38, .fld 0 1 false (.tmp 37), some (33, false), [36]⟩,
    ⟨some 39, .load 17 true (.tmp 1), some (33, false), [31, 32, 33, 34, 35]⟩,
    ⟨some 40, .call (.tmp 38) [(.tmp 39)], some (33, false), []⟩,
    ⟨some 41, .pur (mkO (.unOp .not 4 (.tmp 40)) 4), some (33, false), []⟩,
    ⟨some 42, .pick (.tmp 33) (.const (.bool true)) (.tmp 41), none, []⟩] true)
  (.cond (.tmp 42)
    (.seq (.region [⟨some 2, .mov (.const (.int .i64 8)), none, []⟩] false)
    .ret)
    .skip))
  (.seq (.region [⟨some 2, .mov (.const (.int .i64 0)), none, []⟩] false)
  .ret)))
def a18 : AFunc := ⟨43, c18, [.tmp 2], 1⟩

/-- (*blindstamp/doc.history).fits -/
def c19 : ACode :=
  (.seq (.region [⟨some 3, .box 34 (.tmp 1), none, [1]⟩,
    ⟨some 4, .mov (.const (.int .i64 0)), none, [0]⟩] false)
  (.seq (.region [⟨some 6, .build (.agg #[.nilFunc, .nilFunc, .nilFunc, .nilFunc]) [(1, 1, (.func 29)), (2, 1, (.func 30)), (3, 1, (.func 31))], none, [1, 2, 4, 5]⟩,
    ⟨some 7, .fad 0 (.tmp 3), none, [0, 4, 5]⟩,
    ⟨some 8, .load 1 false (.tmp 7), none, [0, 4, 5]⟩,
    ⟨some 9, .idx 4 1 false (.tmp 6) (.tmp 8), none, [4, 5]⟩,
    ⟨some 10, .mov (.tmp 0), none, [0, 1, 2, 3, 5]⟩,
    ⟨some 11, .load 17 true (.tmp 3), none, [0, 1, 2, 3, 4]⟩,
    ⟨some 12, .call (.tmp 9) [(.tmp 10), (.tmp 11)], none, []⟩,
    ⟨some 5, .mov (.tmp 12), none, []⟩] true)
  (.seq (.seq (.region [⟨some 13, .mov (.tmp 5), none, []⟩,
    ⟨some 14, .pur (mkO (.binOp .eql 37 (.tmp 13) (.const (.int .i64 0)) 37) 4), none, []⟩,
    ⟨some 15, .mov (.tmp 14), none, []⟩,
    ⟨some 16, .mov (.tmp 0), some (15, true), []⟩,
    ⟨some 17, .nilck (.tmp 16), some (15, true), []⟩,
    ⟨some 18, .fad 0 (.tmp 17), some (15, true), []⟩,
    ⟨some 19, .load 1 false (.tmp 18), some (15, true), []⟩,
    ⟨some 20, .len (.tmp 19), some (15, true), []⟩,
    ⟨some 21, .pur (mkO (.binOp .geq 3 (.tmp 20) (.const (.int .i64 2048)) 3) 4), some (15, true), []⟩,
    ⟨some 22, .pick (.tmp 15) (.tmp 21) (.const (.bool false)), none, []⟩] false)
  (.cond (.tmp 22)
    (.region [⟨some 5, .mov (.const (.int .i64 4)), none, []⟩] false)
    .skip))
  (.seq (.region [⟨some 23, .mov (.tmp 5), none, []⟩,
    ⟨some 4, .mov (.tmp 23), none, []⟩] false)
  .ret))))
def a19 : AFunc := ⟨24, c19, [.tmp 4], 0⟩

/-- blindstamp/run.Of -/
def c20 : ACode :=
  (.seq (.region [⟨some 1, .box 34 (.tmp 0), none, [1, 2]⟩,
    ⟨some 2, .alloc 60 (.agg #[(.int .u8 0), (.int .u32 0), (.int .u8 0), (.int .i64 0), (.int .i64 0), (.int .u8 0), (.int .u32 0), (.int .u8 0), (.int .i64 0), (.slice none 0 0)]), none, [0, 2]⟩,
    ⟨some 3, .mov (.const (.int .i64 0)), none, [0, 1]⟩] false)
  (.seq (.seq (.region [⟨some 6, .load 17 true (.tmp 1), none, []⟩,
    ⟨some 7, .call (.func 18) [(.tmp 6)], none, []⟩,
    ⟨some 4, .mov (.tmp 7), none, []⟩] false)
  (.seq (.region [⟨some 8, .mov (.tmp 4), none, []⟩,
    ⟨some 9, .pur (mkO (.binOp .neq 37 (.tmp 8) (.const (.int .i64 0)) 37) 4), none, []⟩] false)
  (.cond (.tmp 9)
    (.seq (.region [⟨some 10, .build (.agg #[(.int .u8 0), (.int .u32 0), (.int .u8 0), (.int .i64 0), (.int .i64 0), (.int .u8 0), (.int .u32 0), (.int .u8 0), (.int .i64 0), (.slice none 0 0)]) [], none, [1]⟩,
      ⟨some 11, .mov (.tmp 4), none, [0, 2]⟩,
      ⟨none, .store 10 (.tmp 2) (.tmp 10), none, [1]⟩,
      ⟨some 3, .mov (.tmp 11), none, []⟩] false)
    .ret)
    .skip)))
  (.seq (.region [⟨some 12, .fad 5 (.tmp 1), none, [2, 3, 4, 5, 6, 8]⟩,
    ⟨some 13, .load 5 true (.tmp 12), none, [2, 3, 4, 5, 6, 8]⟩,
    ⟨some 14, .fad 10 (.tmp 1), none, [0, 1, 4, 5, 6, 8]⟩,
    ⟨some 15, .load 4 true (.tmp 14), none, [0, 1, 4, 5, 6, 8]⟩,
    ⟨some 16, .fad 16 (.tmp 1), none, [0, 1, 2, 3, 8]⟩,
    ⟨some 17, .load 1 false (.tmp 16), none, [0, 1, 2, 3, 8]⟩,
    ⟨some 18, .call (.func 24) [(.tmp 17)], none, [0, 1, 2, 3, 8]⟩,
    ⟨some 19, .build (.agg #[(.int .u8 0), (.int .u32 0), (.int .u8 0), (.int .i64 0), (.int .i64 0), (.int .u8 0), (.int .u32 0), (.int .u8 0), (.int .i64 0), (.slice none 0 0)]) [(0, 5, (.tmp 13)), (5, 4, (.tmp 15)), (9, 1, (.tmp 18))], none, [8]⟩,
    ⟨some 5, .alloc 60 (.agg #[(.int .u8 0), (.int .u32 0), (.int .u8 0), (.int .i64 0), (.int .i64 0), (.int .u8 0), (.int .u32 0), (.int .u8 0), (.int .i64 0), (.slice none 0 0)]), none, [0, 1, 2, 3, 4, 5, 6, 7]⟩,
    ⟨none, .store 10 (.tmp 5) (.tmp 19), none, []⟩] true)
  (.seq (.seq (.region [⟨some 20, .fad 0 (.tmp 1), none, []⟩,
    ⟨some 21, .load 1 false (.tmp 20), none, []⟩,
    ⟨some 22, .pur (mkO (.binOp .neq 5 (.tmp 21) (.const (.int .u8 1)) 5) 4), none, []⟩,
    ⟨some 23, .mov (.tmp 22), none, []⟩,
    ⟨some 24, .load 10 true (.tmp 5), some (23, false), []⟩,
    ⟨some 25, .call (.func 32) [(.tmp 24)], some (23, false), []⟩,
    ⟨some 26, .pur (mkO (.binOp .neq 37 (.tmp 25) (.const (.int .i64 0)) 37) 4), some (23, false), []⟩,
    ⟨some 27, .pick (.tmp 23) (.const (.bool true)) (.tmp 26), none, []⟩] false)
  (.cond (.tmp 27)
    (.seq (.region [⟨some 28, .build (.agg #[(.int .u8 0), (.int .u32 0), (.int .u8 0), (.int .i64 0), (.int .i64 0), (.int .u8 0), (.int .u32 0), (.int .u8 0), (.int .i64 0), (.slice none 0 0)]) [], none, []⟩,
      ⟨none, .store 10 (.tmp 2) (.tmp 28), none, []⟩,
      ⟨some 3, .mov (.const (.int .i64 2)), none, []⟩] false)
    .ret)
    .skip))
  (.seq (.region [⟨some 29, .load 10 true (.tmp 5), none, []⟩,
    ⟨none, .store 10 (.tmp 2) (.tmp 29), none, []⟩,
    ⟨some 3, .mov (.const (.int .i64 0)), none, []⟩] false)
  .ret)))))
def a20 : AFunc := ⟨30, c20, [.cell 2 10 true, .tmp 3], 1⟩

/-- blindstamp/tree.Insert -/
def c21 : ACode :=
  (.seq (.region [⟨some 3, .box 60 (.tmp 1), none, [1, 2]⟩,
    ⟨some 4, .mov (.const (.slice none 0 0)), none, [0]⟩,
    ⟨some 5, .mov (.const (.int .i64 0)), none, [0]⟩] false)
  (.seq (.seq (.region [⟨some 15, .mov (.tmp 0), none, [2]⟩,
    ⟨some 16, .call (.func 22) [(.tmp 15)], none, [2]⟩,
    ⟨some 17, .load 10 true (.tmp 3), none, [0, 1]⟩,
    ⟨some 18, .call (.func 32) [(.tmp 17)], none, []⟩,
    ⟨some 19, .pur (mkO (.call ⟨.builtin .max, #[(.tmp 16), (.tmp 18)], #[37, 37]⟩) 37), none, []⟩,
    ⟨some 6, .mov (.tmp 19), none, []⟩] true)
  (.seq (.region [⟨some 20, .mov (.tmp 6), none, []⟩,
    ⟨some 21, .pur (mkO (.binOp .neq 37 (.tmp 20) (.const (.int .i64 0)) 37) 4), none, []⟩] false)
  (.cond (.tmp 21)
    (.seq (.region [⟨some 22, .mov (.tmp 6), none, [1]⟩,
      ⟨some 4, .mov (.const (.slice none 0 0)), none, [0]⟩,
      ⟨some 5, .mov (.tmp 22), none, []⟩] false)
    .ret)
    .skip)))
  (.seq (.seq (.region [⟨some 24, .mov (.tmp 0), none, [1, 2]⟩,
    ⟨some 25, .fad 5 (.tmp 3), none, [0]⟩,
    ⟨some 26, .load 4 true (.tmp 25), none, [0]⟩,
    ⟨some 27, .call (.func 33) [(.tmp 24), (.tmp 26)], none, []⟩,
    ⟨some 23, .mov (.tmp 27), none, []⟩,
    ⟨some 28, .ext (.tmp 23) 0, none, [6]⟩,
    ⟨some 29, .ext (.tmp 23) 1, none, [5, 7]⟩,
    ⟨some 7, .mov (.tmp 28), none, [6]⟩,
    ⟨some 8, .mov (.tmp 29), none, []⟩] false)
  (.seq (.region [⟨some 30, .mov (.tmp 7), none, []⟩,
    ⟨some 31, .pur (mkO (.binOp .lss 3 (.tmp 30) (.const (.int .i64 0)) 3) 4), none, []⟩,
    ⟨some 32, .mov (.tmp 31), none, []⟩,
    ⟨some 33, .fad 5 (.tmp 3), some (32, true), [5]⟩,
    ⟨some 34, .load 4 true (.tmp 33), some (32, true), [5]⟩,
    ⟨some 35, .build (.agg #[(.int .u8 0), (.int .u32 0), (.int .u8 0), (.int .i64 0)]) [], some (32, true), [3, 4]⟩,
    ⟨some 36, .pur (mkO (.binOp .neq 29 (.tmp 34) (.tmp 35) 29) 4), some (32, true), []⟩,
    ⟨some 37, .pick (.tmp 32) (.tmp 36) (.const (.bool false)), none, []⟩] false)
  (.cond (.tmp 37)
    (.seq (.region [⟨some 4, .mov (.const (.slice none 0 0)), none, []⟩,
      ⟨some 5, .mov (.const (.int .i64 6)), none, []⟩] false)
    .ret)
    .skip)))
  (.seq (.seq (.region [⟨some 38, .fad 0 (.tmp 3), none, [3]⟩,
    ⟨some 39, .fad 4 (.tmp 38), none, [3]⟩,
    ⟨some 40, .load 1 false (.tmp 39), none, [3]⟩,
    ⟨some 41, .mov (.const (.int .i64 0)), none, [0, 1, 2]⟩] false)
  (.block 0 (.loop (.seq (.region [⟨some 42, .pur (mkO (.binOp .lss 3 (.tmp 41) (.tmp 40) 3) 4), none, []⟩] false)
      (.seq (.cond (.tmp 42)
        .skip
        (.exit 0))
      (.seq (.block 1 (.seq (.region [⟨some 43, .mov (.tmp 41), none, []⟩,
          ⟨some 9, .mov (.tmp 43), none, []⟩] false)
        (.seq (.region [⟨some 45, .fad 0 (.tmp 3), none, [2, 7]⟩,
          ⟨some 46, .load 5 true (.tmp 45), none, [2, 7]⟩,
          ⟨some 47, .mov (.tmp 9), none, [0, 1, 7]⟩,
          ⟨some 48, .call (.func 34) [(.tmp 46), (.tmp 47)], none, [7]⟩,
          ⟨some 44, .mov (.tmp 48), none, [7]⟩,
          ⟨some 49, .ext (.tmp 44) 0, none, [6, 7]⟩,
          ⟨some 50, .ext (.tmp 44) 1, none, [5, 7, 8]⟩,
          ⟨some 10, .alloc 29 (.agg #[(.int .u8 0), (.int .u32 0), (.int .u8 0), (.int .i64 0)]), none, [0, 1, 2, 3, 4, 5, 6]⟩,
          ⟨none, .store 4 (.tmp 10) (.tmp 49), none, [6]⟩,
          ⟨some 11, .mov (.tmp 50), none, []⟩] false)
        (.seq (.region [⟨some 52, .mov (.tmp 0), none, [1]⟩,
          ⟨some 53, .load 4 true (.tmp 10), none, [0]⟩,
          ⟨some 54, .call (.func 33) [(.tmp 52), (.tmp 53)], none, []⟩,
          ⟨some 51, .mov (.tmp 54), none, []⟩,
          ⟨some 55, .ext (.tmp 51) 0, none, [5]⟩,
          ⟨some 56, .ext (.tmp 51) 1, none, [4, 6]⟩,
          ⟨some 12, .mov (.tmp 55), none, [5]⟩,
          ⟨some 13, .mov (.tmp 56), none, []⟩] false)
        (.seq (.region [⟨some 57, .mov (.tmp 12), none, []⟩,
          ⟨some 58, .pur (mkO (.binOp .geq 3 (.tmp 57) (.const (.int .i64 0)) 3) 4), none, []⟩] false)
        (.cond (.tmp 58)
          (.seq (.region [⟨some 4, .mov (.const (.slice none 0 0)), none, []⟩,
            ⟨some 5, .mov (.const (.int .i64 2)), none, []⟩] false)
          .ret)
          .skip))))))
      (.region [⟨some 59, .pur (mkO (.binOp .add 3 (.tmp 41) (.const (.int .i64 1)) 3) 3), none, []⟩,
        ⟨some 41, .mov (.tmp 59), none, []⟩] false)))))))
  (.seq (.seq (.region [⟨some 60, .mov (.tmp 0), none, [2, 3, 4]⟩,
    ⟨some 61, .call (.func 35) [(.tmp 60)], none, [2, 3, 4]⟩,
    ⟨some 62, .fad 0 (.tmp 3), none, [0, 1]⟩,
    ⟨some 63, .fad 4 (.tmp 62), none, [0, 1]⟩,
    ⟨some 64, .load 1 false (.tmp 63), none, [0, 1]⟩,
    ⟨some 65, .pur (mkO (.binOp .add 3 (.tmp 61) (.tmp 64) 3) 3), none, []⟩,
    ⟨some 66, .pur (mkO (.binOp .gtr 3 (.tmp 65) (.const (.int .i64 8192)) 3) 4), none, []⟩] true)
  (.cond (.tmp 66)
    (.seq (.region [⟨some 4, .mov (.const (.slice none 0 0)), none, []⟩,
      ⟨some 5, .mov (.const (.int .i64 4)), none, []⟩] false)
    .ret)
    .skip))
  (.seq (.region [⟨some 68, .mov (.tmp 0), none, [1, 2]⟩,
    ⟨some 69, .fad 5 (.tmp 3), none, [0]⟩,
    ⟨some 70, .load 4 true (.tmp 69), none, [0]⟩,
    ⟨some 71, .call (.func 36) [(.tmp 68), (.tmp 70)], none, []⟩,
    ⟨some 67, .mov (.tmp 71), none, []⟩,
    ⟨some 72, .ext (.tmp 67) 0, none, [6]⟩,
    ⟨some 73, .ext (.tmp 67) 1, none, [5, 7]⟩,
    ⟨some 0, .mov (.tmp 72), none, [6]⟩,
    ⟨some 14, .mov (.tmp 73), none, []⟩] false)
  (.seq (.block 2 (.loop (.seq (.seq (.region [⟨some 74, .mov (.tmp 14), none, [1, 2]⟩,
        ⟨some 75, .mov (.tmp 0), none, [0]⟩,
        ⟨some 76, .len (.tmp 75), none, [0]⟩,
        ⟨some 77, .pur (mkO (.binOp .lss 3 (.tmp 74) (.tmp 76) 3) 4), none, []⟩,
        ⟨some 78, .mov (.tmp 77), none, []⟩,
        ⟨some 79, .fad 0 (.tmp 3), some (78, true), [8, 9, 10, 11, 12, 13]⟩,
        ⟨some 80, .fad 0 (.tmp 79), some (78, true), [8, 9, 10, 11, 12, 13]⟩,
        ⟨some 81, .load 4 true (.tmp 80), some (78, true), [8, 9, 10, 11, 12, 13]⟩,
        ⟨some 82, .mov (.tmp 0), some (78, true), [5, 6, 7, 9]⟩,
        ⟨some 83, .mov (.tmp 14), some (78, true), [5, 6, 7, 8]⟩,
        ⟨some 84, .iad 10 (.tmp 82) (.tmp 83), some (78, true), [5, 6, 7]⟩,
        ⟨some 85, .fad 0 (.tmp 84), some (78, true), [5, 6, 7]⟩,
        ⟨some 86, .fad 0 (.tmp 85), some (78, true), [5, 6, 7]⟩,
        ⟨some 87, .load 4 true (.tmp 86), some (78, true), [5, 6, 7]⟩,
        ⟨some 88, .call (.func 37) [(.tmp 81), (.tmp 87)], some (78, true), []⟩,
        ⟨some 89, .pick (.tmp 78) (.tmp 88) (.const (.bool false)), none, []⟩] true)
      (.cond (.tmp 89)
        .skip
        (.exit 2)))
      (.block 3 (.region [⟨some 90, .mov (.tmp 14), none, []⟩,
          ⟨some 91, .pur (mkO (.binOp .add 3 (.tmp 90) (.const (.int .i64 1)) 3) 3), none, []⟩,
          ⟨some 14, .mov (.tmp 91), none, []⟩] false)))))
  (.seq (.region [⟨some 92, .mov (.tmp 0), none, [2, 3, 4]⟩,
    ⟨some 93, .call (.func 40) [(.tmp 92)], none, [2, 3, 4]⟩,
    ⟨some 94, .mov (.tmp 14), none, [0, 1, 3, 4]⟩,
    ⟨some 95, .load 10 true (.tmp 3), none, [0, 1, 2]⟩,
    ⟨some 96, .bsl 60 10 (.agg #[(.int .u8 0), (.int .u32 0), (.int .u8 0), (.int .i64 0), (.int .i64 0), (.int .u8 0), (.int .u32 0), (.int .u8 0), (.int .i64 0), (.slice none 0 0)]) 1 [(0, 10, (.tmp 95))], none, [0, 1, 2]⟩,
    ⟨some 97, .ins 39 60 10 80 (.tmp 93) (.tmp 94) (.tmp 96), none, []⟩,
    ⟨some 98, .call (.func 38) [(.tmp 97)], none, []⟩,
    ⟨some 4, .mov (.tmp 98), none, []⟩,
    ⟨some 5, .mov (.const (.int .i64 0)), none, []⟩] true)
  .ret))))))))
def a21 : AFunc := ⟨99, c21, [.tmp 4, .tmp 5], 1⟩

/-- blindstamp/tree.Check -/
def c22 : ACode :=
  (.seq (.region [⟨some 2, .mov (.const (.int .i64 0)), none, []⟩] false)
  (.seq (.seq (.region [⟨some 3, .mov (.tmp 0), none, []⟩,
    ⟨some 4, .call (.func 41) [(.tmp 3), (.func 42)], none, []⟩,
    ⟨some 5, .mov (.tmp 4), none, []⟩,
    ⟨some 6, .mov (.tmp 0), some (5, false), []⟩,
    ⟨some 7, .call (.func 35) [(.tmp 6)], some (5, false), []⟩,
    ⟨some 8, .pur (mkO (.binOp .gtr 3 (.tmp 7) (.const (.int .i64 8192)) 3) 4), some (5, false), []⟩,
    ⟨some 9, .pick (.tmp 5) (.const (.bool true)) (.tmp 8), none, []⟩,
    ⟨some 10, .mov (.tmp 9), none, []⟩,
    ⟨some 11, .mov (.tmp 0), some (10, false), []⟩,
    ⟨some 12, .call (.func 43) [(.tmp 11)], some (10, false), []⟩,
    ⟨some 13, .pur (mkO (.unOp .not 4 (.tmp 12)) 4), some (10, false), []⟩,
    ⟨some 14, .pick (.tmp 10) (.const (.bool true)) (.tmp 13), none, []⟩,
    ⟨some 15, .mov (.tmp 14), none, []⟩,
    ⟨some 16, .mov (.tmp 0), some (15, false), [15]⟩,
    ⟨some 17, .call (.func 38) [(.tmp 16)], some (15, false), [15]⟩,
    ⟨some 18, .mov (.tmp 0), some (15, false), [13, 14]⟩,
    ⟨some 19, .call (.func 44) [(.tmp 17), (.tmp 18)], some (15, false), []⟩,
    ⟨some 20, .pur (mkO (.unOp .not 4 (.tmp 19)) 4), some (15, false), []⟩,
    ⟨some 21, .pick (.tmp 15) (.const (.bool true)) (.tmp 20), none, []⟩] false)
  (.cond (.tmp 21)
    (.seq (.region [⟨some 2, .mov (.const (.int .i64 8)), none, []⟩] false)
    .ret)
    .skip))
  (.seq (.region [⟨some 2, .mov (.const (.int .i64 0)), none, []⟩] false)
  .ret)))
def a22 : AFunc := ⟨22, c22, [.tmp 2], 1⟩

/-- blindstamp/tree.elements -/
def c23 : ACode :=
  (.seq (.region [⟨some 1, .box 44 (.tmp 0), none, [1]⟩,
    ⟨some 2, .mov (.const .nilFunc), none, [0]⟩] false)
  (.seq (.region [⟨some 3, .mkfn 45 [] [(.tmp 1)], none, []⟩,
    ⟨some 2, .mov (.tmp 3), none, []⟩] false)
  .ret))
def a23 : AFunc := ⟨4, c23, [.tmp 2], 0⟩

/-- slices.Clone[[]int32,int32] -/
def c24 : ACode :=
  (.seq (.region [⟨some 2, .mov (.const (.slice none 0 0)), none, []⟩] false)
  (.seq (.seq (.region [⟨some 3, .mov (.tmp 0), none, []⟩,
    ⟨some 4, .eqnil false 1 (.tmp 3) (mkO (.binOp .eql 32 (.tmp 3) (.const (.slice none 0 0)) 32) 4), none, []⟩] false)
  (.cond (.tmp 4)
    (.seq (.region [⟨some 2, .mov (.const (.slice none 0 0)), none, []⟩] false)
    .ret)
    .skip))
  (.seq (.region [⟨some 5, .bsl 21 1 (.int .i32 0) 0 [], none, [1]⟩,
    ⟨some 6, .mov (.tmp 0), none, [0]⟩,
    ⟨some 7, .app 21 1 4 (.int .i32 0) (.tmp 5) (.tmp 6), none, []⟩,
    ⟨some 2, .mov (.tmp 7), none, []⟩] false)
  .ret)))
def a24 : AFunc := ⟨8, c24, [.tmp 2], 0⟩

/-- blindstamp/doc.names -/
def c25 : ACode :=
  (.seq (.region [⟨some 1, .box 31 (.tmp 0), none, [1]⟩,
    ⟨some 2, .mov (.const (.slice none 0 0)), none, [0]⟩] false)
  (.seq (.seq (.region [⟨some 6, .fad 4 (.tmp 1), none, [2]⟩,
    ⟨some 7, .load 1 false (.tmp 6), none, [2]⟩,
    ⟨some 8, .mov (.const (.int .i64 0)), none, [0, 1]⟩] false)
  (.block 0 (.loop (.seq (.region [⟨some 9, .pur (mkO (.binOp .lss 3 (.tmp 8) (.tmp 7) 3) 4), none, []⟩] false)
      (.seq (.cond (.tmp 9)
        .skip
        (.exit 0))
      (.seq (.block 1 (.seq (.region [⟨some 10, .mov (.tmp 8), none, []⟩,
          ⟨some 3, .mov (.tmp 10), none, []⟩] false)
        (.seq (.region [⟨some 12, .load 5 true (.tmp 1), none, [1, 6]⟩,
          ⟨some 13, .mov (.tmp 3), none, [0, 6]⟩,
          ⟨some 14, .call (.func 34) [(.tmp 12), (.tmp 13)], none, [6]⟩,
          ⟨some 11, .mov (.tmp 14), none, [6]⟩,
          ⟨some 15, .ext (.tmp 11) 0, none, [5, 6]⟩,
          ⟨some 16, .ext (.tmp 11) 1, none, [4, 6, 7]⟩,
          ⟨some 4, .alloc 29 (.agg #[(.int .u8 0), (.int .u32 0), (.int .u8 0), (.int .i64 0)]), none, [0, 1, 2, 3, 4, 5]⟩,
          ⟨none, .store 4 (.tmp 4) (.tmp 15), none, [5]⟩,
          ⟨some 5, .mov (.tmp 16), none, []⟩] false)
        (.region [⟨some 17, .mov (.tmp 2), none, [1, 2]⟩,
          ⟨some 18, .load 4 true (.tmp 4), none, [0]⟩,
          ⟨some 19, .bsl 29 4 (.agg #[(.int .u8 0), (.int .u32 0), (.int .u8 0), (.int .i64 0)]) 1 [(0, 4, (.tmp 18))], none, [0]⟩,
          ⟨some 20, .app 29 4 24 (.agg #[(.int .u8 0), (.int .u32 0), (.int .u8 0), (.int .i64 0)]) (.tmp 17) (.tmp 19), none, []⟩,
          ⟨some 2, .mov (.tmp 20), none, []⟩] false))))
      (.region [⟨some 21, .pur (mkO (.binOp .add 3 (.tmp 8) (.const (.int .i64 1)) 3) 3), none, []⟩,
        ⟨some 8, .mov (.tmp 21), none, []⟩] false)))))))
  (.seq (.region [⟨some 22, .mov (.tmp 2), none, []⟩,
    ⟨some 2, .mov (.tmp 22), none, []⟩] false)
  .ret)))
def a25 : AFunc := ⟨23, c25, [.tmp 2], 1⟩

/-- blindstamp/ids.CheckHandle -/
def c26 : ACode :=
  (.seq (.region [⟨some 1, .box 27 (.tmp 0), none, [1]⟩,
    ⟨some 2, .mov (.const (.int .i64 0)), none, [0]⟩] false)
  (.seq (.region [⟨some 3, .fad 0 (.tmp 1), none, []⟩,
    ⟨some 4, .load 2 true (.tmp 3), none, []⟩,
    ⟨some 5, .call (.func 15) [(.tmp 4)], none, []⟩,
    ⟨some 6, .pur (mkO (.binOp .eql 37 (.tmp 5) (.const (.int .i64 0)) 37) 4), none, []⟩,
    ⟨some 7, .mov (.tmp 6), none, []⟩,
    ⟨some 8, .fad 2 (.tmp 1), some (7, true), []⟩,
    ⟨some 9, .load 1 false (.tmp 8), some (7, true), []⟩,
    ⟨some 10, .pur (mkO (.binOp .lss 5 (.tmp 9) (.const (.int .u8 8)) 5) 4), some (7, true), []⟩,
    ⟨some 11, .pick (.tmp 7) (.tmp 10) (.const (.bool false)), none, []⟩,
    ⟨some 12, .call (.func 47) [(.tmp 11)], none, []⟩,
    ⟨some 2, .mov (.tmp 12), none, []⟩] false)
  .ret))
def a26 : AFunc := ⟨13, c26, [.tmp 2], 1⟩

/-- blindstamp/ids.CheckSpan -/
def c27 : ACode :=
  (.seq (.region [⟨some 1, .box 31 (.tmp 0), none, [1]⟩,
    ⟨some 2, .mov (.const (.int .i64 0)), none, [0]⟩] false)
  (.seq (.region [⟨some 3, .fad 0 (.tmp 1), none, []⟩,
    ⟨some 4, .load 4 true (.tmp 3), none, []⟩,
    ⟨some 5, .call (.func 48) [(.tmp 4)], none, []⟩,
    ⟨some 6, .pur (mkO (.binOp .eql 37 (.tmp 5) (.const (.int .i64 0)) 37) 4), none, []⟩,
    ⟨some 7, .mov (.tmp 6), none, []⟩,
    ⟨some 8, .fad 4 (.tmp 1), some (7, true), []⟩,
    ⟨some 9, .load 1 false (.tmp 8), some (7, true), []⟩,
    ⟨some 10, .pur (mkO (.binOp .geq 3 (.tmp 9) (.const (.int .i64 1)) 3) 4), some (7, true), []⟩,
    ⟨some 11, .pick (.tmp 7) (.tmp 10) (.const (.bool false)), none, []⟩,
    ⟨some 12, .mov (.tmp 11), none, []⟩,
    ⟨some 13, .fad 4 (.tmp 1), some (12, true), []⟩,
    ⟨some 14, .load 1 false (.tmp 13), some (12, true), []⟩,
    ⟨some 15, .pur (mkO (.binOp .leq 3 (.tmp 14) (.const (.int .i64 64)) 3) 4), some (12, true), []⟩,
    ⟨some 16, .pick (.tmp 12) (.tmp 15) (.const (.bool false)), none, []⟩,
    ⟨some 17, .mov (.tmp 16), none, []⟩,
    ⟨some 18, .fad 0 (.tmp 1), some (17, true), [18, 19]⟩,
    ⟨some 19, .fad 3 (.tmp 18), some (17, true), [18, 19]⟩,
    ⟨some 20, .load 1 false (.tmp 19), some (17, true), [18, 19]⟩,
    ⟨some 21, .fad 4 (.tmp 1), some (17, true), [15, 16, 17]⟩,
    ⟨some 22, .load 1 false (.tmp 21), some (17, true), [15, 16, 17]⟩,
    ⟨some 23, .pur (mkO (.binOp .add 3 (.tmp 20) (.tmp 22) 3) 3), some (17, true), []⟩,
    ⟨some 24, .pur (mkO (.binOp .sub 3 (.tmp 23) (.const (.int .i64 1)) 3) 3), some (17, true), []⟩,
    ⟨some 25, .pur (mkO (.binOp .leq 3 (.tmp 24) (.const (.int .i64 1099511627776)) 3) 4), some (17, true), []⟩,
    ⟨some 26, .pick (.tmp 17) (.tmp 25) (.const (.bool false)), none, []⟩,
    ⟨some 27, .call (.func 47) [(.tmp 26)], none, []⟩,
    ⟨some 2, .mov (.tmp 27), none, []⟩] false)
  .ret))
def a27 : AFunc := ⟨28, c27, [.tmp 2], 1⟩

/-- blindstamp/op.parts -/
def c28 : ACode :=
  (.seq (.region [⟨some 0, .alloc 79 (.agg #[.nilFunc, .nilFunc, .nilFunc, .nilFunc, .nilFunc, .nilFunc, .nilFunc, .nilFunc]), none, []⟩] false)
  (.seq (.region [⟨some 1, .alloc 75 .nilFunc, none, []⟩,
    ⟨none, .store 1 (.tmp 1) (.func 49), none, []⟩] false)
  (.seq (.region [⟨some 2, .alloc 75 .nilFunc, none, []⟩,
    ⟨none, .store 1 (.tmp 2) (.func 50), none, []⟩] false)
  (.seq (.region [⟨some 3, .mkfn 52 [] [(.tmp 2)], none, [2, 3, 4, 5]⟩,
    ⟨some 4, .build (.agg #[.nilFunc, .nilFunc]) [(0, 1, (.tmp 3)), (1, 1, (.func 54))], none, [2, 3, 4, 5]⟩,
    ⟨some 5, .mkfn 55 [] [(.tmp 2), (.tmp 1)], none, [0, 1, 4, 5]⟩,
    ⟨some 6, .build (.agg #[.nilFunc, .nilFunc]) [(0, 1, (.tmp 5)), (1, 1, (.func 56))], none, [0, 1, 4, 5]⟩,
    ⟨some 7, .mkfn 57 [] [(.tmp 1)], none, [0, 1, 2, 3]⟩,
    ⟨some 8, .build (.agg #[.nilFunc, .nilFunc]) [(0, 1, (.tmp 7)), (1, 1, (.func 58))], none, [0, 1, 2, 3]⟩,
    ⟨some 9, .build (.agg #[.nilFunc, .nilFunc, .nilFunc, .nilFunc, .nilFunc, .nilFunc, .nilFunc, .nilFunc]) [(2, 2, (.tmp 4)), (4, 2, (.tmp 6)), (6, 2, (.tmp 8))], none, []⟩,
    ⟨none, .store 8 (.tmp 0) (.tmp 9), none, []⟩] false)
  .ret))))
def a28 : AFunc := ⟨10, c28, [.cell 0 8 true], 0⟩

/-- (*blindstamp/doc.history).insert -/
def c29 : ACode :=
  (.seq (.region [⟨some 2, .box 55 (.tmp 0), none, [1, 2]⟩,
    ⟨some 3, .box 34 (.tmp 1), none, [0, 2]⟩,
    ⟨some 4, .mov (.const (.int .i64 0)), none, [0, 1]⟩] false)
  (.seq (.seq (.region [⟨some 7, .fad 10 (.tmp 3), none, [2]⟩,
    ⟨some 8, .load 4 true (.tmp 7), none, [2]⟩,
    ⟨some 9, .build (.agg #[(.int .u8 0), (.int .u32 0), (.int .u8 0), (.int .i64 0)]) [], none, [0, 1]⟩,
    ⟨some 10, .pur (mkO (.binOp .neq 29 (.tmp 8) (.tmp 9) 29) 4), none, []⟩,
    ⟨some 11, .mov (.tmp 10), none, []⟩,
    ⟨some 12, .load 1 false (.tmp 2), some (11, true), [6, 7, 8]⟩,
    ⟨some 13, .load 17 true (.tmp 3), some (11, true), [5, 7, 8]⟩,
    ⟨some 14, .fad 10 (.tmp 3), some (11, true), [5, 6]⟩,
    ⟨some 15, .load 4 true (.tmp 14), some (11, true), [5, 6]⟩,
    ⟨some 16, .call (.func 59) [(.tmp 12), (.tmp 13), (.tmp 15)], some (11, true), []⟩,
    ⟨some 17, .pur (mkO (.unOp .not 4 (.tmp 16)) 4), some (11, true), []⟩,
    ⟨some 18, .pick (.tmp 11) (.tmp 17) (.const (.bool false)), none, []⟩] false)
  (.cond (.tmp 18)
    (.seq (.region [⟨some 4, .mov (.const (.int .i64 6)), none, []⟩] false)
    .ret)
    .skip))
  (.seq (.seq (.region [⟨some 20, .load 17 true (.tmp 3), none, [5]⟩,
    ⟨some 21, .call (.func 20) [(.tmp 20)], none, [5]⟩,
    ⟨some 19, .mov (.tmp 21), none, [5]⟩,
    ⟨some 22, .ext (.tmp 19) 0, none, [4, 5]⟩,
    ⟨some 23, .ext (.tmp 19) 1, none, [3, 5, 6]⟩,
    ⟨some 5, .alloc 60 (.agg #[(.int .u8 0), (.int .u32 0), (.int .u8 0), (.int .i64 0), (.int .i64 0), (.int .u8 0), (.int .u32 0), (.int .u8 0), (.int .i64 0), (.slice none 0 0)]), none, [0, 1, 2, 3, 4]⟩,
    ⟨none, .store 10 (.tmp 5) (.tmp 22), none, [4]⟩,
    ⟨some 6, .mov (.tmp 23), none, []⟩] false)
  (.seq (.region [⟨some 24, .mov (.tmp 6), none, []⟩,
    ⟨some 25, .pur (mkO (.binOp .neq 37 (.tmp 24) (.const (.int .i64 0)) 37) 4), none, []⟩,
    ⟨some 26, .mov (.tmp 25), none, []⟩,
    ⟨some 27, .fad 5 (.tmp 3), some (26, false), [6]⟩,
    ⟨some 28, .load 5 true (.tmp 27), some (26, false), [6]⟩,
    ⟨some 29, .call (.func 25) [(.tmp 28)], some (26, false), [6]⟩,
    ⟨some 30, .mkfn 61 [] [(.tmp 2)], some (26, false), [3, 4, 5]⟩,
    ⟨some 31, .call (.func 60) [(.tmp 29), (.tmp 30)], some (26, false), []⟩,
    ⟨some 32, .pick (.tmp 26) (.const (.bool true)) (.tmp 31), none, []⟩] false)
  (.cond (.tmp 32)
    (.seq (.region [⟨some 4, .mov (.const (.int .i64 2)), none, []⟩] false)
    .ret)
    .skip)))
  (.seq (.seq (.region [⟨some 33, .load 1 false (.tmp 2), none, [5, 6, 7]⟩,
    ⟨some 34, .nilck (.tmp 33), none, [5, 6, 7]⟩,
    ⟨some 35, .fad 1 (.tmp 34), none, [5, 6, 7]⟩,
    ⟨some 36, .load 1 false (.tmp 35), none, [5, 6, 7]⟩,
    ⟨some 37, .mlen (.tmp 36), none, [5, 6, 7]⟩,
    ⟨some 38, .fad 5 (.tmp 3), none, [0, 1, 2, 3, 4]⟩,
    ⟨some 39, .fad 4 (.tmp 38), none, [0, 1, 2, 3, 4]⟩,
    ⟨some 40, .load 1 false (.tmp 39), none, [0, 1, 2, 3, 4]⟩,
    ⟨some 41, .pur (mkO (.binOp .add 3 (.tmp 37) (.tmp 40) 3) 3), none, []⟩,
    ⟨some 42, .pur (mkO (.binOp .gtr 3 (.tmp 41) (.const (.int .i64 8192)) 3) 4), none, []⟩] true)
  (.cond (.tmp 42)
    (.seq (.region [⟨some 4, .mov (.const (.int .i64 4)), none, []⟩] false)
    .ret)
    .skip))
  (.seq (.region [⟨some 4, .mov (.const (.int .i64 0)), none, []⟩] false)
  .ret)))))
def a29 : AFunc := ⟨43, c29, [.tmp 4], 0⟩

/-- (*blindstamp/doc.history).remove -/
def c30 : ACode :=
  (.seq (.region [⟨some 3, .box 34 (.tmp 1), none, [1]⟩,
    ⟨some 4, .mov (.const (.int .i64 0)), none, [0]⟩] false)
  (.seq (.block 0 (.seq (.region [⟨some 6, .mov (.tmp 0), none, [1]⟩,
      ⟨some 7, .load 17 true (.tmp 3), none, [0]⟩,
      ⟨some 8, .call (.func 62) [(.tmp 6), (.tmp 7)], none, []⟩,
      ⟨some 9, .pur (mkO (.unOp .not 4 (.tmp 8)) 4), none, []⟩,
      ⟨some 5, .mov (.tmp 9), none, []⟩] false)
    (.cond (.tmp 5)
      (.seq (.region [⟨some 4, .mov (.const (.int .i64 6)), none, []⟩] false)
      .ret)
      (.seq (.region [⟨some 11, .fad 5 (.tmp 3), none, [5, 6, 7]⟩,
        ⟨some 12, .fad 0 (.tmp 11), none, [5, 6, 7]⟩,
        ⟨some 13, .fad 0 (.tmp 12), none, [5, 6, 7]⟩,
        ⟨some 14, .fad 0 (.tmp 13), none, [5, 6, 7]⟩,
        ⟨some 15, .load 2 true (.tmp 14), none, [5, 6, 7]⟩,
        ⟨some 16, .fad 1 (.tmp 3), none, [0, 1, 2, 3, 4]⟩,
        ⟨some 17, .fad 0 (.tmp 16), none, [0, 1, 2, 3, 4]⟩,
        ⟨some 18, .load 2 true (.tmp 17), none, [0, 1, 2, 3, 4]⟩,
        ⟨some 19, .pur (mkO (.binOp .neq 25 (.tmp 15) (.tmp 18) 25) 4), none, []⟩,
        ⟨some 10, .mov (.tmp 19), none, []⟩] false)
      (.cond (.tmp 10)
        (.seq (.region [⟨some 4, .mov (.const (.int .i64 2)), none, []⟩] false)
        .ret)
        .skip)))))
  (.seq (.region [⟨some 4, .mov (.const (.int .i64 0)), none, []⟩] false)
  .ret)))
def a30 : AFunc := ⟨20, c30, [.tmp 4], 0⟩

/-- (*blindstamp/doc.history).raise -/
def c31 : ACode :=
  (.seq (.region [⟨some 3, .box 34 (.tmp 1), none, [1]⟩,
    ⟨some 4, .mov (.const (.int .i64 0)), none, [0]⟩] false)
  (.seq (.seq (.region [⟨some 7, .mov (.tmp 0), none, [1]⟩,
    ⟨some 8, .load 17 true (.tmp 3), none, [0]⟩,
    ⟨some 9, .call (.func 62) [(.tmp 7), (.tmp 8)], none, []⟩,
    ⟨some 10, .pur (mkO (.unOp .not 4 (.tmp 9)) 4), none, []⟩] false)
  (.cond (.tmp 10)
    (.seq (.region [⟨some 4, .mov (.const (.int .i64 6)), none, []⟩] false)
    .ret)
    .skip))
  (.seq (.seq (.region [⟨some 12, .mov (.tmp 0), none, [4]⟩,
    ⟨some 13, .nilck (.tmp 12), none, [4]⟩,
    ⟨some 14, .fad 0 (.tmp 13), none, [4]⟩,
    ⟨some 15, .load 1 false (.tmp 14), none, [4]⟩,
    ⟨some 16, .load 17 true (.tmp 3), none, [0, 1, 2, 3]⟩,
    ⟨some 17, .call (.func 63) [(.tmp 15), (.tmp 16)], none, []⟩,
    ⟨some 11, .mov (.tmp 17), none, []⟩,
    ⟨some 18, .ext (.tmp 11) 0, none, [8]⟩,
    ⟨some 19, .ext (.tmp 11) 1, none, [7, 9]⟩,
    ⟨some 5, .mov (.tmp 18), none, [8]⟩,
    ⟨some 6, .mov (.tmp 19), none, []⟩] true)
  (.seq (.region [⟨some 20, .mov (.tmp 6), none, []⟩,
    ⟨some 21, .pur (mkO (.binOp .neq 37 (.tmp 20) (.const (.int .i64 0)) 37) 4), none, []⟩,
    ⟨some 22, .mov (.tmp 21), none, []⟩,
    ⟨some 23, .mov (.tmp 5), some (22, false), []⟩,
    ⟨some 24, .pur (mkO (.unOp .not 4 (.tmp 23)) 4), some (22, false), []⟩,
    ⟨some 25, .pick (.tmp 22) (.const (.bool true)) (.tmp 24), none, []⟩] false)
  (.cond (.tmp 25)
    (.seq (.region [⟨some 4, .mov (.const (.int .i64 2)), none, []⟩] false)
    .ret)
    .skip)))
  (.seq (.region [⟨some 4, .mov (.const (.int .i64 0)), none, []⟩] false)
  .ret))))
def a31 : AFunc := ⟨26, c31, [.tmp 4], 0⟩

/-- blindstamp/run.Check -/
def c32 : ACode :=
  (.seq (.region [⟨some 1, .box 60 (.tmp 0), none, [1]⟩,
    ⟨some 2, .mov (.const (.int .i64 0)), none, [0]⟩] false)
  (.seq (.region [⟨some 4, .fad 5 (.tmp 1), none, [2]⟩,
    ⟨some 5, .load 4 true (.tmp 4), none, [2]⟩,
    ⟨some 6, .build (.agg #[(.int .u8 0), (.int .u32 0), (.int .u8 0), (.int .i64 0)]) [], none, [0, 1]⟩,
    ⟨some 7, .pur (mkO (.binOp .eql 29 (.tmp 5) (.tmp 6) 29) 4), none, []⟩,
    ⟨some 8, .mov (.tmp 7), none, []⟩,
    ⟨some 9, .fad 5 (.tmp 1), some (8, false), []⟩,
    ⟨some 10, .load 4 true (.tmp 9), some (8, false), []⟩,
    ⟨some 11, .call (.func 48) [(.tmp 10)], some (8, false), []⟩,
    ⟨some 12, .pur (mkO (.binOp .eql 37 (.tmp 11) (.const (.int .i64 0)) 37) 4), some (8, false), []⟩,
    ⟨some 13, .mov (.tmp 12), some (8, false), []⟩,
    ⟨some 14, .fad 5 (.tmp 1), some (13, true), [13, 14, 15, 16]⟩,
    ⟨some 15, .fad 3 (.tmp 14), some (13, true), [13, 14, 15, 16]⟩,
    ⟨some 16, .load 1 false (.tmp 15), some (13, true), [13, 14, 15, 16]⟩,
    ⟨some 17, .fad 0 (.tmp 1), some (13, true), [10, 11, 12]⟩,
    ⟨some 18, .fad 0 (.tmp 17), some (13, true), [10, 11, 12]⟩,
    ⟨some 19, .fad 3 (.tmp 18), some (13, true), [10, 11, 12]⟩,
    ⟨some 20, .load 1 false (.tmp 19), some (13, true), [10, 11, 12]⟩,
    ⟨some 21, .pur (mkO (.binOp .lss 3 (.tmp 16) (.tmp 20) 3) 4), some (13, true), []⟩,
    ⟨some 22, .pick (.tmp 13) (.tmp 21) (.const (.bool false)), some (8, false), []⟩,
    ⟨some 23, .pick (.tmp 8) (.const (.bool true)) (.tmp 22), none, []⟩,
    ⟨some 3, .mov (.tmp 23), none, []⟩] false)
  (.seq (.seq (.region [⟨some 24, .fad 0 (.tmp 1), none, []⟩,
    ⟨some 25, .load 5 true (.tmp 24), none, []⟩,
    ⟨some 26, .call (.func 27) [(.tmp 25)], none, []⟩,
    ⟨some 27, .pur (mkO (.binOp .neq 37 (.tmp 26) (.const (.int .i64 0)) 37) 4), none, []⟩,
    ⟨some 28, .mov (.tmp 27), none, []⟩,
    ⟨some 29, .mov (.tmp 3), some (28, false), []⟩,
    ⟨some 30, .pur (mkO (.unOp .not 4 (.tmp 29)) 4), some (28, false), []⟩,
    ⟨some 31, .pick (.tmp 28) (.const (.bool true)) (.tmp 30), none, []⟩,
    ⟨some 32, .mov (.tmp 31), none, []⟩,
    ⟨some 33, .fad 9 (.tmp 1), some (32, false), [12, 13, 14]⟩,
    ⟨some 34, .load 1 false (.tmp 33), some (32, false), [12, 13, 14]⟩,
    ⟨some 35, .len (.tmp 34), some (32, false), [12, 13, 14]⟩,
    ⟨some 36, .fad 0 (.tmp 1), some (32, false), [9, 10, 11]⟩,
    ⟨some 37, .fad 4 (.tmp 36), some (32, false), [9, 10, 11]⟩,
    ⟨some 38, .load 1 false (.tmp 37), some (32, false), [9, 10, 11]⟩,
    ⟨some 39, .pur (mkO (.binOp .neq 3 (.tmp 35) (.tmp 38) 3) 4), some (32, false), []⟩,
    ⟨some 40, .pick (.tmp 32) (.const (.bool true)) (.tmp 39), none, []⟩,
    ⟨some 41, .mov (.tmp 40), none, []⟩,
    ⟨some 42, .fad 9 (.tmp 1), some (41, false), []⟩,
    ⟨some 43, .load 1 false (.tmp 42), some (41, false), []⟩,
    ⟨some 44, .call (.func 53) [(.tmp 43)], some (41, false), []⟩,
    ⟨some 45, .pur (mkO (.binOp .neq 37 (.tmp 44) (.const (.int .i64 0)) 37) 4), some (41, false), []⟩,
    ⟨some 46, .pick (.tmp 41) (.const (.bool true)) (.tmp 45), none, []⟩] false)
  (.cond (.tmp 46)
    (.seq (.region [⟨some 2, .mov (.const (.int .i64 8)), none, []⟩] false)
    .ret)
    .skip))
  (.seq (.region [⟨some 2, .mov (.const (.int .i64 0)), none, []⟩] false)
  .ret))))
def a32 : AFunc := ⟨47, c32, [.tmp 2], 1⟩

/-- blindstamp/tree.where -/
def c33 : ACode :=
  (.seq (.region [⟨some 3, .box 29 (.tmp 1), none, [1, 2]⟩,
    ⟨some 4, .mov (.const (.int .i64 0)), none, [0]⟩,
    ⟨some 5, .mov (.const (.int .i64 0)), none, [0]⟩] false)
  (.seq (.seq (.region [⟨some 10, .mov (.tmp 0), none, [2]⟩,
    ⟨some 11, .len (.tmp 10), none, [2]⟩,
    ⟨some 12, .mov (.const (.int .i64 0)), none, [0, 1]⟩] false)
  (.block 0 (.loop (.seq (.region [⟨some 13, .pur (mkO (.binOp .lss 3 (.tmp 12) (.tmp 11) 3) 0), none, []⟩] false)
      (.seq (.cond (.tmp 13)
        .skip
        (.exit 0))
      (.seq (.block 1 (.seq (.region [⟨some 14, .mov (.tmp 12), none, [1, 2, 3]⟩,
          ⟨some 15, .iad 10 (.tmp 10) (.tmp 12), none, [0, 3]⟩,
          ⟨some 16, .load 10 true (.tmp 15), none, [0, 3]⟩,
          ⟨some 7, .alloc 60 (.agg #[(.int .u8 0), (.int .u32 0), (.int .u8 0), (.int .i64 0), (.int .i64 0), (.int .u8 0), (.int .u32 0), (.int .u8 0), (.int .i64 0), (.slice none 0 0)]), none, [0, 1, 2]⟩,
          ⟨some 6, .mov (.tmp 14), none, []⟩,
          ⟨none, .store 10 (.tmp 7) (.tmp 16), none, []⟩] false)
        (.seq (.region [⟨some 18, .fad 0 (.tmp 7), none, [2]⟩,
          ⟨some 19, .load 5 true (.tmp 18), none, [2]⟩,
          ⟨some 20, .load 4 true (.tmp 3), none, [0, 1]⟩,
          ⟨some 21, .call (.func 64) [(.tmp 19), (.tmp 20)], none, []⟩,
          ⟨some 17, .mov (.tmp 21), none, []⟩,
          ⟨some 22, .ext (.tmp 17) 0, none, [6]⟩,
          ⟨some 23, .ext (.tmp 17) 1, none, [5, 7]⟩,
          ⟨some 8, .mov (.tmp 22), none, [6]⟩,
          ⟨some 9, .mov (.tmp 23), none, []⟩] false)
        (.seq (.region [⟨some 24, .mov (.tmp 9), none, []⟩] false)
        (.cond (.tmp 24)
          (.seq (.region [⟨some 25, .mov (.tmp 6), none, [1]⟩,
            ⟨some 26, .mov (.tmp 8), none, [0, 2]⟩,
            ⟨some 4, .mov (.tmp 25), none, [1]⟩,
            ⟨some 5, .mov (.tmp 26), none, []⟩] false)
          .ret)
          .skip)))))
      (.region [⟨some 27, .pur (mkO (.binOp .add 3 (.tmp 12) (.const (.int .i64 1)) 3) 3), none, []⟩,
        ⟨some 12, .mov (.tmp 27), none, []⟩] false)))))))
  (.seq (.region [⟨some 4, .mov (.const (.int .i64 (-1))), none, []⟩,
    ⟨some 5, .mov (.const (.int .i64 0)), none, []⟩] false)
  .ret)))
def a33 : AFunc := ⟨28, c33, [.tmp 4, .tmp 5], 1⟩

/-- blindstamp/ids.At -/
def c34 : ACode :=
  (.seq (.region [⟨some 2, .box 31 (.tmp 0), none, [1, 2]⟩,
    ⟨some 4, .alloc 29 (.agg #[(.int .u8 0), (.int .u32 0), (.int .u8 0), (.int .i64 0)]), none, [0, 2]⟩,
    ⟨some 5, .mov (.const (.int .i64 0)), none, [0, 1]⟩] false)
  (.seq (.seq (.region [⟨some 7, .load 5 true (.tmp 2), none, []⟩,
    ⟨some 8, .call (.func 27) [(.tmp 7)], none, []⟩,
    ⟨some 6, .mov (.tmp 8), none, []⟩] false)
  (.seq (.region [⟨some 9, .mov (.tmp 6), none, []⟩,
    ⟨some 10, .pur (mkO (.binOp .neq 37 (.tmp 9) (.const (.int .i64 0)) 37) 4), none, []⟩] false)
  (.cond (.tmp 10)
    (.seq (.region [⟨some 11, .build (.agg #[(.int .u8 0), (.int .u32 0), (.int .u8 0), (.int .i64 0)]) [], none, [1]⟩,
      ⟨some 12, .mov (.tmp 6), none, [0, 2]⟩,
      ⟨none, .store 4 (.tmp 4) (.tmp 11), none, [1]⟩,
      ⟨some 5, .mov (.tmp 12), none, []⟩] false)
    .ret)
    .skip)))
  (.seq (.seq (.region [⟨some 13, .mov (.tmp 1), none, []⟩,
    ⟨some 14, .pur (mkO (.binOp .lss 3 (.tmp 13) (.const (.int .i64 0)) 3) 4), none, []⟩,
    ⟨some 15, .mov (.tmp 14), none, []⟩,
    ⟨some 16, .mov (.tmp 1), some (15, false), [4, 5]⟩,
    ⟨some 17, .fad 4 (.tmp 2), some (15, false), [3]⟩,
    ⟨some 18, .load 1 false (.tmp 17), some (15, false), [3]⟩,
    ⟨some 19, .pur (mkO (.binOp .geq 3 (.tmp 16) (.tmp 18) 3) 4), some (15, false), []⟩,
    ⟨some 20, .pick (.tmp 15) (.const (.bool true)) (.tmp 19), none, []⟩] false)
  (.cond (.tmp 20)
    (.seq (.region [⟨some 21, .build (.agg #[(.int .u8 0), (.int .u32 0), (.int .u8 0), (.int .i64 0)]) [], none, []⟩,
      ⟨none, .store 4 (.tmp 4) (.tmp 21), none, []⟩,
      ⟨some 5, .mov (.const (.int .i64 2)), none, []⟩] false)
    .ret)
    .skip))
  (.seq (.region [⟨some 22, .fad 0 (.tmp 2), none, [2]⟩,
    ⟨some 23, .load 4 true (.tmp 22), none, [2]⟩,
    ⟨some 24, .mov (.tmp 1), none, [0, 1]⟩,
    ⟨some 25, .call (.func 65) [(.tmp 23), (.tmp 24)], none, []⟩,
    ⟨none, .store 4 (.tmp 4) (.tmp 25), none, []⟩,
    ⟨some 5, .mov (.const (.int .i64 0)), none, []⟩] false)
  .ret))))
def a34 : AFunc := ⟨26, c34, [.cell 4 4 true, .tmp 5], 1⟩

/-- blindstamp/tree.count -/
def c35 : ACode :=
  (.seq (.region [⟨some 2, .mov (.const (.int .i64 0)), none, []⟩] false)
  (.seq (.seq (.region [⟨some 5, .mov (.tmp 0), none, [2]⟩,
    ⟨some 6, .len (.tmp 5), none, [2]⟩,
    ⟨some 7, .mov (.const (.int .i64 0)), none, [0, 1]⟩] false)
  (.block 0 (.loop (.seq (.region [⟨some 8, .pur (mkO (.binOp .lss 3 (.tmp 7) (.tmp 6) 3) 0), none, []⟩] false)
      (.seq (.cond (.tmp 8)
        .skip
        (.exit 0))
      (.seq (.block 1 (.seq (.region [⟨some 9, .iad 10 (.tmp 5) (.tmp 7), none, [2]⟩,
          ⟨some 10, .load 10 true (.tmp 9), none, [2]⟩,
          ⟨some 4, .alloc 60 (.agg #[(.int .u8 0), (.int .u32 0), (.int .u8 0), (.int .i64 0), (.int .i64 0), (.int .u8 0), (.int .u32 0), (.int .u8 0), (.int .i64 0), (.slice none 0 0)]), none, [0, 1]⟩,
          ⟨none, .store 10 (.tmp 4) (.tmp 10), none, []⟩] false)
        (.region [⟨some 11, .mov (.tmp 2), none, [1, 2, 3]⟩,
          ⟨some 12, .fad 0 (.tmp 4), none, [0]⟩,
          ⟨some 13, .fad 4 (.tmp 12), none, [0]⟩,
          ⟨some 14, .load 1 false (.tmp 13), none, [0]⟩,
          ⟨some 15, .pur (mkO (.binOp .add 3 (.tmp 11) (.tmp 14) 3) 3), none, []⟩,
          ⟨some 2, .mov (.tmp 15), none, []⟩] false)))
      (.region [⟨some 16, .pur (mkO (.binOp .add 3 (.tmp 7) (.const (.int .i64 1)) 3) 3), none, []⟩,
        ⟨some 7, .mov (.tmp 16), none, []⟩] false)))))))
  (.seq (.region [⟨some 17, .mov (.tmp 2), none, []⟩,
    ⟨some 2, .mov (.tmp 17), none, []⟩] false)
  .ret)))
def a35 : AFunc := ⟨18, c35, [.tmp 2], 1⟩

/-- blindstamp/tree.parted -/
def c36 : ACode :=
  (.seq (.region [⟨some 3, .box 29 (.tmp 1), none, [1, 2]⟩,
    ⟨some 4, .mov (.const (.slice none 0 0)), none, [0]⟩,
    ⟨some 5, .mov (.const (.int .i64 0)), none, [0]⟩] false)
  (.seq (.seq (.region [⟨some 11, .load 4 true (.tmp 3), none, [1]⟩,
    ⟨some 12, .build (.agg #[(.int .u8 0), (.int .u32 0), (.int .u8 0), (.int .i64 0)]) [], none, [0]⟩,
    ⟨some 13, .pur (mkO (.binOp .eql 29 (.tmp 11) (.tmp 12) 29) 4), none, []⟩] false)
  (.cond (.tmp 13)
    (.seq (.region [⟨some 14, .mov (.tmp 0), none, []⟩,
      ⟨some 4, .mov (.tmp 14), none, []⟩,
      ⟨some 5, .mov (.const (.int .i64 0)), none, []⟩] false)
    .ret)
    .skip))
  (.seq (.region [⟨some 16, .mov (.tmp 0), none, [1]⟩,
    ⟨some 17, .load 4 true (.tmp 3), none, [0]⟩,
    ⟨some 18, .call (.func 33) [(.tmp 16), (.tmp 17)], none, []⟩,
    ⟨some 15, .mov (.tmp 18), none, []⟩,
    ⟨some 19, .ext (.tmp 15) 0, none, [5]⟩,
    ⟨some 20, .ext (.tmp 15) 1, none, [4, 6]⟩,
    ⟨some 6, .mov (.tmp 19), none, [5]⟩,
    ⟨some 7, .mov (.tmp 20), none, []⟩] false)
  (.seq (.seq (.region [⟨some 22, .mov (.tmp 0), none, [1, 4, 5, 11, 12]⟩,
    ⟨some 23, .mov (.tmp 6), none, [0, 4, 5, 11, 12]⟩,
    ⟨some 24, .iad 10 (.tmp 22) (.tmp 23), none, [4, 5, 11, 12]⟩,
    ⟨some 25, .load 10 true (.tmp 24), none, [4, 5, 11, 12]⟩,
    ⟨some 26, .mov (.tmp 7), none, [0, 1, 2, 3, 11, 12]⟩,
    ⟨some 27, .pur (mkO (.binOp .add 3 (.tmp 26) (.const (.int .i64 1)) 3) 3), none, [0, 1, 2, 3, 11, 12]⟩,
    ⟨some 28, .call (.func 66) [(.tmp 25), (.tmp 27)], none, [11, 12]⟩,
    ⟨some 21, .mov (.tmp 28), none, [11, 12]⟩,
    ⟨some 29, .ext (.tmp 21) 0, none, [9, 10, 11, 12]⟩,
    ⟨some 30, .ext (.tmp 21) 1, none, [8, 10, 11, 12, 13]⟩,
    ⟨some 31, .ext (.tmp 21) 2, none, [8, 9, 11, 12, 13, 14]⟩,
    ⟨some 8, .alloc 60 (.agg #[(.int .u8 0), (.int .u32 0), (.int .u8 0), (.int .i64 0), (.int .i64 0), (.int .u8 0), (.int .u32 0), (.int .u8 0), (.int .i64 0), (.slice none 0 0)]), none, [0, 1, 2, 3, 4, 5, 6, 7, 8, 9, 10, 12]⟩,
    ⟨some 9, .alloc 60 (.agg #[(.int .u8 0), (.int .u32 0), (.int .u8 0), (.int .i64 0), (.int .i64 0), (.int .u8 0), (.int .u32 0), (.int .u8 0), (.int .i64 0), (.slice none 0 0)]), none, [0, 1, 2, 3, 4, 5, 6, 7, 8, 9, 10, 11]⟩,
    ⟨none, .store 10 (.tmp 8) (.tmp 29), none, [9, 10]⟩,
    ⟨none, .store 10 (.tmp 9) (.tmp 30), none, [10]⟩,
    ⟨some 10, .mov (.tmp 31), none, []⟩] false)
  (.seq (.region [⟨some 32, .mov (.tmp 10), none, []⟩,
    ⟨some 33, .pur (mkO (.binOp .eql 37 (.tmp 32) (.const (.int .i64 0)) 37) 4), none, []⟩] false)
  (.cond (.tmp 33)
    (.region [⟨some 34, .mov (.tmp 0), none, [1, 3, 4, 5, 6, 7, 8, 9]⟩,
      ⟨some 35, .mov (.tmp 6), none, [0, 3, 4, 5, 6, 7, 8, 9]⟩,
      ⟨some 36, .slc 10 (.tmp 34) none (some (.tmp 35)) none, none, [3, 4, 5, 6, 7, 8, 9]⟩,
      ⟨some 37, .load 10 true (.tmp 8), none, [0, 1, 2, 4, 6, 7, 8, 9]⟩,
      ⟨some 38, .load 10 true (.tmp 9), none, [0, 1, 2, 3, 6, 7, 8, 9]⟩,
      ⟨some 39, .bsl 60 10 (.agg #[(.int .u8 0), (.int .u32 0), (.int .u8 0), (.int .i64 0), (.int .i64 0), (.int .u8 0), (.int .u32 0), (.int .u8 0), (.int .i64 0), (.slice none 0 0)]) 2 [(0, 10, (.tmp 37)), (10, 10, (.tmp 38))], none, [0, 1, 2, 6, 7, 8, 9]⟩,
      ⟨some 40, .mov (.tmp 0), none, [0, 1, 2, 3, 4, 5, 7, 8]⟩,
      ⟨some 41, .mov (.tmp 6), none, [0, 1, 2, 3, 4, 5, 6]⟩,
      ⟨some 42, .pur (mkO (.binOp .add 3 (.tmp 41) (.const (.int .i64 1)) 3) 3), none, [0, 1, 2, 3, 4, 5, 6]⟩,
      ⟨some 43, .slc 10 (.tmp 40) (some (.tmp 42)) none none, none, [0, 1, 2, 3, 4, 5]⟩,
      ⟨some 44, .bsl 44 1 (.slice none 0 0) 3 [(0, 1, (.tmp 36)), (1, 1, (.tmp 39)), (2, 1, (.tmp 43))], none, []⟩,
      ⟨some 45, .call (.func 67) [(.tmp 44)], none, []⟩,
      ⟨some 0, .mov (.tmp 45), none, []⟩] true)
    .skip)))
  (.seq (.region [⟨some 46, .mov (.tmp 0), none, [1, 2]⟩,
    ⟨some 47, .mov (.tmp 6), none, [0, 3]⟩,
    ⟨some 48, .pur (mkO (.binOp .add 3 (.tmp 47) (.const (.int .i64 1)) 3) 3), none, [0, 3]⟩,
    ⟨some 4, .mov (.tmp 46), none, [1, 2]⟩,
    ⟨some 5, .mov (.tmp 48), none, []⟩] false)
  .ret)))))
def a36 : AFunc := ⟨49, c36, [.tmp 4, .tmp 5], 1⟩

/-- blindstamp/ids.Less -/
def c37 : ACode :=
  (.seq (.region [⟨some 2, .box 29 (.tmp 0), none, [1, 2]⟩,
    ⟨some 3, .box 29 (.tmp 1), none, [0, 2]⟩,
    ⟨some 4, .mov (.const (.bool false)), none, [0, 1]⟩] false)
  (.seq (.block 0 (.seq (.region [⟨some 6, .fad 3 (.tmp 2), none, [2, 3]⟩,
      ⟨some 7, .load 1 false (.tmp 6), none, [2, 3]⟩,
      ⟨some 8, .fad 3 (.tmp 3), none, [0, 1]⟩,
      ⟨some 9, .load 1 false (.tmp 8), none, [0, 1]⟩,
      ⟨some 10, .pur (mkO (.binOp .neq 3 (.tmp 7) (.tmp 9) 3) 4), none, []⟩,
      ⟨some 5, .mov (.tmp 10), none, []⟩] false)
    (.cond (.tmp 5)
      (.seq (.region [⟨some 11, .fad 3 (.tmp 2), none, [2, 3]⟩,
        ⟨some 12, .load 1 false (.tmp 11), none, [2, 3]⟩,
        ⟨some 13, .fad 3 (.tmp 3), none, [0, 1]⟩,
        ⟨some 14, .load 1 false (.tmp 13), none, [0, 1]⟩,
        ⟨some 15, .pur (mkO (.binOp .lss 3 (.tmp 12) (.tmp 14) 3) 4), none, []⟩,
        ⟨some 4, .mov (.tmp 15), none, []⟩] false)
      .ret)
      (.seq (.region [⟨some 17, .fad 0 (.tmp 2), none, [3, 4, 5]⟩,
        ⟨some 18, .fad 0 (.tmp 17), none, [3, 4, 5]⟩,
        ⟨some 19, .load 2 true (.tmp 18), none, [3, 4, 5]⟩,
        ⟨some 20, .fad 0 (.tmp 3), none, [0, 1, 2]⟩,
        ⟨some 21, .fad 0 (.tmp 20), none, [0, 1, 2]⟩,
        ⟨some 22, .load 2 true (.tmp 21), none, [0, 1, 2]⟩,
        ⟨some 23, .pur (mkO (.binOp .neq 25 (.tmp 19) (.tmp 22) 25) 4), none, []⟩,
        ⟨some 16, .mov (.tmp 23), none, []⟩] false)
      (.cond (.tmp 16)
        (.seq (.region [⟨some 24, .fad 0 (.tmp 2), none, [3, 4, 5]⟩,
          ⟨some 25, .fad 0 (.tmp 24), none, [3, 4, 5]⟩,
          ⟨some 26, .load 2 true (.tmp 25), none, [3, 4, 5]⟩,
          ⟨some 27, .fad 0 (.tmp 3), none, [0, 1, 2]⟩,
          ⟨some 28, .fad 0 (.tmp 27), none, [0, 1, 2]⟩,
          ⟨some 29, .load 2 true (.tmp 28), none, [0, 1, 2]⟩,
          ⟨some 30, .call (.func 68) [(.tmp 26), (.tmp 29)], none, []⟩,
          ⟨some 4, .mov (.tmp 30), none, []⟩] false)
        .ret)
        .skip)))))
  (.seq (.region [⟨some 31, .fad 0 (.tmp 2), none, [3, 4, 5]⟩,
    ⟨some 32, .fad 2 (.tmp 31), none, [3, 4, 5]⟩,
    ⟨some 33, .load 1 false (.tmp 32), none, [3, 4, 5]⟩,
    ⟨some 34, .fad 0 (.tmp 3), none, [0, 1, 2]⟩,
    ⟨some 35, .fad 2 (.tmp 34), none, [0, 1, 2]⟩,
    ⟨some 36, .load 1 false (.tmp 35), none, [0, 1, 2]⟩,
    ⟨some 37, .pur (mkO (.binOp .lss 5 (.tmp 33) (.tmp 36) 5) 4), none, []⟩,
    ⟨some 4, .mov (.tmp 37), none, []⟩] false)
  .ret)))
def a37 : AFunc := ⟨38, c37, [.tmp 4], 1⟩

/-- blindstamp/tree.long -/
def c38 : ACode :=
  (.seq (.region [⟨some 2, .mov (.const (.slice none 0 0)), none, []⟩] false)
  (.seq (.seq (.region [⟨some 13, .mov (.tmp 0), none, [2]⟩,
    ⟨some 14, .len (.tmp 13), none, [2]⟩,
    ⟨some 15, .mov (.const (.int .i64 0)), none, [0, 1]⟩] false)
  (.block 0 (.loop (.seq (.region [⟨some 16, .pur (mkO (.binOp .lss 3 (.tmp 15) (.tmp 14) 3) 0), none, []⟩] false)
      (.seq (.cond (.tmp 16)
        .skip
        (.exit 0))
      (.seq (.block 1 (.seq (.region [⟨some 17, .iad 10 (.tmp 13) (.tmp 15), none, [2]⟩,
          ⟨some 18, .load 10 true (.tmp 17), none, [2]⟩,
          ⟨some 4, .alloc 60 (.agg #[(.int .u8 0), (.int .u32 0), (.int .u8 0), (.int .i64 0), (.int .i64 0), (.int .u8 0), (.int .u32 0), (.int .u8 0), (.int .i64 0), (.slice none 0 0)]), none, [0, 1]⟩,
          ⟨none, .store 10 (.tmp 4) (.tmp 18), none, []⟩] false)
        (.seq (.region [⟨some 19, .mov (.tmp 2), none, []⟩,
          ⟨some 20, .len (.tmp 19), none, []⟩,
          ⟨some 21, .pur (mkO (.binOp .sub 3 (.tmp 20) (.const (.int .i64 1)) 3) 3), none, []⟩,
          ⟨some 5, .mov (.tmp 21), none, []⟩] false)
        (.seq (.region [⟨some 22, .mov (.tmp 5), none, []⟩,
          ⟨some 23, .pur (mkO (.binOp .geq 3 (.tmp 22) (.const (.int .i64 0)) 3) 4), none, []⟩,
          ⟨some 24, .mov (.tmp 23), none, []⟩,
          ⟨some 25, .fad 5 (.tmp 4), some (24, true), [5, 6, 7, 8, 9]⟩,
          ⟨some 26, .load 4 true (.tmp 25), some (24, true), [5, 6, 7, 8, 9]⟩,
          ⟨some 27, .mov (.tmp 2), some (24, true), [3, 4, 6]⟩,
          ⟨some 28, .mov (.tmp 5), some (24, true), [3, 4, 5]⟩,
          ⟨some 29, .iad 10 (.tmp 27) (.tmp 28), some (24, true), [3, 4]⟩,
          ⟨some 30, .load 10 true (.tmp 29), some (24, true), [3, 4]⟩,
          ⟨some 31, .call (.func 69) [(.tmp 30)], some (24, true), [3, 4]⟩,
          ⟨some 32, .pur (mkO (.binOp .eql 29 (.tmp 26) (.tmp 31) 29) 4), some (24, true), []⟩,
          ⟨some 33, .pick (.tmp 24) (.tmp 32) (.const (.bool false)), none, []⟩,
          ⟨some 34, .mov (.tmp 33), none, []⟩,
          ⟨some 35, .fad 0 (.tmp 4), some (34, true), [16, 17, 18, 19, 20, 21, 22, 23]⟩,
          ⟨some 36, .fad 0 (.tmp 35), some (34, true), [16, 17, 18, 19, 20, 21, 22, 23]⟩,
          ⟨some 37, .load 4 true (.tmp 36), some (34, true), [16, 17, 18, 19, 20, 21, 22, 23]⟩,
          ⟨some 38, .fad 5 (.tmp 4), some (34, true), [13, 14, 15, 19, 20, 21, 22]⟩,
          ⟨some 39, .fad 0 (.tmp 38), some (34, true), [13, 14, 15, 19, 20, 21, 22]⟩,
          ⟨some 40, .load 3 true (.tmp 39), some (34, true), [13, 14, 15, 19, 20, 21, 22]⟩,
          ⟨some 41, .fad 5 (.tmp 4), some (34, true), [13, 14, 15, 16, 17, 18]⟩,
          ⟨some 42, .fad 3 (.tmp 41), some (34, true), [13, 14, 15, 16, 17, 18]⟩,
          ⟨some 43, .load 1 false (.tmp 42), some (34, true), [13, 14, 15, 16, 17, 18]⟩,
          ⟨some 44, .pur (mkO (.binOp .add 3 (.tmp 43) (.const (.int .i64 1)) 3) 3), some (34, true), [13, 14, 15, 16, 17, 18]⟩,
          ⟨some 45, .build (.agg #[(.int .u8 0), (.int .u32 0), (.int .u8 0), (.int .i64 0)]) [(0, 3, (.tmp 40)), (3, 1, (.tmp 44))], some (34, true), [13, 14, 15]⟩,
          ⟨some 46, .pur (mkO (.binOp .eql 29 (.tmp 37) (.tmp 45) 29) 4), some (34, true), []⟩,
          ⟨some 47, .pick (.tmp 34) (.tmp 46) (.const (.bool false)), none, []⟩,
          ⟨some 6, .mov (.tmp 47), none, []⟩] true)
        (.seq (.seq (.region [⟨some 48, .mov (.tmp 6), none, []⟩] false)
        (.cond (.tmp 48)
          (.seq (.region [⟨some 49, .mov (.tmp 2), none, [1]⟩,
            ⟨some 50, .mov (.tmp 5), none, [0]⟩,
            ⟨some 51, .iad 10 (.tmp 49) (.tmp 50), none, []⟩,
            ⟨some 52, .fad 0 (.tmp 51), none, []⟩,
            ⟨some 53, .fad 4 (.tmp 52), none, []⟩,
            ⟨some 54, .load 1 false (.tmp 53), none, []⟩,
            ⟨some 55, .pur (mkO (.binOp .sub 3 (.const (.int .i64 64)) (.tmp 54) 3) 3), none, []⟩,
            ⟨some 7, .mov (.tmp 55), none, []⟩] false)
          (.seq (.region [⟨some 57, .load 10 true (.tmp 4), none, [1, 7, 8]⟩,
            ⟨some 58, .mov (.tmp 7), none, [0, 7, 8]⟩,
            ⟨some 59, .call (.func 66) [(.tmp 57), (.tmp 58)], none, [7, 8]⟩,
            ⟨some 56, .mov (.tmp 59), none, [7, 8]⟩,
            ⟨some 60, .ext (.tmp 56) 0, none, [5, 6, 7, 8]⟩,
            ⟨some 61, .ext (.tmp 56) 1, none, [4, 6, 7, 8, 9]⟩,
            ⟨some 62, .ext (.tmp 56) 2, none, [4, 5, 7, 8, 9, 10]⟩,
            ⟨some 8, .alloc 60 (.agg #[(.int .u8 0), (.int .u32 0), (.int .u8 0), (.int .i64 0), (.int .i64 0), (.int .u8 0), (.int .u32 0), (.int .u8 0), (.int .i64 0), (.slice none 0 0)]), none, [0, 1, 2, 3, 4, 5, 6, 8]⟩,
            ⟨some 9, .alloc 60 (.agg #[(.int .u8 0), (.int .u32 0), (.int .u8 0), (.int .i64 0), (.int .i64 0), (.int .u8 0), (.int .u32 0), (.int .u8 0), (.int .i64 0), (.slice none 0 0)]), none, [0, 1, 2, 3, 4, 5, 6, 7]⟩,
            ⟨none, .store 10 (.tmp 8) (.tmp 60), none, [5, 6]⟩,
            ⟨none, .store 10 (.tmp 9) (.tmp 61), none, [6]⟩,
            ⟨some 10, .mov (.tmp 62), none, []⟩] false)
          (.seq (.region [⟨some 63, .mov (.tmp 10), none, []⟩,
            ⟨some 64, .pur (mkO (.binOp .eql 37 (.tmp 63) (.const (.int .i64 0)) 37) 4), none, []⟩] false)
          (.cond (.tmp 64)
            (.seq (.region [⟨some 66, .mov (.tmp 2), none, [1, 2, 3, 4, 5, 6, 7, 8, 9, 10]⟩,
              ⟨some 67, .mov (.tmp 5), none, [0, 2, 3, 4, 5, 6, 7, 8, 9, 10]⟩,
              ⟨some 68, .mov (.tmp 2), none, [0, 1, 3, 6]⟩,
              ⟨some 69, .mov (.tmp 5), none, [0, 1, 2, 6]⟩,
              ⟨some 70, .iad 10 (.tmp 68) (.tmp 69), none, [0, 1, 6]⟩,
              ⟨some 71, .load 10 true (.tmp 70), none, [0, 1, 6]⟩,
              ⟨some 72, .load 10 true (.tmp 8), none, [0, 1, 2, 3, 4, 5]⟩,
              ⟨some 73, .call (.func 70) [(.tmp 71), (.tmp 72)], none, [0, 1]⟩,
              ⟨some 65, .mov (.tmp 73), none, [0, 1]⟩,
              ⟨some 74, .ext (.tmp 65) 0, none, [0, 1, 10]⟩,
              ⟨some 75, .ext (.tmp 65) 1, none, [0, 1, 9, 11, 12]⟩,
              ⟨some 76, .iad 10 (.tmp 66) (.tmp 67), none, [10]⟩,
              ⟨none, .store 10 (.tmp 76) (.tmp 74), none, [10]⟩] true)
            (.region [⟨some 77, .load 10 true (.tmp 9), none, []⟩,
              ⟨none, .store 10 (.tmp 4) (.tmp 77), none, []⟩] false))
            (.seq (.region [⟨some 79, .mov (.tmp 2), none, [1, 4, 9]⟩,
              ⟨some 80, .mov (.tmp 5), none, [0, 4, 9]⟩,
              ⟨some 81, .iad 10 (.tmp 79) (.tmp 80), none, [4, 9]⟩,
              ⟨some 82, .load 10 true (.tmp 81), none, [4, 9]⟩,
              ⟨some 83, .load 10 true (.tmp 4), none, [0, 1, 2, 3, 9]⟩,
              ⟨some 84, .call (.func 70) [(.tmp 82), (.tmp 83)], none, [9]⟩,
              ⟨some 78, .mov (.tmp 84), none, [9]⟩,
              ⟨some 85, .ext (.tmp 78) 0, none, [8, 9]⟩,
              ⟨some 86, .ext (.tmp 78) 1, none, [7, 9, 10]⟩,
              ⟨some 11, .alloc 60 (.agg #[(.int .u8 0), (.int .u32 0), (.int .u8 0), (.int .i64 0), (.int .i64 0), (.int .u8 0), (.int .u32 0), (.int .u8 0), (.int .i64 0), (.slice none 0 0)]), none, [0, 1, 2, 3, 4, 5, 6, 7, 8]⟩,
              ⟨none, .store 10 (.tmp 11) (.tmp 85), none, [8]⟩,
              ⟨some 12, .mov (.tmp 86), none, []⟩] true)
            (.seq (.region [⟨some 87, .mov (.tmp 12), none, []⟩,
              ⟨some 88, .pur (mkO (.binOp .eql 37 (.tmp 87) (.const (.int .i64 0)) 37) 4), none, []⟩] false)
            (.cond (.tmp 88)
              (.seq (.region [⟨some 89, .mov (.tmp 2), none, [1, 2]⟩,
                ⟨some 90, .mov (.tmp 5), none, [0, 2]⟩,
                ⟨some 91, .load 10 true (.tmp 11), none, [0, 1]⟩,
                ⟨some 92, .iad 10 (.tmp 89) (.tmp 90), none, []⟩,
                ⟨none, .store 10 (.tmp 92) (.tmp 91), none, []⟩] false)
              (.exit 1))
              .skip)))))))
          .skip))
        (.region [⟨some 93, .mov (.tmp 2), none, [1, 2, 3]⟩,
          ⟨some 94, .load 10 true (.tmp 4), none, [0]⟩,
          ⟨some 95, .call (.func 71) [(.tmp 94)], none, [0]⟩,
          ⟨some 96, .bsl 60 10 (.agg #[(.int .u8 0), (.int .u32 0), (.int .u8 0), (.int .i64 0), (.int .i64 0), (.int .u8 0), (.int .u32 0), (.int .u8 0), (.int .i64 0), (.slice none 0 0)]) 1 [(0, 10, (.tmp 95))], none, [0]⟩,
          ⟨some 97, .app 60 10 80 (.agg #[(.int .u8 0), (.int .u32 0), (.int .u8 0), (.int .i64 0), (.int .i64 0), (.int .u8 0), (.int .u32 0), (.int .u8 0), (.int .i64 0), (.slice none 0 0)]) (.tmp 93) (.tmp 96), none, []⟩,
          ⟨some 2, .mov (.tmp 97), none, []⟩] false))))))
      (.region [⟨some 98, .pur (mkO (.binOp .add 3 (.tmp 15) (.const (.int .i64 1)) 3) 3), none, []⟩,
        ⟨some 15, .mov (.tmp 98), none, []⟩] false)))))))
  (.seq (.region [⟨some 99, .mov (.tmp 2), none, []⟩,
    ⟨some 2, .mov (.tmp 99), none, []⟩] false)
  .ret)))
def a38 : AFunc := ⟨100, c38, [.tmp 2], 1⟩

/-- slices.Insert[[]blindstamp/api.Run,blindstamp/api.Run] -/
def c39 : ACode :=
  (.seq (.region [⟨some 6, .mov (.const (.slice none 0 0)), none, []⟩] false)
  (.seq (.region [⟨some 10, .mov (.tmp 0), none, [1]⟩,
    ⟨some 11, .mov (.tmp 1), none, [0]⟩,
    ⟨some 12, .slc 10 (.tmp 10) (some (.tmp 11)) none none, none, []⟩] false)
  (.seq (.region [⟨some 13, .mov (.tmp 2), none, []⟩,
    ⟨some 14, .len (.tmp 13), none, []⟩,
    ⟨some 7, .mov (.tmp 14), none, []⟩] false)
  (.seq (.seq (.region [⟨some 15, .mov (.tmp 7), none, []⟩,
    ⟨some 16, .pur (mkO (.binOp .eql 3 (.tmp 15) (.const (.int .i64 0)) 3) 4), none, []⟩] false)
  (.cond (.tmp 16)
    (.seq (.region [⟨some 17, .mov (.tmp 0), none, []⟩,
      ⟨some 6, .mov (.tmp 17), none, []⟩] false)
    .ret)
    .skip))
  (.seq (.region [⟨some 18, .mov (.tmp 0), none, []⟩,
    ⟨some 19, .len (.tmp 18), none, []⟩,
    ⟨some 8, .mov (.tmp 19), none, []⟩] false)
  (.seq (.seq (.region [⟨some 20, .mov (.tmp 1), none, [1]⟩,
    ⟨some 21, .mov (.tmp 8), none, [0]⟩,
    ⟨some 22, .pur (mkO (.binOp .eql 3 (.tmp 20) (.tmp 21) 3) 4), none, []⟩] false)
  (.cond (.tmp 22)
    (.seq (.region [⟨some 23, .mov (.tmp 0), none, [1]⟩,
      ⟨some 24, .mov (.tmp 2), none, [0]⟩,
      ⟨some 25, .app 60 10 80 (.agg #[(.int .u8 0), (.int .u32 0), (.int .u8 0), (.int .i64 0), (.int .i64 0), (.int .u8 0), (.int .u32 0), (.int .u8 0), (.int .i64 0), (.slice none 0 0)]) (.tmp 23) (.tmp 24), none, []⟩,
      ⟨some 6, .mov (.tmp 25), none, []⟩] false)
    .ret)
    .skip))
  (.seq (.seq (.region [⟨some 26, .mov (.tmp 8), none, [1, 3, 4]⟩,
    ⟨some 27, .mov (.tmp 7), none, [0, 3, 4]⟩,
    ⟨some 28, .pur (mkO (.binOp .add 3 (.tmp 26) (.tmp 27) 3) 3), none, [3, 4]⟩,
    ⟨some 29, .mov (.tmp 0), none, [0, 1, 2]⟩,
    ⟨some 30, .cap (.tmp 29), none, [0, 1, 2]⟩,
    ⟨some 31, .pur (mkO (.binOp .gtr 3 (.tmp 28) (.tmp 30) 3) 4), none, []⟩] false)
  (.cond (.tmp 31)
    (.seq (.region [⟨some 32, .mov (.tmp 0), none, [1, 3, 4, 5, 6, 7]⟩,
      ⟨some 33, .mov (.tmp 1), none, [0, 3, 4, 5, 6, 7]⟩,
      ⟨some 34, .slc 10 (.tmp 32) none (some (.tmp 33)) none, none, [3, 4, 5, 6, 7]⟩,
      ⟨some 35, .mov (.tmp 8), none, [0, 1, 2, 4, 6]⟩,
      ⟨some 36, .mov (.tmp 7), none, [0, 1, 2, 3, 6]⟩,
      ⟨some 37, .pur (mkO (.binOp .add 3 (.tmp 35) (.tmp 36) 3) 3), none, [0, 1, 2, 6]⟩,
      ⟨some 38, .mov (.tmp 1), none, [0, 1, 2, 3, 4, 5]⟩,
      ⟨some 39, .pur (mkO (.binOp .sub 3 (.tmp 37) (.tmp 38) 3) 3), none, [0, 1, 2]⟩,
      ⟨some 40, .appz 60 10 80 (.agg #[(.int .u8 0), (.int .u32 0), (.int .u8 0), (.int .i64 0), (.int .i64 0), (.int .u8 0), (.int .u32 0), (.int .u8 0), (.int .i64 0), (.slice none 0 0)]) (.tmp 34) (.tmp 39), none, []⟩,
      ⟨some 9, .mov (.tmp 40), none, []⟩] false)
    (.seq (.region [⟨some 41, .mov (.tmp 9), none, [1, 3]⟩,
      ⟨some 42, .mov (.tmp 1), none, [0, 3]⟩,
      ⟨some 43, .slc 10 (.tmp 41) (some (.tmp 42)) none none, none, [3]⟩,
      ⟨some 44, .mov (.tmp 2), none, [0, 1, 2]⟩,
      ⟨some 45, .cpy 10 (.tmp 43) (.tmp 44), none, []⟩] false)
    (.seq (.region [⟨some 46, .mov (.tmp 9), none, [1, 2, 3, 5, 6, 7]⟩,
      ⟨some 47, .mov (.tmp 1), none, [0, 2, 5, 6, 7]⟩,
      ⟨some 48, .mov (.tmp 7), none, [0, 1, 5, 6, 7]⟩,
      ⟨some 49, .pur (mkO (.binOp .add 3 (.tmp 47) (.tmp 48) 3) 3), none, [0, 5, 6, 7]⟩,
      ⟨some 50, .slc 10 (.tmp 46) (some (.tmp 49)) none none, none, [5, 6, 7]⟩,
      ⟨some 51, .mov (.tmp 0), none, [0, 1, 2, 3, 4, 6]⟩,
      ⟨some 52, .mov (.tmp 1), none, [0, 1, 2, 3, 4, 5]⟩,
      ⟨some 53, .slc 10 (.tmp 51) (some (.tmp 52)) none none, none, [0, 1, 2, 3, 4]⟩,
      ⟨some 54, .cpy 10 (.tmp 50) (.tmp 53), none, []⟩] true)
    (.seq (.region [⟨some 55, .mov (.tmp 9), none, []⟩,
      ⟨some 6, .mov (.tmp 55), none, []⟩] false)
    .ret))))
    .skip))
  (.seq (.region [⟨some 56, .mov (.tmp 0), none, [1, 2, 3]⟩,
    ⟨some 57, .mov (.tmp 8), none, [0, 2]⟩,
    ⟨some 58, .mov (.tmp 7), none, [0, 1]⟩,
    ⟨some 59, .pur (mkO (.binOp .add 3 (.tmp 57) (.tmp 58) 3) 3), none, [0]⟩,
    ⟨some 60, .slc 10 (.tmp 56) none (some (.tmp 59)) none, none, []⟩,
    ⟨some 0, .mov (.tmp 60), none, []⟩] false)
  (.seq (.seq (.region [⟨some 61, .mov (.tmp 2), none, [1, 2, 3, 4, 5]⟩,
    ⟨some 62, .mov (.tmp 0), none, [0, 2, 3, 4]⟩,
    ⟨some 63, .mov (.tmp 1), none, [0, 1, 3]⟩,
    ⟨some 64, .mov (.tmp 7), none, [0, 1, 2]⟩,
    ⟨some 65, .pur (mkO (.binOp .add 3 (.tmp 63) (.tmp 64) 3) 3), none, [0, 1]⟩,
    ⟨some 66, .slc 10 (.tmp 62) (some (.tmp 65)) none none, none, [0]⟩,
    ⟨some 67, .ovl 10 (.tmp 61) (.tmp 66), none, []⟩,
    ⟨some 68, .pur (mkO (.unOp .not 4 (.tmp 67)) 4), none, []⟩] false)
  (.cond (.tmp 68)
    (.seq (.region [⟨some 69, .mov (.tmp 0), none, [1, 2, 3, 5, 6, 7]⟩,
      ⟨some 70, .mov (.tmp 1), none, [0, 2, 5, 6, 7]⟩,
      ⟨some 71, .mov (.tmp 7), none, [0, 1, 5, 6, 7]⟩,
      ⟨some 72, .pur (mkO (.binOp .add 3 (.tmp 70) (.tmp 71) 3) 3), none, [0, 5, 6, 7]⟩,
      ⟨some 73, .slc 10 (.tmp 69) (some (.tmp 72)) none none, none, [5, 6, 7]⟩,
      ⟨some 74, .mov (.tmp 0), none, [0, 1, 2, 3, 4, 6]⟩,
      ⟨some 75, .mov (.tmp 1), none, [0, 1, 2, 3, 4, 5]⟩,
      ⟨some 76, .slc 10 (.tmp 74) (some (.tmp 75)) none none, none, [0, 1, 2, 3, 4]⟩,
      ⟨some 77, .cpy 10 (.tmp 73) (.tmp 76), none, []⟩] true)
    (.seq (.region [⟨some 78, .mov (.tmp 0), none, [1, 3]⟩,
      ⟨some 79, .mov (.tmp 1), none, [0, 3]⟩,
      ⟨some 80, .slc 10 (.tmp 78) (some (.tmp 79)) none none, none, [3]⟩,
      ⟨some 81, .mov (.tmp 2), none, [0, 1, 2]⟩,
      ⟨some 82, .cpy 10 (.tmp 80) (.tmp 81), none, []⟩] false)
    (.seq (.region [⟨some 83, .mov (.tmp 0), none, []⟩,
      ⟨some 6, .mov (.tmp 83), none, []⟩] false)
    .ret)))
    .skip))
  (.seq (.region [⟨some 84, .mov (.tmp 0), none, [1, 3]⟩,
    ⟨some 85, .mov (.tmp 8), none, [0, 3]⟩,
    ⟨some 86, .slc 10 (.tmp 84) (some (.tmp 85)) none none, none, [3]⟩,
    ⟨some 87, .mov (.tmp 2), none, [0, 1, 2]⟩,
    ⟨some 88, .cpy 10 (.tmp 86) (.tmp 87), none, []⟩] false)
  (.seq (.region [⟨some 89, .mov (.tmp 0), none, [1, 3]⟩,
    ⟨some 90, .mov (.tmp 1), none, [0, 3]⟩,
    ⟨some 91, .slc 10 (.tmp 89) (some (.tmp 90)) none none, none, [3]⟩,
    ⟨some 92, .mov (.tmp 7), none, [0, 1, 2]⟩,
    ⟨some 93, .call (.func 73) [(.tmp 91), (.tmp 92)], none, []⟩] false)
  (.seq (.region [⟨some 94, .mov (.tmp 0), none, []⟩,
    ⟨some 6, .mov (.tmp 94), none, []⟩] false)
  .ret))))))))))))
def a39 : AFunc := ⟨95, c39, [.tmp 6], 0⟩

/-- slices.Clone[[]blindstamp/api.Run,blindstamp/api.Run] -/
def c40 : ACode :=
  (.seq (.region [⟨some 2, .mov (.const (.slice none 0 0)), none, []⟩] false)
  (.seq (.seq (.region [⟨some 3, .mov (.tmp 0), none, []⟩,
    ⟨some 4, .eqnil false 1 (.tmp 3) (mkO (.binOp .eql 44 (.tmp 3) (.const (.slice none 0 0)) 44) 4), none, []⟩] false)
  (.cond (.tmp 4)
    (.seq (.region [⟨some 2, .mov (.const (.slice none 0 0)), none, []⟩] false)
    .ret)
    .skip))
  (.seq (.region [⟨some 5, .bsl 60 10 (.agg #[(.int .u8 0), (.int .u32 0), (.int .u8 0), (.int .i64 0), (.int .i64 0), (.int .u8 0), (.int .u32 0), (.int .u8 0), (.int .i64 0), (.slice none 0 0)]) 0 [], none, [1]⟩,
    ⟨some 6, .mov (.tmp 0), none, [0]⟩,
    ⟨some 7, .app 60 10 80 (.agg #[(.int .u8 0), (.int .u32 0), (.int .u8 0), (.int .i64 0), (.int .i64 0), (.int .u8 0), (.int .u32 0), (.int .u8 0), (.int .i64 0), (.slice none 0 0)]) (.tmp 5) (.tmp 6), none, []⟩,
    ⟨some 2, .mov (.tmp 7), none, []⟩] false)
  .ret)))
def a40 : AFunc := ⟨8, c40, [.tmp 2], 0⟩

/-- slices.ContainsFunc[[]blindstamp/api.Run,blindstamp/api.Run] -/
def c41 : ACode :=
  (.seq (.region [⟨some 4, .mov (.const (.bool false)), none, []⟩] false)
  (.seq (.region [⟨some 5, .mov (.tmp 0), none, [1]⟩,
    ⟨some 6, .mov (.tmp 1), none, [0]⟩,
    ⟨some 7, .call (.func 74) [(.tmp 5), (.tmp 6)], none, []⟩,
    ⟨some 8, .pur (mkO (.binOp .geq 3 (.tmp 7) (.const (.int .i64 0)) 3) 4), none, []⟩,
    ⟨some 4, .mov (.tmp 8), none, []⟩] false)
  .ret))
def a41 : AFunc := ⟨9, c41, [.tmp 4], 1⟩

/-- blindstamp/tree.Check$1 -/
def c42 : ACode :=
  (.seq (.region [⟨some 1, .box 60 (.tmp 0), none, [1]⟩,
    ⟨some 2, .mov (.const (.bool false)), none, [0]⟩] false)
  (.seq (.region [⟨some 3, .load 10 true (.tmp 1), none, []⟩,
    ⟨some 4, .call (.func 32) [(.tmp 3)], none, []⟩,
    ⟨some 5, .pur (mkO (.binOp .neq 37 (.tmp 4) (.const (.int .i64 0)) 37) 4), none, []⟩,
    ⟨some 2, .mov (.tmp 5), none, []⟩] false)
  .ret))
def a42 : AFunc := ⟨6, c42, [.tmp 2], 1⟩

/-- blindstamp/tree.ordered -/
def c43 : ACode :=
  (.seq (.region [⟨some 2, .alloc 4 (.bool false), none, []⟩] false)
  (.seq (.region [⟨some 3, .alloc 48 (.slice none 0 0), none, []⟩] false)
  (.seq (.region [⟨some 9, .mkmap, none, [1]⟩,
    ⟨some 4, .alloc 120 (.map none), none, [0]⟩,
    ⟨none, .store 1 (.tmp 4) (.tmp 9), none, []⟩] false)
  (.seq (.seq (.region [⟨some 10, .mov (.tmp 0), none, []⟩,
    ⟨some 11, .call (.func 23) [(.tmp 10)], none, []⟩] false)
  (.block 0 (.rangeFunc (.tmp 11) [12, 13] (.seq (.region [⟨some 5, .alloc 29 (.agg #[(.int .u8 0), (.int .u32 0), (.int .u8 0), (.int .i64 0)]), none, []⟩,
        ⟨none, .store 4 (.tmp 5) (.tmp 12), none, []⟩] false)
      (.region [⟨some 6, .alloc 29 (.agg #[(.int .u8 0), (.int .u32 0), (.int .u8 0), (.int .i64 0)]), none, []⟩,
        ⟨none, .store 4 (.tmp 6) (.tmp 13), none, []⟩] false)) (.block 1 (.scope (.seq (.region [⟨some 7, .alloc 29 (.agg #[(.int .u8 0), (.int .u32 0), (.int .u8 0), (.int .i64 0)]), none, []⟩] false)
        (.seq .label
        (.seq (.block 2 (.loop (.seq (.seq (.region [⟨some 14, .load 1 false (.tmp 3), none, []⟩,
              ⟨some 15, .len (.tmp 14), none, []⟩,
              ⟨some 16, .pur (mkO (.binOp .gtr 3 (.tmp 15) (.const (.int .i64 0)) 3) 4), none, []⟩] false)
            (.cond (.tmp 16)
              .skip
              (.exit 2)))
            (.block 3 (.seq (.region [⟨some 17, .load 1 false (.tmp 3), none, [1, 2, 3, 6]⟩,
                ⟨some 18, .load 1 false (.tmp 3), none, [0, 6]⟩,
                ⟨some 19, .len (.tmp 18), none, [0, 6]⟩,
                ⟨some 20, .pur (mkO (.binOp .sub 3 (.tmp 19) (.const (.int .i64 1)) 3) 3), none, [0, 6]⟩,
                ⟨some 21, .iad 4 (.tmp 17) (.tmp 20), none, [6]⟩,
                ⟨some 22, .load 4 true (.tmp 21), none, [6]⟩,
                ⟨some 8, .alloc 29 (.agg #[(.int .u8 0), (.int .u32 0), (.int .u8 0), (.int .i64 0)]), none, [0, 1, 2, 3, 4, 5]⟩,
                ⟨none, .store 4 (.tmp 8) (.tmp 22), none, []⟩] false)
              (.seq (.seq (.region [⟨some 23, .load 4 true (.tmp 8), none, [1]⟩,
                ⟨some 24, .load 4 true (.tmp 6), none, [0]⟩,
                ⟨some 25, .pur (mkO (.binOp .eql 29 (.tmp 23) (.tmp 24) 29) 4), none, []⟩] false)
              (.cond (.tmp 25)
                (.exit 2)
                .skip))
              (.region [⟨some 26, .load 4 true (.tmp 8), none, [1, 2, 3, 4, 5]⟩,
                ⟨some 27, .load 1 false (.tmp 3), none, [0, 2, 3, 4, 6]⟩,
                ⟨some 28, .load 1 false (.tmp 3), none, [0, 1, 6]⟩,
                ⟨some 29, .len (.tmp 28), none, [0, 1, 6]⟩,
                ⟨some 30, .pur (mkO (.binOp .sub 3 (.tmp 29) (.const (.int .i64 1)) 3) 3), none, [0, 1, 6]⟩,
                ⟨some 31, .slc 4 (.tmp 27) none (some (.tmp 30)) none, none, [0, 6]⟩,
                ⟨none, .store 4 (.tmp 7) (.tmp 26), none, [1, 2, 3, 4, 5]⟩,
                ⟨none, .store 1 (.tmp 3) (.tmp 31), none, []⟩] true)))))))
        (.seq (.seq (.region [⟨some 32, .load 1 false (.tmp 3), none, []⟩,
          ⟨some 33, .len (.tmp 32), none, []⟩,
          ⟨some 34, .pur (mkO (.binOp .eql 3 (.tmp 33) (.const (.int .i64 0)) 3) 4), none, []⟩,
          ⟨some 35, .mov (.tmp 34), none, []⟩,
          ⟨some 36, .load 4 true (.tmp 6), some (35, true), [5]⟩,
          ⟨some 37, .build (.agg #[(.int .u8 0), (.int .u32 0), (.int .u8 0), (.int .i64 0)]) [], some (35, true), [4]⟩,
          ⟨some 38, .pur (mkO (.binOp .neq 29 (.tmp 36) (.tmp 37) 29) 4), some (35, true), []⟩,
          ⟨some 39, .pick (.tmp 35) (.tmp 38) (.const (.bool false)), none, []⟩,
          ⟨some 40, .mov (.tmp 39), none, []⟩,
          ⟨some 41, .load 4 true (.tmp 7), some (40, false), [10]⟩,
          ⟨some 42, .build (.agg #[(.int .u8 0), (.int .u32 0), (.int .u8 0), (.int .i64 0)]) [], some (40, false), [9]⟩,
          ⟨some 43, .pur (mkO (.binOp .neq 29 (.tmp 41) (.tmp 42) 29) 4), some (40, false), []⟩,
          ⟨some 44, .mov (.tmp 43), some (40, false), []⟩,
          ⟨some 45, .load 4 true (.tmp 5), some (44, true), [14]⟩,
          ⟨some 46, .load 4 true (.tmp 7), some (44, true), [13]⟩,
          ⟨some 47, .call (.func 37) [(.tmp 45), (.tmp 46)], some (44, true), []⟩,
          ⟨some 48, .pur (mkO (.unOp .not 4 (.tmp 47)) 4), some (44, true), []⟩,
          ⟨some 49, .pick (.tmp 44) (.tmp 48) (.const (.bool false)), some (40, false), []⟩,
          ⟨some 50, .pick (.tmp 40) (.const (.bool true)) (.tmp 49), none, []⟩,
          ⟨some 51, .mov (.tmp 50), none, []⟩,
          ⟨some 52, .load 1 false (.tmp 4), some (51, false), [21]⟩,
          ⟨some 53, .load 4 true (.tmp 5), some (51, false), [20]⟩,
          ⟨some 54, .lookup 29 (.int .i64 0) (.tmp 52) (.tmp 53) false, some (51, false), []⟩,
          ⟨some 55, .pur (mkO (.binOp .gtr 3 (.tmp 54) (.const (.int .i64 0)) 3) 4), some (51, false), []⟩,
          ⟨some 56, .pick (.tmp 51) (.const (.bool true)) (.tmp 55), none, []⟩] false)
        (.cond (.tmp 56)
          (.seq (.region [⟨none, .store 1 (.tmp 2) (.const (.bool false)), none, []⟩] false)
          .ret)
          .skip))
        (.seq (.region [⟨some 57, .load 1 false (.tmp 4), none, [1]⟩,
          ⟨some 58, .load 4 true (.tmp 5), none, [0]⟩,
          ⟨none, .mupd 29 (.tmp 57) (.tmp 58) (.const (.int .i64 1)), none, []⟩] false)
        (.region [⟨some 59, .load 1 false (.tmp 3), none, [1, 2]⟩,
          ⟨some 60, .load 4 true (.tmp 5), none, [0]⟩,
          ⟨some 61, .bsl 29 4 (.agg #[(.int .u8 0), (.int .u32 0), (.int .u8 0), (.int .i64 0)]) 1 [(0, 4, (.tmp 60))], none, [0]⟩,
          ⟨some 62, .app 29 4 24 (.agg #[(.int .u8 0), (.int .u32 0), (.int .u8 0), (.int .i64 0)]) (.tmp 59) (.tmp 61), none, []⟩,
          ⟨none, .store 1 (.tmp 3) (.tmp 62), none, []⟩] false)))))))))))
  (.seq (.region [⟨none, .store 1 (.tmp 2) (.const (.bool true)), none, []⟩] false)
  .ret)))))
def a43 : AFunc := ⟨63, c43, [.cell 2 1 false], 1⟩

/-- blindstamp/tree.Same -/
def c44 : ACode :=
  (.seq (.region [⟨some 4, .mov (.const (.bool false)), none, []⟩] false)
  (.seq (.region [⟨some 5, .mov (.tmp 0), none, [1]⟩,
    ⟨some 6, .mov (.tmp 1), none, [0]⟩,
    ⟨some 7, .call (.func 75) [(.tmp 5), (.tmp 6), (.func 76)], none, []⟩,
    ⟨some 4, .mov (.tmp 7), none, []⟩] false)
  .ret))
def a44 : AFunc := ⟨8, c44, [.tmp 4], 1⟩

/-- blindstamp/tree.elements$1 -/
def c45 : ACode :=
  (.seq (.region [⟨some 10, .load 1 false (.tmp 1), none, [2]⟩,
    ⟨some 11, .len (.tmp 10), none, [2]⟩,
    ⟨some 12, .mov (.const (.int .i64 0)), none, [0, 1]⟩] false)
  (.block 0 (.loop (.seq (.region [⟨some 13, .pur (mkO (.binOp .lss 3 (.tmp 12) (.tmp 11) 3) 0), none, []⟩] false)
      (.seq (.cond (.tmp 13)
        .skip
        (.exit 0))
      (.seq (.block 1 (.seq (.region [⟨some 14, .iad 10 (.tmp 10) (.tmp 12), none, [2]⟩,
          ⟨some 15, .load 10 true (.tmp 14), none, [2]⟩,
          ⟨some 4, .alloc 60 (.agg #[(.int .u8 0), (.int .u32 0), (.int .u8 0), (.int .i64 0), (.int .i64 0), (.int .u8 0), (.int .u32 0), (.int .u8 0), (.int .i64 0), (.slice none 0 0)]), none, [0, 1]⟩,
          ⟨none, .store 10 (.tmp 4) (.tmp 15), none, []⟩] false)
        (.seq (.region [⟨some 16, .fad 0 (.tmp 4), none, [3]⟩,
          ⟨some 17, .fad 4 (.tmp 16), none, [3]⟩,
          ⟨some 18, .load 1 false (.tmp 17), none, [3]⟩,
          ⟨some 19, .mov (.const (.int .i64 0)), none, [0, 1, 2]⟩] false)
        (.block 2 (.loop (.seq (.region [⟨some 20, .pur (mkO (.binOp .lss 3 (.tmp 19) (.tmp 18) 3) 4), none, []⟩] false)
            (.seq (.cond (.tmp 20)
              .skip
              (.exit 2))
            (.seq (.block 3 (.seq (.region [⟨some 21, .mov (.tmp 19), none, []⟩,
                ⟨some 5, .mov (.tmp 21), none, []⟩] false)
              (.seq (.region [⟨some 23, .load 10 true (.tmp 4), none, [1, 8, 9]⟩,
                ⟨some 24, .mov (.tmp 5), none, [0, 8, 9]⟩,
                ⟨some 25, .call (.func 46) [(.tmp 23), (.tmp 24)], none, [8, 9]⟩,
                ⟨some 22, .mov (.tmp 25), none, [8, 9]⟩,
                ⟨some 26, .ext (.tmp 22) 0, none, [5, 6, 7, 8, 9]⟩,
                ⟨some 27, .ext (.tmp 22) 1, none, [4, 6, 7, 8, 9, 10]⟩,
                ⟨some 28, .ext (.tmp 22) 2, none, [4, 5, 7, 8, 9, 10, 11]⟩,
                ⟨some 29, .ext (.tmp 22) 3, none, [4, 5, 6, 8, 9, 10, 11, 12]⟩,
                ⟨some 6, .alloc 29 (.agg #[(.int .u8 0), (.int .u32 0), (.int .u8 0), (.int .i64 0)]), none, [0, 1, 2, 3, 4, 5, 6, 7, 9]⟩,
                ⟨some 7, .alloc 29 (.agg #[(.int .u8 0), (.int .u32 0), (.int .u8 0), (.int .i64 0)]), none, [0, 1, 2, 3, 4, 5, 6, 7, 8]⟩,
                ⟨none, .store 4 (.tmp 6) (.tmp 26), none, [5, 6, 7]⟩,
                ⟨none, .store 4 (.tmp 7) (.tmp 27), none, [6, 7]⟩,
                ⟨some 8, .mov (.tmp 28), none, [7]⟩,
                ⟨some 9, .mov (.tmp 29), none, []⟩] false)
              (.seq (.region [⟨some 30, .mov (.tmp 0), none, [1, 2]⟩,
                ⟨some 31, .load 4 true (.tmp 6), none, [0, 2]⟩,
                ⟨some 32, .load 4 true (.tmp 7), none, [0, 1]⟩,
                ⟨some 33, .call (.tmp 30) [(.tmp 31), (.tmp 32)], none, []⟩,
                ⟨some 34, .pur (mkO (.unOp .not 4 (.tmp 33)) 4), none, []⟩] false)
              (.cond (.tmp 34)
                .ret
                .skip)))))
            (.region [⟨some 35, .pur (mkO (.binOp .add 3 (.tmp 19) (.const (.int .i64 1)) 3) 3), none, []⟩,
              ⟨some 19, .mov (.tmp 35), none, []⟩] false)))))))))
      (.region [⟨some 36, .pur (mkO (.binOp .add 3 (.tmp 12) (.const (.int .i64 1)) 3) 3), none, []⟩,
        ⟨some 12, .mov (.tmp 36), none, []⟩] false)))))))
def a45 : AFunc := ⟨37, c45, [], 0⟩

/-- blindstamp/run.At -/
def c46 : ACode :=
  (.seq (.region [⟨some 2, .box 60 (.tmp 0), none, [1, 2, 3, 4]⟩,
    ⟨some 4, .alloc 29 (.agg #[(.int .u8 0), (.int .u32 0), (.int .u8 0), (.int .i64 0)]), none, [0, 2, 3, 4]⟩,
    ⟨some 5, .alloc 29 (.agg #[(.int .u8 0), (.int .u32 0), (.int .u8 0), (.int .i64 0)]), none, [0, 1, 3, 4]⟩,
    ⟨some 6, .mov (.const (.int .i32 0)), none, [0, 1, 2]⟩,
    ⟨some 7, .mov (.const (.int .i64 0)), none, [0, 1, 2]⟩] false)
  (.seq (.seq (.region [⟨some 9, .load 10 true (.tmp 2), none, []⟩,
    ⟨some 10, .call (.func 32) [(.tmp 9)], none, []⟩,
    ⟨some 8, .mov (.tmp 10), none, []⟩] false)
  (.seq (.region [⟨some 11, .mov (.tmp 8), none, []⟩,
    ⟨some 12, .pur (mkO (.binOp .neq 37 (.tmp 11) (.const (.int .i64 0)) 37) 4), none, []⟩] false)
  (.cond (.tmp 12)
    (.seq (.region [⟨some 13, .load 4 true (.tmp 4), none, [1, 2]⟩,
      ⟨some 14, .load 4 true (.tmp 5), none, [0, 2, 3]⟩,
      ⟨some 15, .mov (.tmp 8), none, [0, 1, 3, 4, 5]⟩,
      ⟨none, .store 4 (.tmp 4) (.tmp 13), none, [1, 2]⟩,
      ⟨none, .store 4 (.tmp 5) (.tmp 14), none, [2]⟩,
      ⟨some 6, .mov (.const (.int .i32 0)), none, [2]⟩,
      ⟨some 7, .mov (.tmp 15), none, []⟩] true)
    .ret)
    .skip)))
  (.seq (.seq (.region [⟨some 17, .fad 0 (.tmp 2), none, [2]⟩,
    ⟨some 18, .load 5 true (.tmp 17), none, [2]⟩,
    ⟨some 19, .mov (.tmp 1), none, [0, 1]⟩,
    ⟨some 20, .call (.func 34) [(.tmp 18), (.tmp 19)], none, []⟩,
    ⟨some 16, .mov (.tmp 20), none, []⟩,
    ⟨some 21, .ext (.tmp 16) 0, none, [6]⟩,
    ⟨some 22, .ext (.tmp 16) 1, none, [5, 7]⟩,
    ⟨none, .store 4 (.tmp 4) (.tmp 21), none, [6]⟩,
    ⟨some 7, .mov (.tmp 22), none, []⟩] false)
  (.seq (.region [⟨some 23, .mov (.tmp 7), none, []⟩,
    ⟨some 24, .pur (mkO (.binOp .neq 37 (.tmp 23) (.const (.int .i64 0)) 37) 4), none, []⟩] false)
  (.cond (.tmp 24)
    (.seq (.region [⟨some 25, .load 4 true (.tmp 4), none, [1, 2]⟩,
      ⟨some 26, .load 4 true (.tmp 5), none, [0, 2, 3]⟩,
      ⟨some 27, .mov (.tmp 7), none, [0, 1, 3, 4, 5]⟩,
      ⟨none, .store 4 (.tmp 4) (.tmp 25), none, [1, 2]⟩,
      ⟨none, .store 4 (.tmp 5) (.tmp 26), none, [2]⟩,
      ⟨some 6, .mov (.const (.int .i32 0)), none, [2]⟩,
      ⟨some 7, .mov (.tmp 27), none, []⟩] true)
    .ret)
    .skip)))
  (.seq (.region [⟨some 28, .fad 5 (.tmp 2), none, []⟩,
    ⟨some 29, .load 4 true (.tmp 28), none, []⟩,
    ⟨none, .store 4 (.tmp 5) (.tmp 29), none, []⟩] false)
  (.seq (.seq (.region [⟨some 30, .mov (.tmp 1), none, []⟩,
    ⟨some 31, .pur (mkO (.binOp .gtr 3 (.tmp 30) (.const (.int .i64 0)) 3) 4), none, []⟩] false)
  (.cond (.tmp 31)
    (.region [⟨some 33, .fad 0 (.tmp 2), none, [2, 3]⟩,
      ⟨some 34, .load 5 true (.tmp 33), none, [2, 3]⟩,
      ⟨some 35, .mov (.tmp 1), none, [0, 1]⟩,
      ⟨some 36, .pur (mkO (.binOp .sub 3 (.tmp 35) (.const (.int .i64 1)) 3) 3), none, [0, 1]⟩,
      ⟨some 37, .call (.func 34) [(.tmp 34), (.tmp 36)], none, []⟩,
      ⟨some 32, .mov (.tmp 37), none, []⟩,
      ⟨some 38, .ext (.tmp 32) 0, none, [7]⟩,
      ⟨some 39, .ext (.tmp 32) 1, none, [6, 8]⟩,
      ⟨none, .store 4 (.tmp 5) (.tmp 38), none, [7]⟩,
      ⟨some 7, .mov (.tmp 39), none, []⟩] false)
    .skip))
  (.seq (.region [⟨some 40, .load 4 true (.tmp 4), none, [1, 2, 3, 4, 5, 6, 7]⟩,
    ⟨some 41, .load 4 true (.tmp 5), none, [0, 2, 3, 4, 5, 6, 7, 8]⟩,
    ⟨some 42, .fad 9 (.tmp 2), none, [0, 1, 4, 7, 8, 9]⟩,
    ⟨some 43, .load 1 false (.tmp 42), none, [0, 1, 4, 7, 8, 9]⟩,
    ⟨some 44, .mov (.tmp 1), none, [0, 1, 2, 3, 7, 8, 9]⟩,
    ⟨some 45, .iad 1 (.tmp 43) (.tmp 44), none, [0, 1, 7, 8, 9]⟩,
    ⟨some 46, .load 1 false (.tmp 45), none, [0, 1, 7, 8, 9]⟩,
    ⟨some 47, .mov (.tmp 7), none, [0, 1, 2, 3, 4, 5, 6, 8, 9, 10]⟩,
    ⟨none, .store 4 (.tmp 4) (.tmp 40), none, [1, 2, 3, 4, 5, 6, 7]⟩,
    ⟨none, .store 4 (.tmp 5) (.tmp 41), none, [2, 3, 4, 5, 6, 7]⟩,
    ⟨some 6, .mov (.tmp 46), none, [7]⟩,
    ⟨some 7, .mov (.tmp 47), none, []⟩] true)
  .ret))))))
def a46 : AFunc := ⟨48, c46, [.cell 4 4 true, .cell 5 4 true, .tmp 6, .tmp 7], 1⟩

/-- blindstamp/ids.right -/
def c47 : ACode :=
  (.seq (.region [⟨some 2, .mov (.const (.int .i64 0)), none, []⟩] false)
  (.seq (.seq (.region [⟨some 3, .mov (.tmp 0), none, []⟩] false)
  (.cond (.tmp 3)
    (.seq (.region [⟨some 2, .mov (.const (.int .i64 0)), none, []⟩] false)
    .ret)
    .skip))
  (.seq (.region [⟨some 2, .mov (.const (.int .i64 8)), none, []⟩] false)
  .ret)))
def a47 : AFunc := ⟨4, c47, [.tmp 2], 1⟩

/-- blindstamp/ids.Check -/
def c48 : ACode :=
  (.seq (.region [⟨some 1, .box 29 (.tmp 0), none, [1]⟩,
    ⟨some 2, .mov (.const (.int .i64 0)), none, [0]⟩] false)
  (.seq (.region [⟨some 3, .fad 0 (.tmp 1), none, []⟩,
    ⟨some 4, .load 3 true (.tmp 3), none, []⟩,
    ⟨some 5, .call (.func 26) [(.tmp 4)], none, []⟩,
    ⟨some 6, .pur (mkO (.binOp .eql 37 (.tmp 5) (.const (.int .i64 0)) 37) 4), none, []⟩,
    ⟨some 7, .mov (.tmp 6), none, []⟩,
    ⟨some 8, .fad 3 (.tmp 1), some (7, true), []⟩,
    ⟨some 9, .load 1 false (.tmp 8), some (7, true), []⟩,
    ⟨some 10, .pur (mkO (.binOp .geq 3 (.tmp 9) (.const (.int .i64 1)) 3) 4), some (7, true), []⟩,
    ⟨some 11, .pick (.tmp 7) (.tmp 10) (.const (.bool false)), none, []⟩,
    ⟨some 12, .mov (.tmp 11), none, []⟩,
    ⟨some 13, .fad 3 (.tmp 1), some (12, true), []⟩,
    ⟨some 14, .load 1 false (.tmp 13), some (12, true), []⟩,
    ⟨some 15, .pur (mkO (.binOp .leq 3 (.tmp 14) (.const (.int .i64 1099511627776)) 3) 4), some (12, true), []⟩,
    ⟨some 16, .pick (.tmp 12) (.tmp 15) (.const (.bool false)), none, []⟩,
    ⟨some 17, .call (.func 47) [(.tmp 16)], none, []⟩,
    ⟨some 2, .mov (.tmp 17), none, []⟩] false)
  .ret))
def a48 : AFunc := ⟨18, c48, [.tmp 2], 1⟩

/-- blindstamp/op.parts$1 -/
def c49 : ACode :=
  (.seq (.region [⟨some 1, .box 34 (.tmp 0), none, [1]⟩,
    ⟨some 2, .mov (.const (.bool false)), none, [0]⟩] false)
  (.seq (.region [⟨some 3, .fad 10 (.tmp 1), none, [2]⟩,
    ⟨some 4, .load 4 true (.tmp 3), none, [2]⟩,
    ⟨some 5, .build (.agg #[(.int .u8 0), (.int .u32 0), (.int .u8 0), (.int .i64 0)]) [], none, [0, 1]⟩,
    ⟨some 6, .pur (mkO (.binOp .eql 29 (.tmp 4) (.tmp 5) 29) 4), none, []⟩,
    ⟨some 7, .mov (.tmp 6), none, []⟩,
    ⟨some 8, .fad 16 (.tmp 1), some (7, true), []⟩,
    ⟨some 9, .load 1 false (.tmp 8), some (7, true), []⟩,
    ⟨some 10, .len (.tmp 9), some (7, true), []⟩,
    ⟨some 11, .pur (mkO (.binOp .eql 3 (.tmp 10) (.const (.int .i64 0)) 3) 4), some (7, true), []⟩,
    ⟨some 12, .pick (.tmp 7) (.tmp 11) (.const (.bool false)), none, []⟩,
    ⟨some 2, .mov (.tmp 12), none, []⟩] false)
  .ret))
def a49 : AFunc := ⟨13, c49, [.tmp 2], 0⟩

/-- blindstamp/op.parts$2 -/
def c50 : ACode :=
  (.seq (.region [⟨some 1, .box 34 (.tmp 0), none, [1]⟩,
    ⟨some 2, .mov (.const (.bool false)), none, [0]⟩] false)
  (.seq (.region [⟨some 3, .fad 14 (.tmp 1), none, [2]⟩,
    ⟨some 4, .load 2 true (.tmp 3), none, [2]⟩,
    ⟨some 5, .call (.func 51) [], none, [0, 1]⟩,
    ⟨some 6, .pur (mkO (.binOp .eql 25 (.tmp 4) (.tmp 5) 25) 4), none, []⟩,
    ⟨some 2, .mov (.tmp 6), none, []⟩] true)
  .ret))
def a50 : AFunc := ⟨7, c50, [.tmp 2], 0⟩

/-- blindstamp/label.Least -/
def c51 : ACode :=
  (.seq (.region [⟨some 0, .alloc 25 (.agg #[(.int .u8 0), (.int .u32 0)]), none, []⟩] false)
  (.seq (.region [⟨some 1, .build (.agg #[(.int .u8 0), (.int .u32 0)]) [], none, []⟩,
    ⟨none, .store 2 (.tmp 0) (.tmp 1), none, []⟩] false)
  .ret))
def a51 : AFunc := ⟨2, c51, [.cell 0 2 true], 1⟩

/-- blindstamp/op.parts$3 -/
def c52 : ACode :=
  (.seq (.region [⟨some 2, .box 34 (.tmp 0), none, [1]⟩,
    ⟨some 3, .mov (.const (.bool false)), none, [0]⟩] false)
  (.seq (.region [⟨some 5, .fad 10 (.tmp 2), none, [2]⟩,
    ⟨some 6, .load 4 true (.tmp 5), none, [2]⟩,
    ⟨some 7, .build (.agg #[(.int .u8 0), (.int .u32 0), (.int .u8 0), (.int .i64 0)]) [], none, [0, 1]⟩,
    ⟨some 8, .pur (mkO (.binOp .eql 29 (.tmp 6) (.tmp 7) 29) 4), none, []⟩,
    ⟨some 9, .mov (.tmp 8), none, []⟩,
    ⟨some 10, .fad 10 (.tmp 2), some (9, false), []⟩,
    ⟨some 11, .load 4 true (.tmp 10), some (9, false), []⟩,
    ⟨some 12, .call (.func 48) [(.tmp 11)], some (9, false), []⟩,
    ⟨some 13, .pur (mkO (.binOp .eql 37 (.tmp 12) (.const (.int .i64 0)) 37) 4), some (9, false), []⟩,
    ⟨some 14, .pick (.tmp 9) (.const (.bool true)) (.tmp 13), none, []⟩,
    ⟨some 4, .mov (.tmp 14), none, []⟩] false)
  (.seq (.region [⟨some 15, .load 1 false (.tmp 1), none, [1]⟩,
    ⟨some 16, .load 17 true (.tmp 2), none, [0]⟩,
    ⟨some 17, .call (.tmp 15) [(.tmp 16)], none, []⟩,
    ⟨some 18, .mov (.tmp 17), none, []⟩,
    ⟨some 19, .mov (.tmp 4), some (18, true), []⟩,
    ⟨some 20, .pick (.tmp 18) (.tmp 19) (.const (.bool false)), none, []⟩,
    ⟨some 21, .mov (.tmp 20), none, []⟩,
    ⟨some 22, .fad 5 (.tmp 2), some (21, true), [11, 12]⟩,
    ⟨some 23, .fad 0 (.tmp 22), some (21, true), [11, 12]⟩,
    ⟨some 24, .fad 0 (.tmp 23), some (21, true), [11, 12]⟩,
    ⟨some 25, .load 3 true (.tmp 24), some (21, true), [11, 12]⟩,
    ⟨some 26, .fad 1 (.tmp 2), some (21, true), [7, 8, 9, 10]⟩,
    ⟨some 27, .load 3 true (.tmp 26), some (21, true), [7, 8, 9, 10]⟩,
    ⟨some 28, .pur (mkO (.binOp .eql 27 (.tmp 25) (.tmp 27) 27) 4), some (21, true), []⟩,
    ⟨some 29, .pick (.tmp 21) (.tmp 28) (.const (.bool false)), none, []⟩,
    ⟨some 30, .mov (.tmp 29), none, []⟩,
    ⟨some 31, .fad 16 (.tmp 2), some (30, true), [19, 20, 21]⟩,
    ⟨some 32, .load 1 false (.tmp 31), some (30, true), [19, 20, 21]⟩,
    ⟨some 33, .len (.tmp 32), some (30, true), [19, 20, 21]⟩,
    ⟨some 34, .fad 5 (.tmp 2), some (30, true), [16, 17, 18]⟩,
    ⟨some 35, .fad 4 (.tmp 34), some (30, true), [16, 17, 18]⟩,
    ⟨some 36, .load 1 false (.tmp 35), some (30, true), [16, 17, 18]⟩,
    ⟨some 37, .pur (mkO (.binOp .eql 3 (.tmp 33) (.tmp 36) 3) 4), some (30, true), []⟩,
    ⟨some 38, .pick (.tmp 30) (.tmp 37) (.const (.bool false)), none, []⟩,
    ⟨some 39, .mov (.tmp 38), none, []⟩,
    ⟨some 40, .fad 16 (.tmp 2), some (39, true), []⟩,
    ⟨some 41, .load 1 false (.tmp 40), some (39, true), []⟩,
    ⟨some 42, .call (.func 53) [(.tmp 41)], some (39, true), []⟩,
    ⟨some 43, .pur (mkO (.binOp .eql 37 (.tmp 42) (.const (.int .i64 0)) 37) 4), some (39, true), []⟩,
    ⟨some 44, .pick (.tmp 39) (.tmp 43) (.const (.bool false)), none, []⟩,
    ⟨some 3, .mov (.tmp 44), none, []⟩] false)
  .ret)))
def a52 : AFunc := ⟨45, c52, [.tmp 3], 0⟩

/-- blindstamp/runes.Check -/
def c53 : ACode :=
  (.seq (.region [⟨some 2, .mov (.const (.int .i64 0)), none, []⟩] false)
  (.seq (.region [⟨some 3, .mov (.func 77), none, []⟩] false)
  (.seq (.block 0 (.seq (.region [⟨some 5, .mov (.tmp 0), none, []⟩,
      ⟨some 6, .len (.tmp 5), none, []⟩,
      ⟨some 7, .pur (mkO (.binOp .gtr 3 (.tmp 6) (.const (.int .i64 64)) 3) 4), none, []⟩,
      ⟨some 4, .mov (.tmp 7), none, []⟩] false)
    (.cond (.tmp 4)
      (.seq (.region [⟨some 2, .mov (.const (.int .i64 4)), none, []⟩] false)
      .ret)
      (.seq (.region [⟨some 9, .mov (.tmp 0), none, [1]⟩,
        ⟨some 10, .mov (.tmp 3), none, [0]⟩,
        ⟨some 11, .call (.func 79) [(.tmp 9), (.tmp 10)], none, []⟩,
        ⟨some 8, .mov (.tmp 11), none, []⟩] false)
      (.cond (.tmp 8)
        (.seq (.region [⟨some 2, .mov (.const (.int .i64 8)), none, []⟩] false)
        .ret)
        .skip)))))
  (.seq (.region [⟨some 2, .mov (.const (.int .i64 0)), none, []⟩] false)
  .ret))))
def a53 : AFunc := ⟨12, c53, [.tmp 2], 1⟩

/-- blindstamp/op.parts$4 -/
def c54 : ACode :=
  (.seq (.region [⟨some 2, .mov (.const (.int .i64 0)), none, []⟩] false)
  (.seq (.region [⟨some 3, .mov (.tmp 0), none, []⟩,
    ⟨some 4, .pur (mkO (.binOp .mul 3 (.const (.int .i64 4)) (.tmp 3) 3) 3), none, []⟩,
    ⟨some 5, .pur (mkO (.binOp .add 3 (.const (.int .i64 13)) (.tmp 4) 3) 3), none, []⟩,
    ⟨some 2, .mov (.tmp 5), none, []⟩] false)
  .ret))
def a54 : AFunc := ⟨6, c54, [.tmp 2], 0⟩

/-- blindstamp/op.parts$5 -/
def c55 : ACode :=
  (.seq (.region [⟨some 3, .box 34 (.tmp 0), none, [1]⟩,
    ⟨some 4, .mov (.const (.bool false)), none, [0]⟩] false)
  (.seq (.region [⟨some 5, .load 1 false (.tmp 1), none, [1]⟩,
    ⟨some 6, .load 17 true (.tmp 3), none, [0]⟩,
    ⟨some 7, .call (.tmp 5) [(.tmp 6)], none, []⟩,
    ⟨some 8, .mov (.tmp 7), none, []⟩,
    ⟨some 9, .load 1 false (.tmp 2), some (8, true), [5]⟩,
    ⟨some 10, .load 17 true (.tmp 3), some (8, true), [4]⟩,
    ⟨some 11, .call (.tmp 9) [(.tmp 10)], some (8, true), []⟩,
    ⟨some 12, .pick (.tmp 8) (.tmp 11) (.const (.bool false)), none, []⟩,
    ⟨some 4, .mov (.tmp 12), none, []⟩] false)
  .ret))
def a55 : AFunc := ⟨13, c55, [.tmp 4], 0⟩

/-- blindstamp/op.parts$6 -/
def c56 : ACode :=
  (.seq (.region [⟨some 2, .mov (.const (.int .i64 0)), none, []⟩] false)
  (.seq (.region [⟨some 2, .mov (.const (.int .i64 0)), none, []⟩] false)
  .ret))
def a56 : AFunc := ⟨3, c56, [.tmp 2], 0⟩

/-- blindstamp/op.parts$7 -/
def c57 : ACode :=
  (.seq (.region [⟨some 2, .box 34 (.tmp 0), none, [1]⟩,
    ⟨some 3, .mov (.const (.bool false)), none, [0]⟩] false)
  (.seq (.region [⟨some 4, .load 1 false (.tmp 1), none, [1]⟩,
    ⟨some 5, .load 17 true (.tmp 2), none, [0]⟩,
    ⟨some 6, .call (.tmp 4) [(.tmp 5)], none, []⟩,
    ⟨some 7, .mov (.tmp 6), none, []⟩,
    ⟨some 8, .fad 14 (.tmp 2), some (7, true), []⟩,
    ⟨some 9, .load 2 true (.tmp 8), some (7, true), []⟩,
    ⟨some 10, .call (.func 15) [(.tmp 9)], some (7, true), []⟩,
    ⟨some 11, .pur (mkO (.binOp .eql 37 (.tmp 10) (.const (.int .i64 0)) 37) 4), some (7, true), []⟩,
    ⟨some 12, .pick (.tmp 7) (.tmp 11) (.const (.bool false)), none, []⟩,
    ⟨some 3, .mov (.tmp 12), none, []⟩] false)
  .ret))
def a57 : AFunc := ⟨13, c57, [.tmp 3], 0⟩

/-- blindstamp/op.parts$8 -/
def c58 : ACode :=
  (.seq (.region [⟨some 2, .mov (.const (.int .i64 0)), none, []⟩] false)
  (.seq (.region [⟨some 2, .mov (.const (.int .i64 5)), none, []⟩] false)
  .ret))
def a58 : AFunc := ⟨3, c58, [.tmp 2], 0⟩

/-- (*blindstamp/doc.history).sees -/
def c59 : ACode :=
  (.seq (.region [⟨some 4, .box 34 (.tmp 1), none, [1, 2]⟩,
    ⟨some 5, .box 29 (.tmp 2), none, [0, 2]⟩,
    ⟨some 6, .mov (.const (.bool false)), none, [0, 1]⟩] false)
  (.seq (.region [⟨some 7, .mov (.tmp 0), none, [4]⟩,
    ⟨some 8, .nilck (.tmp 7), none, [4]⟩,
    ⟨some 9, .fad 1 (.tmp 8), none, [4]⟩,
    ⟨some 10, .load 1 false (.tmp 9), none, [4]⟩,
    ⟨some 11, .load 4 true (.tmp 5), none, [0, 1, 2, 3]⟩,
    ⟨some 12, .lookup 29 (.bool false) (.tmp 10) (.tmp 11) false, none, []⟩,
    ⟨some 13, .mov (.tmp 12), none, []⟩,
    ⟨some 14, .fad 0 (.tmp 5), some (13, true), [10, 11, 12]⟩,
    ⟨some 15, .fad 0 (.tmp 14), some (13, true), [10, 11, 12]⟩,
    ⟨some 16, .load 2 true (.tmp 15), some (13, true), [10, 11, 12]⟩,
    ⟨some 17, .fad 1 (.tmp 4), some (13, true), [7, 8, 9]⟩,
    ⟨some 18, .fad 0 (.tmp 17), some (13, true), [7, 8, 9]⟩,
    ⟨some 19, .load 2 true (.tmp 18), some (13, true), [7, 8, 9]⟩,
    ⟨some 20, .call (.func 8) [(.tmp 16), (.tmp 19)], some (13, true), []⟩,
    ⟨some 21, .pick (.tmp 13) (.tmp 20) (.const (.bool false)), none, []⟩,
    ⟨some 6, .mov (.tmp 21), none, []⟩] true)
  .ret))
def a59 : AFunc := ⟨22, c59, [.tmp 6], 0⟩

/-- slices.ContainsFunc[[]blindstamp/api.Id,blindstamp/api.Id] -/
def c60 : ACode :=
  (.seq (.region [⟨some 4, .mov (.const (.bool false)), none, []⟩] false)
  (.seq (.region [⟨some 5, .mov (.tmp 0), none, [1]⟩,
    ⟨some 6, .mov (.tmp 1), none, [0]⟩,
    ⟨some 7, .call (.func 80) [(.tmp 5), (.tmp 6)], none, []⟩,
    ⟨some 8, .pur (mkO (.binOp .geq 3 (.tmp 7) (.const (.int .i64 0)) 3) 4), none, []⟩,
    ⟨some 4, .mov (.tmp 8), none, []⟩] false)
  .ret))
def a60 : AFunc := ⟨9, c60, [.tmp 4], 0⟩

/-- (*blindstamp/doc.history).insert$1 -/
def c61 : ACode :=
  (.seq (.region [⟨some 2, .box 29 (.tmp 0), none, [1]⟩,
    ⟨some 3, .mov (.const (.bool false)), none, [0]⟩] false)
  (.seq (.region [⟨some 4, .load 1 false (.tmp 1), none, [4]⟩,
    ⟨some 5, .nilck (.tmp 4), none, [4]⟩,
    ⟨some 6, .fad 1 (.tmp 5), none, [4]⟩,
    ⟨some 7, .load 1 false (.tmp 6), none, [4]⟩,
    ⟨some 8, .load 4 true (.tmp 2), none, [0, 1, 2, 3]⟩,
    ⟨some 9, .lookup 29 (.bool false) (.tmp 7) (.tmp 8) false, none, []⟩,
    ⟨some 3, .mov (.tmp 9), none, []⟩] true)
  .ret))
def a61 : AFunc := ⟨10, c61, [.tmp 3], 0⟩

/-- (*blindstamp/doc.history).all -/
def c62 : ACode :=
  (.seq (.region [⟨some 2, .box 55 (.tmp 0), none, [1, 2]⟩,
    ⟨some 3, .box 34 (.tmp 1), none, [0, 2]⟩,
    ⟨some 4, .mov (.const (.bool false)), none, [0, 1]⟩] false)
  (.seq (.region [⟨some 5, .fad 5 (.tmp 3), none, [3]⟩,
    ⟨some 6, .load 5 true (.tmp 5), none, [3]⟩,
    ⟨some 7, .call (.func 25) [(.tmp 6)], none, [3]⟩,
    ⟨some 8, .mkfn 81 [] [(.tmp 2), (.tmp 3)], none, [0, 1, 2]⟩,
    ⟨some 9, .call (.func 60) [(.tmp 7), (.tmp 8)], none, []⟩,
    ⟨some 10, .pur (mkO (.unOp .not 4 (.tmp 9)) 4), none, []⟩,
    ⟨some 4, .mov (.tmp 10), none, []⟩] false)
  .ret))
def a62 : AFunc := ⟨11, c62, [.tmp 4], 0⟩

/-- blindstamp/chain.Fits -/
def c63 : ACode :=
  (.seq (.region [⟨some 3, .box 34 (.tmp 1), none, [1, 2]⟩,
    ⟨some 4, .mov (.const (.bool false)), none, [0]⟩,
    ⟨some 5, .mov (.const (.int .i64 0)), none, [0]⟩] false)
  (.seq (.seq (.region [⟨some 8, .mov (.tmp 0), none, []⟩,
    ⟨some 9, .call (.func 82) [(.tmp 8)], none, []⟩,
    ⟨some 6, .mov (.tmp 9), none, []⟩] false)
  (.seq (.region [⟨some 10, .mov (.tmp 6), none, []⟩,
    ⟨some 11, .pur (mkO (.binOp .neq 37 (.tmp 10) (.const (.int .i64 0)) 37) 4), none, []⟩] false)
  (.cond (.tmp 11)
    (.seq (.region [⟨some 12, .mov (.tmp 6), none, [1]⟩,
      ⟨some 4, .mov (.const (.bool false)), none, [0]⟩,
      ⟨some 5, .mov (.tmp 12), none, []⟩] false)
    .ret)
    .skip)))
  (.seq (.seq (.region [⟨some 13, .load 17 true (.tmp 3), none, []⟩,
    ⟨some 14, .call (.func 18) [(.tmp 13)], none, []⟩,
    ⟨some 7, .mov (.tmp 14), none, []⟩] false)
  (.seq (.region [⟨some 15, .mov (.tmp 7), none, []⟩,
    ⟨some 16, .pur (mkO (.binOp .neq 37 (.tmp 15) (.const (.int .i64 0)) 37) 4), none, []⟩] false)
  (.cond (.tmp 16)
    (.seq (.region [⟨some 17, .mov (.tmp 7), none, [1]⟩,
      ⟨some 4, .mov (.const (.bool false)), none, [0]⟩,
      ⟨some 5, .mov (.tmp 17), none, []⟩] false)
    .ret)
    .skip)))
  (.seq (.region [⟨some 18, .mov (.tmp 0), none, [1]⟩,
    ⟨some 19, .load 17 true (.tmp 3), none, [0]⟩,
    ⟨some 20, .call (.func 83) [(.tmp 18), (.tmp 19)], none, []⟩,
    ⟨some 4, .mov (.tmp 20), none, []⟩,
    ⟨some 5, .mov (.const (.int .i64 0)), none, []⟩] false)
  .ret))))
def a63 : AFunc := ⟨21, c63, [.tmp 4, .tmp 5], 0⟩

/-- blindstamp/ids.Has -/
def c64 : ACode :=
  (.seq (.region [⟨some 2, .box 31 (.tmp 0), none, [1, 2, 3]⟩,
    ⟨some 3, .box 29 (.tmp 1), none, [0, 2, 3]⟩,
    ⟨some 4, .mov (.const (.int .i64 0)), none, [0, 1]⟩,
    ⟨some 5, .mov (.const (.bool false)), none, [0, 1]⟩] false)
  (.seq (.region [⟨some 7, .fad 3 (.tmp 3), none, [2, 3, 4]⟩,
    ⟨some 8, .load 1 false (.tmp 7), none, [2, 3, 4]⟩,
    ⟨some 9, .fad 0 (.tmp 2), none, [0, 1]⟩,
    ⟨some 10, .fad 3 (.tmp 9), none, [0, 1]⟩,
    ⟨some 11, .load 1 false (.tmp 10), none, [0, 1]⟩,
    ⟨some 12, .pur (mkO (.binOp .sub 3 (.tmp 8) (.tmp 11) 3) 3), none, []⟩,
    ⟨some 6, .mov (.tmp 12), none, []⟩] false)
  (.seq (.seq (.region [⟨some 13, .load 5 true (.tmp 2), none, []⟩,
    ⟨some 14, .call (.func 27) [(.tmp 13)], none, []⟩,
    ⟨some 15, .pur (mkO (.binOp .neq 37 (.tmp 14) (.const (.int .i64 0)) 37) 4), none, []⟩,
    ⟨some 16, .mov (.tmp 15), none, []⟩,
    ⟨some 17, .mov (.tmp 6), some (16, false), []⟩,
    ⟨some 18, .pur (mkO (.binOp .lss 3 (.tmp 17) (.const (.int .i64 0)) 3) 4), some (16, false), []⟩,
    ⟨some 19, .pick (.tmp 16) (.const (.bool true)) (.tmp 18), none, []⟩,
    ⟨some 20, .mov (.tmp 19), none, []⟩,
    ⟨some 21, .mov (.tmp 6), some (20, false), [9, 10]⟩,
    ⟨some 22, .fad 4 (.tmp 2), some (20, false), [8]⟩,
    ⟨some 23, .load 1 false (.tmp 22), some (20, false), [8]⟩,
    ⟨some 24, .pur (mkO (.binOp .geq 3 (.tmp 21) (.tmp 23) 3) 4), some (20, false), []⟩,
    ⟨some 25, .pick (.tmp 20) (.const (.bool true)) (.tmp 24), none, []⟩,
    ⟨some 26, .mov (.tmp 25), none, []⟩,
    ⟨some 27, .load 4 true (.tmp 3), some (26, false), [15, 16, 17, 18]⟩,
    ⟨some 28, .fad 0 (.tmp 2), some (26, false), [14, 17]⟩,
    ⟨some 29, .load 4 true (.tmp 28), some (26, false), [14, 17]⟩,
    ⟨some 30, .mov (.tmp 6), some (26, false), [14, 15, 16]⟩,
    ⟨some 31, .call (.func 65) [(.tmp 29), (.tmp 30)], some (26, false), [14]⟩,
    ⟨some 32, .pur (mkO (.binOp .neq 29 (.tmp 27) (.tmp 31) 29) 4), some (26, false), []⟩,
    ⟨some 33, .pick (.tmp 26) (.const (.bool true)) (.tmp 32), none, []⟩] true)
  (.cond (.tmp 33)
    (.seq (.region [⟨some 4, .mov (.const (.int .i64 0)), none, []⟩,
      ⟨some 5, .mov (.const (.bool false)), none, []⟩] false)
    .ret)
    .skip))
  (.seq (.region [⟨some 34, .mov (.tmp 6), none, []⟩,
    ⟨some 4, .mov (.tmp 34), none, []⟩,
    ⟨some 5, .mov (.const (.bool true)), none, []⟩] false)
  .ret))))
def a64 : AFunc := ⟨35, c64, [.tmp 4, .tmp 5], 1⟩

/-- blindstamp/ids.next -/
def c65 : ACode :=
  (.seq (.region [⟨some 2, .box 29 (.tmp 0), none, [1]⟩,
    ⟨some 4, .alloc 29 (.agg #[(.int .u8 0), (.int .u32 0), (.int .u8 0), (.int .i64 0)]), none, [0]⟩] false)
  (.seq (.region [⟨some 5, .fad 3 (.tmp 2), none, [2]⟩,
    ⟨some 6, .load 1 false (.tmp 5), none, [2]⟩,
    ⟨some 7, .mov (.tmp 1), none, [0, 1]⟩,
    ⟨some 8, .pur (mkO (.binOp .add 3 (.tmp 6) (.tmp 7) 3) 3), none, []⟩,
    ⟨some 9, .fad 3 (.tmp 2), none, []⟩,
    ⟨none, .store 1 (.tmp 9) (.tmp 8), none, []⟩] false)
  (.seq (.region [⟨some 10, .load 4 true (.tmp 2), none, []⟩,
    ⟨none, .store 4 (.tmp 4) (.tmp 10), none, []⟩] false)
  .ret)))
def a65 : AFunc := ⟨11, c65, [.cell 4 4 true], 1⟩

/-- blindstamp/run.Cut -/
def c66 : ACode :=
  (.seq (.region [⟨some 2, .box 60 (.tmp 0), none, [1, 2, 3]⟩,
    ⟨some 4, .alloc 60 (.agg #[(.int .u8 0), (.int .u32 0), (.int .u8 0), (.int .i64 0), (.int .i64 0), (.int .u8 0), (.int .u32 0), (.int .u8 0), (.int .i64 0), (.slice none 0 0)]), none, [0, 2, 3]⟩,
    ⟨some 5, .alloc 60 (.agg #[(.int .u8 0), (.int .u32 0), (.int .u8 0), (.int .i64 0), (.int .i64 0), (.int .u8 0), (.int .u32 0), (.int .u8 0), (.int .i64 0), (.slice none 0 0)]), none, [0, 1, 3]⟩,
    ⟨some 6, .mov (.const (.int .i64 0)), none, [0, 1, 2]⟩] false)
  (.seq (.seq (.region [⟨some 11, .load 10 true (.tmp 2), none, []⟩,
    ⟨some 12, .call (.func 32) [(.tmp 11)], none, []⟩,
    ⟨some 7, .mov (.tmp 12), none, []⟩] false)
  (.seq (.region [⟨some 13, .mov (.tmp 7), none, []⟩,
    ⟨some 14, .pur (mkO (.binOp .neq 37 (.tmp 13) (.const (.int .i64 0)) 37) 4), none, []⟩] false)
  (.cond (.tmp 14)
    (.seq (.region [⟨some 15, .load 10 true (.tmp 4), none, [1, 2]⟩,
      ⟨some 16, .load 10 true (.tmp 5), none, [0, 2, 3]⟩,
      ⟨some 17, .mov (.tmp 7), none, [0, 1, 3, 4]⟩,
      ⟨none, .store 10 (.tmp 4) (.tmp 15), none, [1, 2]⟩,
      ⟨none, .store 10 (.tmp 5) (.tmp 16), none, [2]⟩,
      ⟨some 6, .mov (.tmp 17), none, []⟩] true)
    .ret)
    .skip)))
  (.seq (.region [⟨some 19, .fad 0 (.tmp 2), none, [2, 8, 9]⟩,
    ⟨some 20, .load 5 true (.tmp 19), none, [2, 8, 9]⟩,
    ⟨some 21, .mov (.tmp 1), none, [0, 1, 8, 9]⟩,
    ⟨some 22, .call (.func 84) [(.tmp 20), (.tmp 21)], none, [8, 9]⟩,
    ⟨some 18, .mov (.tmp 22), none, [8, 9]⟩,
    ⟨some 23, .ext (.tmp 18) 0, none, [6, 7, 8, 9]⟩,
    ⟨some 24, .ext (.tmp 18) 1, none, [5, 7, 8, 9, 10]⟩,
    ⟨some 25, .ext (.tmp 18) 2, none, [5, 6, 8, 9, 10, 11]⟩,
    ⟨some 8, .alloc 31 (.agg #[(.int .u8 0), (.int .u32 0), (.int .u8 0), (.int .i64 0), (.int .i64 0)]), none, [0, 1, 2, 3, 4, 5, 6, 7, 9]⟩,
    ⟨some 9, .alloc 31 (.agg #[(.int .u8 0), (.int .u32 0), (.int .u8 0), (.int .i64 0), (.int .i64 0)]), none, [0, 1, 2, 3, 4, 5, 6, 7, 8]⟩,
    ⟨none, .store 5 (.tmp 8) (.tmp 23), none, [6, 7]⟩,
    ⟨none, .store 5 (.tmp 9) (.tmp 24), none, [7]⟩,
    ⟨some 6, .mov (.tmp 25), none, []⟩] false)
  (.seq (.seq (.region [⟨some 26, .mov (.tmp 6), none, []⟩,
    ⟨some 27, .pur (mkO (.binOp .neq 37 (.tmp 26) (.const (.int .i64 0)) 37) 4), none, []⟩] false)
  (.cond (.tmp 27)
    (.seq (.region [⟨some 28, .load 10 true (.tmp 4), none, [1, 2]⟩,
      ⟨some 29, .load 10 true (.tmp 5), none, [0, 2, 3]⟩,
      ⟨some 30, .mov (.tmp 6), none, [0, 1, 3, 4]⟩,
      ⟨none, .store 10 (.tmp 4) (.tmp 28), none, [1, 2]⟩,
      ⟨none, .store 10 (.tmp 5) (.tmp 29), none, [2]⟩,
      ⟨some 6, .mov (.tmp 30), none, []⟩] true)
    .ret)
    .skip))
  (.seq (.region [⟨some 32, .load 5 true (.tmp 8), none, [1, 2, 7]⟩,
    ⟨some 33, .mov (.tmp 1), none, [0, 7]⟩,
    ⟨some 34, .pur (mkO (.binOp .sub 3 (.tmp 33) (.const (.int .i64 1)) 3) 3), none, [0, 7]⟩,
    ⟨some 35, .call (.func 34) [(.tmp 32), (.tmp 34)], none, [7]⟩,
    ⟨some 31, .mov (.tmp 35), none, [7]⟩,
    ⟨some 36, .ext (.tmp 31) 0, none, [6, 7]⟩,
    ⟨some 37, .ext (.tmp 31) 1, none, [5, 7, 8]⟩,
    ⟨some 10, .alloc 29 (.agg #[(.int .u8 0), (.int .u32 0), (.int .u8 0), (.int .i64 0)]), none, [0, 1, 2, 3, 4, 5, 6]⟩,
    ⟨none, .store 4 (.tmp 10) (.tmp 36), none, [6]⟩,
    ⟨some 6, .mov (.tmp 37), none, []⟩] false)
  (.seq (.region [⟨some 38, .load 5 true (.tmp 8), none, [1, 2, 3, 4, 5, 6, 9, 10, 11, 12, 13, 14, 15, 17]⟩,
    ⟨some 39, .fad 5 (.tmp 2), none, [0, 3, 4, 5, 6, 9, 10, 11, 12, 13, 14, 15, 17]⟩,
    ⟨some 40, .load 4 true (.tmp 39), none, [0, 3, 4, 5, 6, 9, 10, 11, 12, 13, 14, 15, 17]⟩,
    ⟨some 41, .fad 9 (.tmp 2), none, [0, 1, 2, 5, 9, 10, 11, 12, 13, 14, 15, 17]⟩,
    ⟨some 42, .load 1 false (.tmp 41), none, [0, 1, 2, 5, 9, 10, 11, 12, 13, 14, 15, 17]⟩,
    ⟨some 43, .mov (.tmp 1), none, [0, 1, 2, 3, 4, 9, 10, 11, 12, 13, 14, 15, 17]⟩,
    ⟨some 44, .slc 1 (.tmp 42) none (some (.tmp 43)) none, none, [0, 1, 2, 9, 10, 11, 12, 13, 14, 15, 17]⟩,
    ⟨some 45, .build (.agg #[(.int .u8 0), (.int .u32 0), (.int .u8 0), (.int .i64 0), (.int .i64 0), (.int .u8 0), (.int .u32 0), (.int .u8 0), (.int .i64 0), (.slice none 0 0)]) [(0, 5, (.tmp 38)), (5, 4, (.tmp 40)), (9, 1, (.tmp 44))], none, [9, 10, 11, 12, 13, 14, 15, 17]⟩,
    ⟨some 46, .call (.func 85) [(.tmp 45)], none, [9, 10, 11, 12, 13, 14, 15, 17]⟩,
    ⟨some 47, .load 5 true (.tmp 9), none, [0, 1, 2, 3, 4, 5, 6, 7, 8, 10, 11, 12, 13, 14, 17]⟩,
    ⟨some 48, .load 4 true (.tmp 10), none, [0, 1, 2, 3, 4, 5, 6, 7, 8, 9, 11, 12, 13, 14, 17]⟩,
    ⟨some 49, .fad 9 (.tmp 2), none, [0, 1, 2, 3, 4, 5, 6, 7, 8, 9, 10, 13, 17]⟩,
    ⟨some 50, .load 1 false (.tmp 49), none, [0, 1, 2, 3, 4, 5, 6, 7, 8, 9, 10, 13, 17]⟩,
    ⟨some 51, .mov (.tmp 1), none, [0, 1, 2, 3, 4, 5, 6, 7, 8, 9, 10, 11, 12, 17]⟩,
    ⟨some 52, .slc 1 (.tmp 50) (some (.tmp 51)) none none, none, [0, 1, 2, 3, 4, 5, 6, 7, 8, 9, 10, 17]⟩,
    ⟨some 53, .build (.agg #[(.int .u8 0), (.int .u32 0), (.int .u8 0), (.int .i64 0), (.int .i64 0), (.int .u8 0), (.int .u32 0), (.int .u8 0), (.int .i64 0), (.slice none 0 0)]) [(0, 5, (.tmp 47)), (5, 4, (.tmp 48)), (9, 1, (.tmp 52))], none, [0, 1, 2, 3, 4, 5, 6, 7, 8, 17]⟩,
    ⟨some 54, .call (.func 85) [(.tmp 53)], none, [17]⟩,
    ⟨some 55, .mov (.tmp 6), none, [0, 1, 2, 3, 4, 5, 6, 7, 8, 9, 10, 11, 12, 13, 14, 15, 16, 18, 19]⟩,
    ⟨none, .store 10 (.tmp 4) (.tmp 46), none, [17]⟩,
    ⟨none, .store 10 (.tmp 5) (.tmp 54), none, [17]⟩,
    ⟨some 6, .mov (.tmp 55), none, []⟩] true)
  .ret))))))
def a66 : AFunc := ⟨56, c66, [.cell 4 10 true, .cell 5 10 true, .tmp 6], 1⟩

/-- slices.Concat[[]blindstamp/api.Run,blindstamp/api.Run] -/
def c67 : ACode :=
  (.seq (.region [⟨some 2, .mov (.const (.slice none 0 0)), none, []⟩] false)
  (.seq (.region [⟨some 3, .mov (.const (.int .i64 0)), none, []⟩] false)
  (.seq (.seq (.region [⟨some 9, .mov (.tmp 0), none, [2]⟩,
    ⟨some 10, .len (.tmp 9), none, [2]⟩,
    ⟨some 11, .mov (.const (.int .i64 0)), none, [0, 1]⟩] false)
  (.block 0 (.loop (.seq (.region [⟨some 12, .pur (mkO (.binOp .lss 3 (.tmp 11) (.tmp 10) 3) 0), none, []⟩] false)
      (.seq (.cond (.tmp 12)
        .skip
        (.exit 0))
      (.seq (.block 1 (.seq (.region [⟨some 13, .iad 1 (.tmp 9) (.tmp 11), none, []⟩,
          ⟨some 14, .load 1 false (.tmp 13), none, []⟩,
          ⟨some 5, .mov (.tmp 14), none, []⟩] false)
        (.seq (.region [⟨some 15, .mov (.tmp 3), none, [1, 2]⟩,
          ⟨some 16, .mov (.tmp 5), none, [0]⟩,
          ⟨some 17, .len (.tmp 16), none, [0]⟩,
          ⟨some 18, .pur (mkO (.binOp .add 3 (.tmp 15) (.tmp 17) 3) 3), none, []⟩,
          ⟨some 3, .mov (.tmp 18), none, []⟩] false)
        (.seq (.region [⟨some 19, .mov (.tmp 3), none, []⟩,
          ⟨some 20, .pur (mkO (.binOp .lss 3 (.tmp 19) (.const (.int .i64 0)) 3) 4), none, []⟩] false)
        (.cond (.tmp 20)
          (.region [⟨some 21, .bad "op", none, []⟩,
            ⟨none, .bad "op", none, []⟩] false)
          .skip)))))
      (.region [⟨some 22, .pur (mkO (.binOp .add 3 (.tmp 11) (.const (.int .i64 1)) 3) 3), none, []⟩,
        ⟨some 11, .mov (.tmp 22), none, []⟩] false)))))))
  (.seq (.region [⟨some 23, .mov (.tmp 3), none, []⟩,
    ⟨some 24, .call (.func 86) [(.const (.slice none 0 0)), (.tmp 23)], none, []⟩,
    ⟨some 6, .mov (.tmp 24), none, []⟩] false)
  (.seq (.seq (.region [⟨some 25, .mov (.tmp 0), none, [2]⟩,
    ⟨some 26, .len (.tmp 25), none, [2]⟩,
    ⟨some 27, .mov (.const (.int .i64 0)), none, [0, 1]⟩] false)
  (.block 2 (.loop (.seq (.region [⟨some 28, .pur (mkO (.binOp .lss 3 (.tmp 27) (.tmp 26) 3) 0), none, []⟩] false)
      (.seq (.cond (.tmp 28)
        .skip
        (.exit 2))
      (.seq (.block 3 (.seq (.region [⟨some 29, .iad 1 (.tmp 25) (.tmp 27), none, []⟩,
          ⟨some 30, .load 1 false (.tmp 29), none, []⟩,
          ⟨some 8, .mov (.tmp 30), none, []⟩] false)
        (.region [⟨some 31, .mov (.tmp 6), none, [1]⟩,
          ⟨some 32, .mov (.tmp 8), none, [0]⟩,
          ⟨some 33, .app 60 10 80 (.agg #[(.int .u8 0), (.int .u32 0), (.int .u8 0), (.int .i64 0), (.int .i64 0), (.int .u8 0), (.int .u32 0), (.int .u8 0), (.int .i64 0), (.slice none 0 0)]) (.tmp 31) (.tmp 32), none, []⟩,
          ⟨some 6, .mov (.tmp 33), none, []⟩] false)))
      (.region [⟨some 34, .pur (mkO (.binOp .add 3 (.tmp 27) (.const (.int .i64 1)) 3) 3), none, []⟩,
        ⟨some 27, .mov (.tmp 34), none, []⟩] false)))))))
  (.seq (.region [⟨some 35, .mov (.tmp 6), none, []⟩,
    ⟨some 2, .mov (.tmp 35), none, []⟩] false)
  .ret))))))
def a67 : AFunc := ⟨36, c67, [.tmp 2], 1⟩

/-- blindstamp/label.Ahead -/
def c68 : ACode :=
  (.seq (.region [⟨some 2, .box 25 (.tmp 0), none, [1, 2]⟩,
    ⟨some 3, .box 25 (.tmp 1), none, [0, 2]⟩,
    ⟨some 4, .mov (.const (.bool false)), none, [0, 1]⟩] false)
  (.seq (.region [⟨some 6, .fad 0 (.tmp 3), none, [2, 3, 5]⟩,
    ⟨some 7, .load 1 false (.tmp 6), none, [2, 3, 5]⟩,
    ⟨some 8, .fad 1 (.tmp 2), none, [0, 1, 5]⟩,
    ⟨some 9, .load 1 false (.tmp 8), none, [0, 1, 5]⟩,
    ⟨some 10, .build (.agg #[(.int .u8 0), (.int .u32 0)]) [(0, 1, (.tmp 7)), (1, 1, (.tmp 9))], none, [5]⟩,
    ⟨some 5, .alloc 25 (.agg #[(.int .u8 0), (.int .u32 0)]), none, [0, 1, 2, 3, 4]⟩,
    ⟨none, .store 2 (.tmp 5) (.tmp 10), none, []⟩] false)
  (.seq (.region [⟨some 11, .fad 0 (.tmp 2), none, [2, 3]⟩,
    ⟨some 12, .load 1 false (.tmp 11), none, [2, 3]⟩,
    ⟨some 13, .fad 0 (.tmp 3), none, [0, 1]⟩,
    ⟨some 14, .load 1 false (.tmp 13), none, [0, 1]⟩,
    ⟨some 15, .pur (mkO (.binOp .lss 5 (.tmp 12) (.tmp 14) 5) 4), none, []⟩,
    ⟨some 16, .mov (.tmp 15), none, []⟩,
    ⟨some 17, .load 2 true (.tmp 2), some (16, false), [7]⟩,
    ⟨some 18, .load 2 true (.tmp 5), some (16, false), [6]⟩,
    ⟨some 19, .pur (mkO (.binOp .eql 25 (.tmp 17) (.tmp 18) 25) 4), some (16, false), []⟩,
    ⟨some 20, .mov (.tmp 19), some (16, false), []⟩,
    ⟨some 21, .fad 1 (.tmp 2), some (20, true), [12, 13]⟩,
    ⟨some 22, .load 1 false (.tmp 21), some (20, true), [12, 13]⟩,
    ⟨some 23, .fad 1 (.tmp 3), some (20, true), [10, 11]⟩,
    ⟨some 24, .load 1 false (.tmp 23), some (20, true), [10, 11]⟩,
    ⟨some 25, .pur (mkO (.binOp .lss 23 (.tmp 22) (.tmp 24) 23) 4), some (20, true), []⟩,
    ⟨some 26, .pick (.tmp 20) (.tmp 25) (.const (.bool false)), some (16, false), []⟩,
    ⟨some 27, .pick (.tmp 16) (.const (.bool true)) (.tmp 26), none, []⟩,
    ⟨some 4, .mov (.tmp 27), none, []⟩] false)
  .ret)))
def a68 : AFunc := ⟨28, c68, [.tmp 4], 1⟩

/-- blindstamp/tree.last -/
def c69 : ACode :=
  (.seq (.region [⟨some 1, .box 60 (.tmp 0), none, [1]⟩,
    ⟨some 2, .alloc 29 (.agg #[(.int .u8 0), (.int .u32 0), (.int .u8 0), (.int .i64 0)]), none, [0]⟩] false)
  (.seq (.region [⟨some 6, .fad 0 (.tmp 1), none, [2, 3, 4, 5, 10]⟩,
    ⟨some 7, .load 5 true (.tmp 6), none, [2, 3, 4, 5, 10]⟩,
    ⟨some 8, .fad 0 (.tmp 1), none, [0, 1, 10]⟩,
    ⟨some 9, .fad 4 (.tmp 8), none, [0, 1, 10]⟩,
    ⟨some 10, .load 1 false (.tmp 9), none, [0, 1, 10]⟩,
    ⟨some 11, .pur (mkO (.binOp .sub 3 (.tmp 10) (.const (.int .i64 1)) 3) 3), none, [0, 1, 10]⟩,
    ⟨some 12, .call (.func 34) [(.tmp 7), (.tmp 11)], none, [10]⟩,
    ⟨some 5, .mov (.tmp 12), none, [10]⟩,
    ⟨some 13, .ext (.tmp 5) 0, none, [9, 10]⟩,
    ⟨some 14, .ext (.tmp 5) 1, none, [8, 10, 11]⟩,
    ⟨some 3, .alloc 29 (.agg #[(.int .u8 0), (.int .u32 0), (.int .u8 0), (.int .i64 0)]), none, [0, 1, 2, 3, 4, 5, 6, 7, 8, 9]⟩,
    ⟨none, .store 4 (.tmp 3) (.tmp 13), none, [9]⟩,
    ⟨some 4, .mov (.tmp 14), none, []⟩] false)
  (.seq (.region [⟨some 15, .load 4 true (.tmp 3), none, []⟩,
    ⟨none, .store 4 (.tmp 2) (.tmp 15), none, []⟩] false)
  .ret)))
def a69 : AFunc := ⟨16, c69, [.cell 2 4 true], 1⟩

/-- blindstamp/run.Join -/
def c70 : ACode :=
  (.seq (.region [⟨some 2, .box 60 (.tmp 0), none, [1, 2, 3]⟩,
    ⟨some 3, .box 60 (.tmp 1), none, [0, 2, 3]⟩,
    ⟨some 4, .alloc 60 (.agg #[(.int .u8 0), (.int .u32 0), (.int .u8 0), (.int .i64 0), (.int .i64 0), (.int .u8 0), (.int .u32 0), (.int .u8 0), (.int .i64 0), (.slice none 0 0)]), none, [0, 1, 3]⟩,
    ⟨some 5, .mov (.const (.int .i64 0)), none, [0, 1, 2]⟩] false)
  (.seq (.seq (.region [⟨some 11, .load 10 true (.tmp 2), none, [2]⟩,
    ⟨some 12, .call (.func 32) [(.tmp 11)], none, [2]⟩,
    ⟨some 13, .load 10 true (.tmp 3), none, [0, 1]⟩,
    ⟨some 14, .call (.func 32) [(.tmp 13)], none, []⟩,
    ⟨some 15, .pur (mkO (.call ⟨.builtin .max, #[(.tmp 12), (.tmp 14)], #[37, 37]⟩) 37), none, []⟩,
    ⟨some 6, .mov (.tmp 15), none, []⟩] true)
  (.seq (.region [⟨some 16, .mov (.tmp 6), none, []⟩,
    ⟨some 17, .pur (mkO (.binOp .neq 37 (.tmp 16) (.const (.int .i64 0)) 37) 4), none, []⟩] false)
  (.cond (.tmp 17)
    (.seq (.region [⟨some 18, .build (.agg #[(.int .u8 0), (.int .u32 0), (.int .u8 0), (.int .i64 0), (.int .i64 0), (.int .u8 0), (.int .u32 0), (.int .u8 0), (.int .i64 0), (.slice none 0 0)]) [], none, [1]⟩,
      ⟨some 19, .mov (.tmp 6), none, [0, 2]⟩,
      ⟨none, .store 10 (.tmp 4) (.tmp 18), none, [1]⟩,
      ⟨some 5, .mov (.tmp 19), none, []⟩] false)
    .ret)
    .skip)))
  (.seq (.region [⟨some 20, .fad 0 (.tmp 2), none, [3, 4, 5, 6, 7, 8, 9, 11, 12, 13, 14, 15, 16, 18]⟩,
    ⟨some 21, .fad 0 (.tmp 20), none, [3, 4, 5, 6, 7, 8, 9, 11, 12, 13, 14, 15, 16, 18]⟩,
    ⟨some 22, .load 4 true (.tmp 21), none, [3, 4, 5, 6, 7, 8, 9, 11, 12, 13, 14, 15, 16, 18]⟩,
    ⟨some 23, .fad 0 (.tmp 2), none, [0, 1, 2, 6, 7, 8, 11, 12, 13, 14, 15, 16, 18]⟩,
    ⟨some 24, .fad 4 (.tmp 23), none, [0, 1, 2, 6, 7, 8, 11, 12, 13, 14, 15, 16, 18]⟩,
    ⟨some 25, .load 1 false (.tmp 24), none, [0, 1, 2, 6, 7, 8, 11, 12, 13, 14, 15, 16, 18]⟩,
    ⟨some 26, .fad 0 (.tmp 3), none, [0, 1, 2, 3, 4, 5, 11, 12, 13, 14, 15, 16, 18]⟩,
    ⟨some 27, .fad 4 (.tmp 26), none, [0, 1, 2, 3, 4, 5, 11, 12, 13, 14, 15, 16, 18]⟩,
    ⟨some 28, .load 1 false (.tmp 27), none, [0, 1, 2, 3, 4, 5, 11, 12, 13, 14, 15, 16, 18]⟩,
    ⟨some 29, .pur (mkO (.binOp .add 3 (.tmp 25) (.tmp 28) 3) 3), none, [0, 1, 2, 11, 12, 13, 14, 15, 16, 18]⟩,
    ⟨some 30, .build (.agg #[(.int .u8 0), (.int .u32 0), (.int .u8 0), (.int .i64 0), (.int .i64 0)]) [(0, 4, (.tmp 22)), (4, 1, (.tmp 29))], none, [11, 12, 13, 14, 15, 16, 18]⟩,
    ⟨some 31, .fad 5 (.tmp 2), none, [0, 1, 2, 3, 4, 5, 6, 7, 8, 9, 10, 13, 14, 15, 16, 18]⟩,
    ⟨some 32, .load 4 true (.tmp 31), none, [0, 1, 2, 3, 4, 5, 6, 7, 8, 9, 10, 13, 14, 15, 16, 18]⟩,
    ⟨some 33, .load 10 true (.tmp 2), none, [0, 1, 2, 3, 4, 5, 6, 7, 8, 9, 10, 11, 12, 14, 18]⟩,
    ⟨some 34, .load 10 true (.tmp 3), none, [0, 1, 2, 3, 4, 5, 6, 7, 8, 9, 10, 11, 12, 13, 18]⟩,
    ⟨some 35, .bsl 60 10 (.agg #[(.int .u8 0), (.int .u32 0), (.int .u8 0), (.int .i64 0), (.int .i64 0), (.int .u8 0), (.int .u32 0), (.int .u8 0), (.int .i64 0), (.slice none 0 0)]) 2 [(0, 10, (.tmp 33)), (10, 10, (.tmp 34))], none, [0, 1, 2, 3, 4, 5, 6, 7, 8, 9, 10, 11, 12, 18]⟩,
    ⟨some 36, .call (.func 87) [(.tmp 35)], none, [0, 1, 2, 3, 4, 5, 6, 7, 8, 9, 10, 11, 12, 18]⟩,
    ⟨some 37, .build (.agg #[(.int .u8 0), (.int .u32 0), (.int .u8 0), (.int .i64 0), (.int .i64 0), (.int .u8 0), (.int .u32 0), (.int .u8 0), (.int .i64 0), (.slice none 0 0)]) [(0, 5, (.tmp 30)), (5, 4, (.tmp 32)), (9, 1, (.tmp 36))], none, [18]⟩,
    ⟨some 7, .alloc 60 (.agg #[(.int .u8 0), (.int .u32 0), (.int .u8 0), (.int .i64 0), (.int .i64 0), (.int .u8 0), (.int .u32 0), (.int .u8 0), (.int .i64 0), (.slice none 0 0)]), none, [0, 1, 2, 3, 4, 5, 6, 7, 8, 9, 10, 11, 12, 13, 14, 15, 16, 17]⟩,
    ⟨none, .store 10 (.tmp 7) (.tmp 37), none, []⟩] true)
  (.seq (.seq (.region [⟨some 39, .load 10 true (.tmp 7), none, [1, 2, 3, 9, 10]⟩,
    ⟨some 40, .fad 0 (.tmp 2), none, [0, 9, 10]⟩,
    ⟨some 41, .fad 4 (.tmp 40), none, [0, 9, 10]⟩,
    ⟨some 42, .load 1 false (.tmp 41), none, [0, 9, 10]⟩,
    ⟨some 43, .call (.func 66) [(.tmp 39), (.tmp 42)], none, [9, 10]⟩,
    ⟨some 38, .mov (.tmp 43), none, [9, 10]⟩,
    ⟨some 44, .ext (.tmp 38) 0, none, [7, 8, 9, 10]⟩,
    ⟨some 45, .ext (.tmp 38) 1, none, [6, 8, 9, 10, 11]⟩,
    ⟨some 46, .ext (.tmp 38) 2, none, [6, 7, 9, 10, 11, 12]⟩,
    ⟨some 8, .alloc 60 (.agg #[(.int .u8 0), (.int .u32 0), (.int .u8 0), (.int .i64 0), (.int .i64 0), (.int .u8 0), (.int .u32 0), (.int .u8 0), (.int .i64 0), (.slice none 0 0)]), none, [0, 1, 2, 3, 4, 5, 6, 7, 8, 10]⟩,
    ⟨some 9, .alloc 60 (.agg #[(.int .u8 0), (.int .u32 0), (.int .u8 0), (.int .i64 0), (.int .i64 0), (.int .u8 0), (.int .u32 0), (.int .u8 0), (.int .i64 0), (.slice none 0 0)]), none, [0, 1, 2, 3, 4, 5, 6, 7, 8, 9]⟩,
    ⟨none, .store 10 (.tmp 8) (.tmp 44), none, [7, 8]⟩,
    ⟨none, .store 10 (.tmp 9) (.tmp 45), none, [8]⟩,
    ⟨some 10, .mov (.tmp 46), none, []⟩] false)
  (.seq (.region [⟨some 47, .mov (.tmp 10), none, []⟩,
    ⟨some 48, .pur (mkO (.binOp .neq 37 (.tmp 47) (.const (.int .i64 0)) 37) 4), none, []⟩,
    ⟨some 49, .mov (.tmp 48), none, []⟩,
    ⟨some 50, .load 10 true (.tmp 8), some (49, false), [4]⟩,
    ⟨some 51, .load 10 true (.tmp 2), some (49, false), [3]⟩,
    ⟨some 52, .call (.func 76) [(.tmp 50), (.tmp 51)], some (49, false), []⟩,
    ⟨some 53, .pur (mkO (.unOp .not 4 (.tmp 52)) 4), some (49, false), []⟩,
    ⟨some 54, .pick (.tmp 49) (.const (.bool true)) (.tmp 53), none, []⟩,
    ⟨some 55, .mov (.tmp 54), none, []⟩,
    ⟨some 56, .load 10 true (.tmp 9), some (55, false), [10]⟩,
    ⟨some 57, .load 10 true (.tmp 3), some (55, false), [9]⟩,
    ⟨some 58, .call (.func 76) [(.tmp 56), (.tmp 57)], some (55, false), []⟩,
    ⟨some 59, .pur (mkO (.unOp .not 4 (.tmp 58)) 4), some (55, false), []⟩,
    ⟨some 60, .pick (.tmp 55) (.const (.bool true)) (.tmp 59), none, []⟩] false)
  (.cond (.tmp 60)
    (.seq (.region [⟨some 61, .build (.agg #[(.int .u8 0), (.int .u32 0), (.int .u8 0), (.int .i64 0), (.int .i64 0), (.int .u8 0), (.int .u32 0), (.int .u8 0), (.int .i64 0), (.slice none 0 0)]) [], none, []⟩,
      ⟨none, .store 10 (.tmp 4) (.tmp 61), none, []⟩,
      ⟨some 5, .mov (.const (.int .i64 2)), none, []⟩] false)
    .ret)
    .skip)))
  (.seq (.region [⟨some 62, .load 10 true (.tmp 7), none, []⟩,
    ⟨none, .store 10 (.tmp 4) (.tmp 62), none, []⟩,
    ⟨some 5, .mov (.const (.int .i64 0)), none, []⟩] false)
  .ret)))))
def a70 : AFunc := ⟨63, c70, [.cell 4 10 true, .tmp 5], 1⟩

/-- blindstamp/run.Twin -/
def c71 : ACode :=
  (.seq (.region [⟨some 1, .box 60 (.tmp 0), none, [1]⟩,
    ⟨some 2, .alloc 60 (.agg #[(.int .u8 0), (.int .u32 0), (.int .u8 0), (.int .i64 0), (.int .i64 0), (.int .u8 0), (.int .u32 0), (.int .u8 0), (.int .i64 0), (.slice none 0 0)]), none, [0]⟩] false)
  (.seq (.region [⟨some 3, .fad 9 (.tmp 1), none, []⟩,
    ⟨some 4, .load 1 false (.tmp 3), none, []⟩,
    ⟨some 5, .call (.func 24) [(.tmp 4)], none, []⟩,
    ⟨some 6, .fad 9 (.tmp 1), none, []⟩,
    ⟨none, .store 1 (.tmp 6) (.tmp 5), none, []⟩] false)
  (.seq (.region [⟨some 7, .load 10 true (.tmp 1), none, []⟩,
    ⟨none, .store 10 (.tmp 2) (.tmp 7), none, []⟩] false)
  .ret)))
def a71 : AFunc := ⟨8, c71, [.cell 2 10 true], 1⟩

/-- slices.rotateRight[blindstamp/api.Run] -/
def c73 : ACode :=
  (.region [⟨some 4, .mov (.tmp 0), none, [1, 2, 3, 4]⟩,
    ⟨some 5, .mov (.tmp 0), none, [0, 3]⟩,
    ⟨some 6, .len (.tmp 5), none, [0, 3]⟩,
    ⟨some 7, .mov (.tmp 1), none, [0, 1, 2]⟩,
    ⟨some 8, .pur (mkO (.binOp .sub 3 (.tmp 6) (.tmp 7) 3) 3), none, [0]⟩,
    ⟨some 9, .call (.func 88) [(.tmp 4), (.tmp 8)], none, []⟩] false)
def a73 : AFunc := ⟨10, c73, [], 0⟩

/-- slices.IndexFunc[[]blindstamp/api.Run,blindstamp/api.Run] -/
def c74 : ACode :=
  (.seq (.region [⟨some 4, .mov (.const (.int .i64 0)), none, []⟩] false)
  (.seq (.seq (.region [⟨some 6, .mov (.tmp 0), none, [2]⟩,
    ⟨some 7, .len (.tmp 6), none, [2]⟩,
    ⟨some 8, .mov (.const (.int .i64 0)), none, [0, 1]⟩] false)
  (.block 0 (.loop (.seq (.region [⟨some 9, .pur (mkO (.binOp .lss 3 (.tmp 8) (.tmp 7) 3) 0), none, []⟩] false)
      (.seq (.cond (.tmp 9)
        .skip
        (.exit 0))
      (.seq (.block 1 (.seq (.region [⟨some 10, .mov (.tmp 8), none, []⟩,
          ⟨some 5, .mov (.tmp 10), none, []⟩] false)
        (.seq (.region [⟨some 11, .mov (.tmp 1), none, [1, 2, 3, 4]⟩,
          ⟨some 12, .mov (.tmp 0), none, [0, 2]⟩,
          ⟨some 13, .mov (.tmp 5), none, [0, 1]⟩,
          ⟨some 14, .iad 10 (.tmp 12) (.tmp 13), none, [0]⟩,
          ⟨some 15, .load 10 true (.tmp 14), none, [0]⟩,
          ⟨some 16, .call (.tmp 11) [(.tmp 15)], none, []⟩] false)
        (.cond (.tmp 16)
          (.seq (.region [⟨some 17, .mov (.tmp 5), none, []⟩,
            ⟨some 4, .mov (.tmp 17), none, []⟩] false)
          .ret)
          .skip))))
      (.region [⟨some 18, .pur (mkO (.binOp .add 3 (.tmp 8) (.const (.int .i64 1)) 3) 3), none, []⟩,
        ⟨some 8, .mov (.tmp 18), none, []⟩] false)))))))
  (.seq (.region [⟨some 4, .mov (.const (.int .i64 (-1))), none, []⟩] false)
  .ret)))
def a74 : AFunc := ⟨19, c74, [.tmp 4], 1⟩

/-- slices.EqualFunc[[]blindstamp/api.Run,[]blindstamp/api.Run,blindstamp/api.Run,blindstamp/api.Run] -/
def c75 : ACode :=
  (.seq (.region [⟨some 6, .mov (.const (.bool false)), none, []⟩] false)
  (.seq (.seq (.region [⟨some 10, .mov (.tmp 0), none, [2, 3]⟩,
    ⟨some 11, .len (.tmp 10), none, [2, 3]⟩,
    ⟨some 12, .mov (.tmp 1), none, [0, 1]⟩,
    ⟨some 13, .len (.tmp 12), none, [0, 1]⟩,
    ⟨some 14, .pur (mkO (.binOp .neq 3 (.tmp 11) (.tmp 13) 3) 4), none, []⟩] false)
  (.cond (.tmp 14)
    (.seq (.region [⟨some 6, .mov (.const (.bool false)), none, []⟩] false)
    .ret)
    .skip))
  (.seq (.seq (.region [⟨some 15, .mov (.tmp 0), none, [2]⟩,
    ⟨some 16, .len (.tmp 15), none, [2]⟩,
    ⟨some 17, .mov (.const (.int .i64 0)), none, [0, 1]⟩] false)
  (.block 0 (.loop (.seq (.region [⟨some 18, .pur (mkO (.binOp .lss 3 (.tmp 17) (.tmp 16) 3) 0), none, []⟩] false)
      (.seq (.cond (.tmp 18)
        .skip
        (.exit 0))
      (.seq (.block 1 (.seq (.region [⟨some 19, .mov (.tmp 17), none, [1, 2, 3]⟩,
          ⟨some 20, .iad 10 (.tmp 15) (.tmp 17), none, [0, 3]⟩,
          ⟨some 21, .load 10 true (.tmp 20), none, [0, 3]⟩,
          ⟨some 8, .alloc 60 (.agg #[(.int .u8 0), (.int .u32 0), (.int .u8 0), (.int .i64 0), (.int .i64 0), (.int .u8 0), (.int .u32 0), (.int .u8 0), (.int .i64 0), (.slice none 0 0)]), none, [0, 1, 2]⟩,
          ⟨some 7, .mov (.tmp 19), none, []⟩,
          ⟨none, .store 10 (.tmp 8) (.tmp 21), none, []⟩] false)
        (.seq (.region [⟨some 22, .mov (.tmp 1), none, [1, 4]⟩,
          ⟨some 23, .mov (.tmp 7), none, [0, 4]⟩,
          ⟨some 24, .iad 10 (.tmp 22) (.tmp 23), none, [4]⟩,
          ⟨some 25, .load 10 true (.tmp 24), none, [4]⟩,
          ⟨some 9, .alloc 60 (.agg #[(.int .u8 0), (.int .u32 0), (.int .u8 0), (.int .i64 0), (.int .i64 0), (.int .u8 0), (.int .u32 0), (.int .u8 0), (.int .i64 0), (.slice none 0 0)]), none, [0, 1, 2, 3]⟩,
          ⟨none, .store 10 (.tmp 9) (.tmp 25), none, []⟩] false)
        (.seq (.region [⟨some 26, .mov (.tmp 2), none, [1, 2]⟩,
          ⟨some 27, .load 10 true (.tmp 8), none, [0, 2]⟩,
          ⟨some 28, .load 10 true (.tmp 9), none, [0, 1]⟩,
          ⟨some 29, .call (.tmp 26) [(.tmp 27), (.tmp 28)], none, []⟩,
          ⟨some 30, .pur (mkO (.unOp .not 4 (.tmp 29)) 4), none, []⟩] false)
        (.cond (.tmp 30)
          (.seq (.region [⟨some 6, .mov (.const (.bool false)), none, []⟩] false)
          .ret)
          .skip)))))
      (.region [⟨some 31, .pur (mkO (.binOp .add 3 (.tmp 17) (.const (.int .i64 1)) 3) 3), none, []⟩,
        ⟨some 17, .mov (.tmp 31), none, []⟩] false)))))))
  (.seq (.region [⟨some 6, .mov (.const (.bool true)), none, []⟩] false)
  .ret))))
def a75 : AFunc := ⟨32, c75, [.tmp 6], 1⟩

/-- blindstamp/run.Same -/
def c76 : ACode :=
  (.seq (.region [⟨some 2, .box 60 (.tmp 0), none, [1, 2]⟩,
    ⟨some 3, .box 60 (.tmp 1), none, [0, 2]⟩,
    ⟨some 4, .mov (.const (.bool false)), none, [0, 1]⟩] false)
  (.seq (.region [⟨some 5, .fad 0 (.tmp 2), none, [2, 3]⟩,
    ⟨some 6, .load 5 true (.tmp 5), none, [2, 3]⟩,
    ⟨some 7, .fad 0 (.tmp 3), none, [0, 1]⟩,
    ⟨some 8, .load 5 true (.tmp 7), none, [0, 1]⟩,
    ⟨some 9, .pur (mkO (.binOp .eql 31 (.tmp 6) (.tmp 8) 31) 4), none, []⟩,
    ⟨some 10, .mov (.tmp 9), none, []⟩,
    ⟨some 11, .fad 5 (.tmp 2), some (10, true), [8, 9]⟩,
    ⟨some 12, .load 4 true (.tmp 11), some (10, true), [8, 9]⟩,
    ⟨some 13, .fad 5 (.tmp 3), some (10, true), [6, 7]⟩,
    ⟨some 14, .load 4 true (.tmp 13), some (10, true), [6, 7]⟩,
    ⟨some 15, .pur (mkO (.binOp .eql 29 (.tmp 12) (.tmp 14) 29) 4), some (10, true), []⟩,
    ⟨some 16, .pick (.tmp 10) (.tmp 15) (.const (.bool false)), none, []⟩,
    ⟨some 17, .mov (.tmp 16), none, []⟩,
    ⟨some 18, .fad 9 (.tmp 2), some (17, true), [15, 16]⟩,
    ⟨some 19, .load 1 false (.tmp 18), some (17, true), [15, 16]⟩,
    ⟨some 20, .fad 9 (.tmp 3), some (17, true), [13, 14]⟩,
    ⟨some 21, .load 1 false (.tmp 20), some (17, true), [13, 14]⟩,
    ⟨some 22, .call (.func 89) [(.tmp 19), (.tmp 21)], some (17, true), []⟩,
    ⟨some 23, .pick (.tmp 17) (.tmp 22) (.const (.bool false)), none, []⟩,
    ⟨some 4, .mov (.tmp 23), none, []⟩] false)
  .ret))
def a76 : AFunc := ⟨24, c76, [.tmp 4], 1⟩

/-- blindstamp/runes.Check$1 -/
def c77 : ACode :=
  (.seq (.region [⟨some 2, .mov (.const (.bool false)), none, []⟩] false)
  (.seq (.region [⟨some 3, .mov (.tmp 0), none, []⟩,
    ⟨some 4, .pur (mkO (.binOp .neq 21 (.tmp 3) (.const (.int .i32 (-1))) 21) 4), none, []⟩,
    ⟨some 5, .mov (.tmp 4), none, []⟩,
    ⟨some 6, .mov (.tmp 0), some (5, true), []⟩,
    ⟨some 7, .call (.func 78) [(.tmp 6)], some (5, true), []⟩,
    ⟨some 8, .pur (mkO (.unOp .not 4 (.tmp 7)) 4), some (5, true), []⟩,
    ⟨some 9, .pick (.tmp 5) (.tmp 8) (.const (.bool false)), none, []⟩,
    ⟨some 2, .mov (.tmp 9), none, []⟩] false)
  .ret))
def a77 : AFunc := ⟨10, c77, [.tmp 2], 1⟩

/-- unicode/utf8.ValidRune -/
def c78 : ACode :=
  (.seq (.region [⟨some 2, .mov (.const (.bool false)), none, []⟩] false)
  (.seq (.block 0 (.seq (.region [⟨some 4, .mov (.tmp 0), none, []⟩,
      ⟨some 5, .pur (mkO (.binOp .leq 21 (.const (.int .i32 0)) (.tmp 4) 21) 4), none, []⟩,
      ⟨some 6, .mov (.tmp 5), none, []⟩,
      ⟨some 7, .mov (.tmp 0), some (6, true), []⟩,
      ⟨some 8, .pur (mkO (.binOp .lss 21 (.tmp 7) (.const (.int .i32 55296)) 21) 4), some (6, true), []⟩,
      ⟨some 9, .pick (.tmp 6) (.tmp 8) (.const (.bool false)), none, []⟩,
      ⟨some 3, .mov (.tmp 9), none, []⟩] false)
    (.cond (.tmp 3)
      (.seq (.region [⟨some 2, .mov (.const (.bool true)), none, []⟩] false)
      .ret)
      (.seq (.region [⟨some 11, .mov (.tmp 0), none, []⟩,
        ⟨some 12, .pur (mkO (.binOp .lss 21 (.const (.int .i32 57343)) (.tmp 11) 21) 4), none, []⟩,
        ⟨some 13, .mov (.tmp 12), none, []⟩,
        ⟨some 14, .mov (.tmp 0), some (13, true), []⟩,
        ⟨some 15, .pur (mkO (.binOp .leq 21 (.tmp 14) (.const (.int .i32 1114111)) 21) 4), some (13, true), []⟩,
        ⟨some 16, .pick (.tmp 13) (.tmp 15) (.const (.bool false)), none, []⟩,
        ⟨some 10, .mov (.tmp 16), none, []⟩] false)
      (.cond (.tmp 10)
        (.seq (.region [⟨some 2, .mov (.const (.bool true)), none, []⟩] false)
        .ret)
        .skip)))))
  (.seq (.region [⟨some 2, .mov (.const (.bool false)), none, []⟩] false)
  .ret)))
def a78 : AFunc := ⟨17, c78, [.tmp 2], 1⟩

/-- slices.ContainsFunc[[]int32,rune] -/
def c79 : ACode :=
  (.seq (.region [⟨some 4, .mov (.const (.bool false)), none, []⟩] false)
  (.seq (.region [⟨some 5, .mov (.tmp 0), none, [1]⟩,
    ⟨some 6, .mov (.tmp 1), none, [0]⟩,
    ⟨some 7, .call (.func 90) [(.tmp 5), (.tmp 6)], none, []⟩,
    ⟨some 8, .pur (mkO (.binOp .geq 3 (.tmp 7) (.const (.int .i64 0)) 3) 4), none, []⟩,
    ⟨some 4, .mov (.tmp 8), none, []⟩] false)
  .ret))
def a79 : AFunc := ⟨9, c79, [.tmp 4], 1⟩

/-- slices.IndexFunc[[]blindstamp/api.Id,blindstamp/api.Id] -/
def c80 : ACode :=
  (.seq (.region [⟨some 4, .mov (.const (.int .i64 0)), none, []⟩] false)
  (.seq (.seq (.region [⟨some 6, .mov (.tmp 0), none, [2]⟩,
    ⟨some 7, .len (.tmp 6), none, [2]⟩,
    ⟨some 8, .mov (.const (.int .i64 0)), none, [0, 1]⟩] false)
  (.block 0 (.loop (.seq (.region [⟨some 9, .pur (mkO (.binOp .lss 3 (.tmp 8) (.tmp 7) 3) 0), none, []⟩] false)
      (.seq (.cond (.tmp 9)
        .skip
        (.exit 0))
      (.seq (.block 1 (.seq (.region [⟨some 10, .mov (.tmp 8), none, []⟩,
          ⟨some 5, .mov (.tmp 10), none, []⟩] false)
        (.seq (.region [⟨some 11, .mov (.tmp 1), none, [1, 2, 3, 4]⟩,
          ⟨some 12, .mov (.tmp 0), none, [0, 2]⟩,
          ⟨some 13, .mov (.tmp 5), none, [0, 1]⟩,
          ⟨some 14, .iad 4 (.tmp 12) (.tmp 13), none, [0]⟩,
          ⟨some 15, .load 4 true (.tmp 14), none, [0]⟩,
          ⟨some 16, .call (.tmp 11) [(.tmp 15)], none, []⟩] false)
        (.cond (.tmp 16)
          (.seq (.region [⟨some 17, .mov (.tmp 5), none, []⟩,
            ⟨some 4, .mov (.tmp 17), none, []⟩] false)
          .ret)
          .skip))))
      (.region [⟨some 18, .pur (mkO (.binOp .add 3 (.tmp 8) (.const (.int .i64 1)) 3) 3), none, []⟩,
        ⟨some 8, .mov (.tmp 18), none, []⟩] false)))))))
  (.seq (.region [⟨some 4, .mov (.const (.int .i64 (-1))), none, []⟩] false)
  .ret)))
def a80 : AFunc := ⟨19, c80, [.tmp 4], 0⟩

/-- (*blindstamp/doc.history).all$1 -/
def c81 : ACode :=
  (.seq (.region [⟨some 3, .box 29 (.tmp 0), none, [1]⟩,
    ⟨some 4, .mov (.const (.bool false)), none, [0]⟩] false)
  (.seq (.region [⟨some 5, .load 1 false (.tmp 1), none, [1, 2]⟩,
    ⟨some 6, .load 17 true (.tmp 2), none, [0, 2]⟩,
    ⟨some 7, .load 4 true (.tmp 3), none, [0, 1]⟩,
    ⟨some 8, .call (.func 59) [(.tmp 5), (.tmp 6), (.tmp 7)], none, []⟩,
    ⟨some 9, .pur (mkO (.unOp .not 4 (.tmp 8)) 4), none, []⟩,
    ⟨some 4, .mov (.tmp 9), none, []⟩] false)
  .ret))
def a81 : AFunc := ⟨10, c81, [.tmp 4], 0⟩

/-- blindstamp/chain.Check -/
def c82 : ACode :=
  (.seq (.region [⟨some 2, .mov (.const (.int .i64 0)), none, []⟩] false)
  (.seq (.seq (.region [⟨some 5, .mov (.tmp 0), none, []⟩,
    ⟨some 6, .len (.tmp 5), none, []⟩,
    ⟨some 7, .pur (mkO (.binOp .gtr 3 (.tmp 6) (.const (.int .i64 2048)) 3) 4), none, []⟩] false)
  (.cond (.tmp 7)
    (.seq (.region [⟨some 2, .mov (.const (.int .i64 4)), none, []⟩] false)
    .ret)
    .skip))
  (.seq (.seq (.region [⟨some 8, .mov (.tmp 0), none, [2]⟩,
    ⟨some 9, .len (.tmp 8), none, [2]⟩,
    ⟨some 10, .mov (.const (.int .i64 0)), none, [0, 1]⟩] false)
  (.block 0 (.loop (.seq (.region [⟨some 11, .pur (mkO (.binOp .lss 3 (.tmp 10) (.tmp 9) 3) 0), none, []⟩] false)
      (.seq (.cond (.tmp 11)
        .skip
        (.exit 0))
      (.seq (.block 1 (.seq (.region [⟨some 12, .mov (.tmp 10), none, [1, 2, 3]⟩,
          ⟨some 13, .iad 17 (.tmp 8) (.tmp 10), none, [0, 3]⟩,
          ⟨some 14, .load 17 true (.tmp 13), none, [0, 3]⟩,
          ⟨some 4, .alloc 34 (.agg #[(.int .u8 0), (.int .u8 0), (.int .u32 0), (.int .u8 0), (.int .i64 0), (.int .u8 0), (.int .u32 0), (.int .u8 0), (.int .i64 0), (.int .i64 0), (.int .u8 0), (.int .u32 0), (.int .u8 0), (.int .i64 0), (.int .u8 0), (.int .u32 0), (.slice none 0 0)]), none, [0, 1, 2]⟩,
          ⟨some 3, .mov (.tmp 12), none, []⟩,
          ⟨none, .store 17 (.tmp 4) (.tmp 14), none, []⟩] false)
        (.seq (.region [⟨some 15, .load 17 true (.tmp 4), none, []⟩,
          ⟨some 16, .call (.func 18) [(.tmp 15)], none, []⟩,
          ⟨some 17, .pur (mkO (.binOp .neq 37 (.tmp 16) (.const (.int .i64 0)) 37) 4), none, []⟩,
          ⟨some 18, .mov (.tmp 17), none, []⟩,
          ⟨some 19, .mov (.tmp 0), some (18, false), [5, 7]⟩,
          ⟨some 20, .mov (.tmp 3), some (18, false), [4, 7]⟩,
          ⟨some 21, .slc 17 (.tmp 19) none (some (.tmp 20)) none, some (18, false), [7]⟩,
          ⟨some 22, .load 17 true (.tmp 4), some (18, false), [4, 5, 6]⟩,
          ⟨some 23, .call (.func 83) [(.tmp 21), (.tmp 22)], some (18, false), []⟩,
          ⟨some 24, .pur (mkO (.unOp .not 4 (.tmp 23)) 4), some (18, false), []⟩,
          ⟨some 25, .pick (.tmp 18) (.const (.bool true)) (.tmp 24), none, []⟩] true)
        (.cond (.tmp 25)
          (.seq (.region [⟨some 2, .mov (.const (.int .i64 8)), none, []⟩] false)
          .ret)
          .skip))))
      (.region [⟨some 26, .pur (mkO (.binOp .add 3 (.tmp 10) (.const (.int .i64 1)) 3) 3), none, []⟩,
        ⟨some 10, .mov (.tmp 26), none, []⟩] false)))))))
  (.seq (.region [⟨some 2, .mov (.const (.int .i64 0)), none, []⟩] false)
  .ret))))
def a82 : AFunc := ⟨27, c82, [.tmp 2], 2⟩

/-- blindstamp/chain.fits -/
def c83 : ACode :=
  (.seq (.region [⟨some 3, .box 34 (.tmp 1), none, [1]⟩,
    ⟨some 4, .mov (.const (.bool false)), none, [0]⟩] false)
  (.scope (.seq (.seq (.region [⟨some 9, .fad 0 (.tmp 3), none, []⟩,
    ⟨some 10, .load 1 false (.tmp 9), none, []⟩,
    ⟨some 11, .pur (mkO (.binOp .neq 5 (.tmp 10) (.const (.int .u8 3)) 5) 4), none, []⟩] false)
  (.cond (.tmp 11)
    (.seq (.region [⟨some 4, .mov (.const (.bool true)), none, []⟩] false)
    .ret)
    .skip))
  (.seq (.region [⟨some 12, .fad 1 (.tmp 3), none, [3, 4]⟩,
    ⟨some 13, .fad 0 (.tmp 12), none, [3, 4]⟩,
    ⟨some 14, .load 2 true (.tmp 13), none, [3, 4]⟩,
    ⟨some 15, .fad 14 (.tmp 3), none, [0, 1, 2]⟩,
    ⟨some 16, .load 2 true (.tmp 15), none, [0, 1, 2]⟩,
    ⟨some 17, .call (.func 8) [(.tmp 14), (.tmp 16)], none, []⟩,
    ⟨some 5, .mov (.tmp 17), none, []⟩] false)
  (.seq .label
  (.seq (.seq (.region [⟨some 18, .fad 5 (.tmp 3), none, [3]⟩,
    ⟨some 19, .fad 4 (.tmp 18), none, [3]⟩,
    ⟨some 20, .load 1 false (.tmp 19), none, [3]⟩,
    ⟨some 21, .mov (.const (.int .i64 0)), none, [0, 1, 2]⟩] false)
  (.block 0 (.loop (.seq (.region [⟨some 22, .pur (mkO (.binOp .lss 3 (.tmp 21) (.tmp 20) 3) 4), none, []⟩] false)
      (.seq (.cond (.tmp 22)
        .skip
        (.exit 0))
      (.seq (.block 1 (.seq (.region [⟨some 23, .mov (.tmp 21), none, []⟩,
          ⟨some 6, .mov (.tmp 23), none, []⟩] false)
        (.seq (.region [⟨some 25, .fad 5 (.tmp 3), none, [2, 7]⟩,
          ⟨some 26, .load 5 true (.tmp 25), none, [2, 7]⟩,
          ⟨some 27, .mov (.tmp 6), none, [0, 1, 7]⟩,
          ⟨some 28, .call (.func 34) [(.tmp 26), (.tmp 27)], none, [7]⟩,
          ⟨some 24, .mov (.tmp 28), none, [7]⟩,
          ⟨some 29, .ext (.tmp 24) 0, none, [6, 7]⟩,
          ⟨some 30, .ext (.tmp 24) 1, none, [5, 7, 8]⟩,
          ⟨some 7, .alloc 29 (.agg #[(.int .u8 0), (.int .u32 0), (.int .u8 0), (.int .i64 0)]), none, [0, 1, 2, 3, 4, 5, 6]⟩,
          ⟨none, .store 4 (.tmp 7) (.tmp 29), none, [6]⟩,
          ⟨some 8, .mov (.tmp 30), none, []⟩] false)
        (.seq (.region [⟨some 31, .mov (.tmp 5), none, []⟩,
          ⟨some 32, .mov (.tmp 31), none, []⟩,
          ⟨some 33, .mov (.tmp 0), some (32, true), [3, 4, 5, 6, 8, 9, 10]⟩,
          ⟨some 34, .load 4 true (.tmp 7), some (32, true), [2, 4, 5, 6, 8, 9, 10]⟩,
          ⟨some 35, .fad 1 (.tmp 3), some (32, true), [2, 3, 8, 9, 10]⟩,
          ⟨some 36, .fad 0 (.tmp 35), some (32, true), [2, 3, 8, 9, 10]⟩,
          ⟨some 37, .load 2 true (.tmp 36), some (32, true), [2, 3, 8, 9, 10]⟩,
          ⟨some 38, .call (.func 92) [(.tmp 33), (.tmp 34), (.tmp 37)], some (32, true), [8, 9, 10]⟩,
          ⟨some 39, .fad 1 (.tmp 3), some (32, true), [2, 3, 4, 5, 6, 7]⟩,
          ⟨some 40, .fad 0 (.tmp 39), some (32, true), [2, 3, 4, 5, 6, 7]⟩,
          ⟨some 41, .load 2 true (.tmp 40), some (32, true), [2, 3, 4, 5, 6, 7]⟩,
          ⟨some 42, .call (.func 91) [(.tmp 38), (.tmp 41)], some (32, true), []⟩,
          ⟨some 43, .pick (.tmp 32) (.tmp 42) (.const (.bool false)), none, []⟩,
          ⟨some 5, .mov (.tmp 43), none, []⟩] true)
        (.seq (.region [⟨some 44, .mov (.tmp 5), none, []⟩,
          ⟨some 45, .pur (mkO (.unOp .not 4 (.tmp 44)) 4), none, []⟩] false)
        (.cond (.tmp 45)
          (.exit 0)
          .skip))))))
      (.region [⟨some 46, .pur (mkO (.binOp .add 3 (.tmp 21) (.const (.int .i64 1)) 3) 3), none, []⟩,
        ⟨some 21, .mov (.tmp 46), none, []⟩] false)))))))
  (.seq (.region [⟨some 47, .mov (.tmp 5), none, []⟩,
    ⟨some 4, .mov (.tmp 47), none, []⟩] false)
  .ret)))))))
def a83 : AFunc := ⟨48, c83, [.tmp 4], 2⟩

/-- blindstamp/ids.Cut -/
def c84 : ACode :=
  (.seq (.region [⟨some 2, .box 31 (.tmp 0), none, [1, 2, 3]⟩,
    ⟨some 4, .alloc 31 (.agg #[(.int .u8 0), (.int .u32 0), (.int .u8 0), (.int .i64 0), (.int .i64 0)]), none, [0, 2, 3]⟩,
    ⟨some 5, .alloc 31 (.agg #[(.int .u8 0), (.int .u32 0), (.int .u8 0), (.int .i64 0), (.int .i64 0)]), none, [0, 1, 3]⟩,
    ⟨some 6, .mov (.const (.int .i64 0)), none, [0, 1, 2]⟩] false)
  (.seq (.region [⟨some 9, .load 5 true (.tmp 2), none, [1, 6]⟩,
    ⟨some 10, .mov (.tmp 1), none, [0, 6]⟩,
    ⟨some 11, .call (.func 34) [(.tmp 9), (.tmp 10)], none, [6]⟩,
    ⟨some 8, .mov (.tmp 11), none, [6]⟩,
    ⟨some 12, .ext (.tmp 8) 0, none, [5, 6]⟩,
    ⟨some 13, .ext (.tmp 8) 1, none, [4, 6, 7]⟩,
    ⟨some 7, .alloc 29 (.agg #[(.int .u8 0), (.int .u32 0), (.int .u8 0), (.int .i64 0)]), none, [0, 1, 2, 3, 4, 5]⟩,
    ⟨none, .store 4 (.tmp 7) (.tmp 12), none, [5]⟩,
    ⟨some 6, .mov (.tmp 13), none, []⟩] false)
  (.seq (.seq (.region [⟨some 14, .mov (.tmp 6), none, []⟩,
    ⟨some 15, .pur (mkO (.binOp .eql 37 (.tmp 14) (.const (.int .i64 0)) 37) 4), none, []⟩,
    ⟨some 16, .mov (.tmp 15), none, []⟩,
    ⟨some 17, .mov (.tmp 1), some (16, true), []⟩,
    ⟨some 18, .pur (mkO (.binOp .eql 3 (.tmp 17) (.const (.int .i64 0)) 3) 4), some (16, true), []⟩,
    ⟨some 19, .pick (.tmp 16) (.tmp 18) (.const (.bool false)), none, []⟩] false)
  (.cond (.tmp 19)
    (.region [⟨some 6, .mov (.const (.int .i64 2)), none, []⟩] false)
    .skip))
  (.seq (.seq (.region [⟨some 20, .mov (.tmp 6), none, []⟩,
    ⟨some 21, .pur (mkO (.binOp .neq 37 (.tmp 20) (.const (.int .i64 0)) 37) 4), none, []⟩] false)
  (.cond (.tmp 21)
    (.seq (.region [⟨some 22, .load 5 true (.tmp 4), none, [1, 2]⟩,
      ⟨some 23, .load 5 true (.tmp 5), none, [0, 2, 3]⟩,
      ⟨some 24, .mov (.tmp 6), none, [0, 1, 3, 4]⟩,
      ⟨none, .store 5 (.tmp 4) (.tmp 22), none, [1, 2]⟩,
      ⟨none, .store 5 (.tmp 5) (.tmp 23), none, [2]⟩,
      ⟨some 6, .mov (.tmp 24), none, []⟩] true)
    .ret)
    .skip))
  (.seq (.region [⟨some 25, .fad 0 (.tmp 2), none, [2, 4, 5, 6, 7, 8, 9]⟩,
    ⟨some 26, .load 4 true (.tmp 25), none, [2, 4, 5, 6, 7, 8, 9]⟩,
    ⟨some 27, .mov (.tmp 1), none, [0, 1, 4, 5, 6, 7, 8, 9]⟩,
    ⟨some 28, .build (.agg #[(.int .u8 0), (.int .u32 0), (.int .u8 0), (.int .i64 0), (.int .i64 0)]) [(0, 4, (.tmp 26)), (4, 1, (.tmp 27))], none, [4, 5, 6, 7, 8, 9]⟩,
    ⟨some 29, .load 4 true (.tmp 7), none, [0, 1, 2, 3, 5, 6, 7, 8, 10]⟩,
    ⟨some 30, .fad 4 (.tmp 2), none, [0, 1, 2, 3, 4, 7, 10]⟩,
    ⟨some 31, .load 1 false (.tmp 30), none, [0, 1, 2, 3, 4, 7, 10]⟩,
    ⟨some 32, .mov (.tmp 1), none, [0, 1, 2, 3, 4, 5, 6, 10]⟩,
    ⟨some 33, .pur (mkO (.binOp .sub 3 (.tmp 31) (.tmp 32) 3) 3), none, [0, 1, 2, 3, 4, 10]⟩,
    ⟨some 34, .build (.agg #[(.int .u8 0), (.int .u32 0), (.int .u8 0), (.int .i64 0), (.int .i64 0)]) [(0, 4, (.tmp 29)), (4, 1, (.tmp 33))], none, [0, 1, 2, 3, 10]⟩,
    ⟨none, .store 5 (.tmp 4) (.tmp 28), none, [4, 5, 6, 7, 8, 9]⟩,
    ⟨none, .store 5 (.tmp 5) (.tmp 34), none, []⟩,
    ⟨some 6, .mov (.const (.int .i64 0)), none, []⟩] true)
  .ret)))))
def a84 : AFunc := ⟨35, c84, [.cell 4 5 true, .cell 5 5 true, .tmp 6], 1⟩

/-- (blindstamp/run.part).run -/
def c85 : ACode :=
  (.seq (.region [⟨some 1, .box 130 (.tmp 0), none, [1]⟩,
    ⟨some 2, .alloc 60 (.agg #[(.int .u8 0), (.int .u32 0), (.int .u8 0), (.int .i64 0), (.int .i64 0), (.int .u8 0), (.int .u32 0), (.int .u8 0), (.int .i64 0), (.slice none 0 0)]), none, [0]⟩] false)
  (.seq (.region [⟨some 3, .fad 0 (.tmp 1), none, [2, 3, 4, 5, 6]⟩,
    ⟨some 4, .load 5 true (.tmp 3), none, [2, 3, 4, 5, 6]⟩,
    ⟨some 5, .fad 5 (.tmp 1), none, [0, 1, 4, 5, 6]⟩,
    ⟨some 6, .load 4 true (.tmp 5), none, [0, 1, 4, 5, 6]⟩,
    ⟨some 7, .fad 9 (.tmp 1), none, [0, 1, 2, 3]⟩,
    ⟨some 8, .load 1 false (.tmp 7), none, [0, 1, 2, 3]⟩,
    ⟨some 9, .call (.func 24) [(.tmp 8)], none, [0, 1, 2, 3]⟩,
    ⟨some 10, .build (.agg #[(.int .u8 0), (.int .u32 0), (.int .u8 0), (.int .i64 0), (.int .i64 0), (.int .u8 0), (.int .u32 0), (.int .u8 0), (.int .i64 0), (.slice none 0 0)]) [(0, 5, (.tmp 4)), (5, 4, (.tmp 6)), (9, 1, (.tmp 9))], none, []⟩,
    ⟨none, .store 10 (.tmp 2) (.tmp 10), none, []⟩] true)
  .ret))
def a85 : AFunc := ⟨11, c85, [.cell 2 10 true], 1⟩

/-- slices.Grow[[]blindstamp/api.Run,blindstamp/api.Run] -/
def c86 : ACode :=
  (.seq (.region [⟨some 4, .mov (.const (.slice none 0 0)), none, []⟩] false)
  (.seq (.seq (.region [⟨some 5, .mov (.tmp 1), none, []⟩,
    ⟨some 6, .pur (mkO (.binOp .lss 3 (.tmp 5) (.const (.int .i64 0)) 3) 4), none, []⟩] false)
  (.cond (.tmp 6)
    (.region [⟨some 7, .bad "op", none, []⟩,
      ⟨none, .bad "op", none, []⟩] false)
    .skip))
  (.seq (.seq (.region [⟨some 8, .mov (.tmp 1), none, [1, 2, 3, 4, 5]⟩,
    ⟨some 9, .mov (.tmp 0), none, [0, 3, 4]⟩,
    ⟨some 10, .cap (.tmp 9), none, [0, 3, 4]⟩,
    ⟨some 11, .mov (.tmp 0), none, [0, 1, 2]⟩,
    ⟨some 12, .len (.tmp 11), none, [0, 1, 2]⟩,
    ⟨some 13, .pur (mkO (.binOp .sub 3 (.tmp 10) (.tmp 12) 3) 3), none, [0]⟩,
    ⟨some 14, .pur (mkO (.binOp .sub 3 (.tmp 8) (.tmp 13) 3) 3), none, []⟩,
    ⟨some 1, .mov (.tmp 14), none, []⟩] false)
  (.seq (.region [⟨some 15, .mov (.tmp 1), none, []⟩,
    ⟨some 16, .pur (mkO (.binOp .gtr 3 (.tmp 15) (.const (.int .i64 0)) 3) 4), none, []⟩] false)
  (.cond (.tmp 16)
    (.region [⟨some 17, .mov (.tmp 0), none, [1, 2, 4, 6, 7]⟩,
      ⟨some 18, .mov (.tmp 0), none, [0, 4, 6, 7]⟩,
      ⟨some 19, .cap (.tmp 18), none, [0, 4, 6, 7]⟩,
      ⟨some 20, .slc 10 (.tmp 17) none (some (.tmp 19)) none, none, [4, 6, 7]⟩,
      ⟨some 21, .mov (.tmp 1), none, [0, 1, 2, 3, 6, 7]⟩,
      ⟨some 22, .appz 60 10 80 (.agg #[(.int .u8 0), (.int .u32 0), (.int .u8 0), (.int .i64 0), (.int .i64 0), (.int .u8 0), (.int .u32 0), (.int .u8 0), (.int .i64 0), (.slice none 0 0)]) (.tmp 20) (.tmp 21), none, [6, 7]⟩,
      ⟨some 23, .mov (.tmp 0), none, [0, 1, 2, 3, 4, 5]⟩,
      ⟨some 24, .len (.tmp 23), none, [0, 1, 2, 3, 4, 5]⟩,
      ⟨some 25, .slc 10 (.tmp 22) none (some (.tmp 24)) none, none, []⟩,
      ⟨some 0, .mov (.tmp 25), none, []⟩] false)
    .skip)))
  (.seq (.region [⟨some 26, .mov (.tmp 0), none, []⟩,
    ⟨some 4, .mov (.tmp 26), none, []⟩] false)
  .ret))))
def a86 : AFunc := ⟨27, c86, [.tmp 4], 0⟩

/-- blindstamp/run.row -/
def c87 : ACode :=
  (.seq (.region [⟨some 2, .mov (.const (.slice none 0 0)), none, []⟩] false)
  (.seq (.seq (.region [⟨some 5, .mov (.tmp 0), none, [2]⟩,
    ⟨some 6, .len (.tmp 5), none, [2]⟩,
    ⟨some 7, .mov (.const (.int .i64 0)), none, [0, 1]⟩] false)
  (.block 0 (.loop (.seq (.region [⟨some 8, .pur (mkO (.binOp .lss 3 (.tmp 7) (.tmp 6) 3) 0), none, []⟩] false)
      (.seq (.cond (.tmp 8)
        .skip
        (.exit 0))
      (.seq (.block 1 (.seq (.region [⟨some 9, .iad 10 (.tmp 5) (.tmp 7), none, [2]⟩,
          ⟨some 10, .load 10 true (.tmp 9), none, [2]⟩,
          ⟨some 4, .alloc 60 (.agg #[(.int .u8 0), (.int .u32 0), (.int .u8 0), (.int .i64 0), (.int .i64 0), (.int .u8 0), (.int .u32 0), (.int .u8 0), (.int .i64 0), (.slice none 0 0)]), none, [0, 1]⟩,
          ⟨none, .store 10 (.tmp 4) (.tmp 10), none, []⟩] false)
        (.region [⟨some 11, .mov (.tmp 2), none, [1, 2]⟩,
          ⟨some 12, .fad 9 (.tmp 4), none, [0]⟩,
          ⟨some 13, .load 1 false (.tmp 12), none, [0]⟩,
          ⟨some 14, .app 21 1 4 (.int .i32 0) (.tmp 11) (.tmp 13), none, []⟩,
          ⟨some 2, .mov (.tmp 14), none, []⟩] false)))
      (.region [⟨some 15, .pur (mkO (.binOp .add 3 (.tmp 7) (.const (.int .i64 1)) 3) 3), none, []⟩,
        ⟨some 7, .mov (.tmp 15), none, []⟩] false)))))))
  (.seq (.region [⟨some 16, .mov (.tmp 2), none, []⟩,
    ⟨some 2, .mov (.tmp 16), none, []⟩] false)
  .ret)))
def a87 : AFunc := ⟨17, c87, [.tmp 2], 1⟩

/-- slices.rotateLeft[blindstamp/api.Run] -/
def c88 : ACode :=
  (.seq (.region [⟨some 4, .mov (.tmp 0), none, [1]⟩,
    ⟨some 5, .mov (.tmp 1), none, [0]⟩,
    ⟨some 6, .slc 10 (.tmp 4) none (some (.tmp 5)) none, none, []⟩,
    ⟨some 7, .call (.func 93) [(.tmp 6)], none, []⟩] false)
  (.seq (.region [⟨some 8, .mov (.tmp 0), none, [1]⟩,
    ⟨some 9, .mov (.tmp 1), none, [0]⟩,
    ⟨some 10, .slc 10 (.tmp 8) (some (.tmp 9)) none none, none, []⟩,
    ⟨some 11, .call (.func 93) [(.tmp 10)], none, []⟩] false)
  (.region [⟨some 12, .mov (.tmp 0), none, []⟩,
    ⟨some 13, .call (.func 93) [(.tmp 12)], none, []⟩] false)))
def a88 : AFunc := ⟨14, c88, [], 0⟩

/-- slices.Equal[[]int32,int32] -/
def c89 : ACode :=
  (.seq (.region [⟨some 4, .mov (.const (.bool false)), none, []⟩] false)
  (.seq (.seq (.region [⟨some 6, .mov (.tmp 0), none, [2, 3]⟩,
    ⟨some 7, .len (.tmp 6), none, [2, 3]⟩,
    ⟨some 8, .mov (.tmp 1), none, [0, 1]⟩,
    ⟨some 9, .len (.tmp 8), none, [0, 1]⟩,
    ⟨some 10, .pur (mkO (.binOp .neq 3 (.tmp 7) (.tmp 9) 3) 4), none, []⟩] false)
  (.cond (.tmp 10)
    (.seq (.region [⟨some 4, .mov (.const (.bool false)), none, []⟩] false)
    .ret)
    .skip))
  (.seq (.seq (.region [⟨some 11, .mov (.tmp 0), none, [2]⟩,
    ⟨some 12, .len (.tmp 11), none, [2]⟩,
    ⟨some 13, .mov (.const (.int .i64 0)), none, [0, 1]⟩] false)
  (.block 0 (.loop (.seq (.region [⟨some 14, .pur (mkO (.binOp .lss 3 (.tmp 13) (.tmp 12) 3) 0), none, []⟩] false)
      (.seq (.cond (.tmp 14)
        .skip
        (.exit 0))
      (.seq (.block 1 (.seq (.region [⟨some 15, .mov (.tmp 13), none, []⟩,
          ⟨some 5, .mov (.tmp 15), none, []⟩] false)
        (.seq (.region [⟨some 16, .mov (.tmp 0), none, [1, 4, 5, 6, 7]⟩,
          ⟨some 17, .mov (.tmp 5), none, [0, 4, 5, 6, 7]⟩,
          ⟨some 18, .iad 1 (.tmp 16) (.tmp 17), none, [4, 5, 6, 7]⟩,
          ⟨some 19, .load 1 false (.tmp 18), none, [4, 5, 6, 7]⟩,
          ⟨some 20, .mov (.tmp 1), none, [0, 1, 2, 3, 5]⟩,
          ⟨some 21, .mov (.tmp 5), none, [0, 1, 2, 3, 4]⟩,
          ⟨some 22, .iad 1 (.tmp 20) (.tmp 21), none, [0, 1, 2, 3]⟩,
          ⟨some 23, .load 1 false (.tmp 22), none, [0, 1, 2, 3]⟩,
          ⟨some 24, .pur (mkO (.binOp .neq 21 (.tmp 19) (.tmp 23) 21) 4), none, []⟩] true)
        (.cond (.tmp 24)
          (.seq (.region [⟨some 4, .mov (.const (.bool false)), none, []⟩] false)
          .ret)
          .skip))))
      (.region [⟨some 25, .pur (mkO (.binOp .add 3 (.tmp 13) (.const (.int .i64 1)) 3) 3), none, []⟩,
        ⟨some 13, .mov (.tmp 25), none, []⟩] false)))))))
  (.seq (.region [⟨some 4, .mov (.const (.bool true)), none, []⟩] false)
  .ret))))
def a89 : AFunc := ⟨26, c89, [.tmp 4], 1⟩

/-- slices.IndexFunc[[]int32,rune] -/
def c90 : ACode :=
  (.seq (.region [⟨some 4, .mov (.const (.int .i64 0)), none, []⟩] false)
  (.seq (.seq (.region [⟨some 6, .mov (.tmp 0), none, [2]⟩,
    ⟨some 7, .len (.tmp 6), none, [2]⟩,
    ⟨some 8, .mov (.const (.int .i64 0)), none, [0, 1]⟩] false)
  (.block 0 (.loop (.seq (.region [⟨some 9, .pur (mkO (.binOp .lss 3 (.tmp 8) (.tmp 7) 3) 0), none, []⟩] false)
      (.seq (.cond (.tmp 9)
        .skip
        (.exit 0))
      (.seq (.block 1 (.seq (.region [⟨some 10, .mov (.tmp 8), none, []⟩,
          ⟨some 5, .mov (.tmp 10), none, []⟩] false)
        (.seq (.region [⟨some 11, .mov (.tmp 1), none, [1, 2, 3, 4]⟩,
          ⟨some 12, .mov (.tmp 0), none, [0, 2]⟩,
          ⟨some 13, .mov (.tmp 5), none, [0, 1]⟩,
          ⟨some 14, .iad 1 (.tmp 12) (.tmp 13), none, [0]⟩,
          ⟨some 15, .load 1 false (.tmp 14), none, [0]⟩,
          ⟨some 16, .call (.tmp 11) [(.tmp 15)], none, []⟩] false)
        (.cond (.tmp 16)
          (.seq (.region [⟨some 17, .mov (.tmp 5), none, []⟩,
            ⟨some 4, .mov (.tmp 17), none, []⟩] false)
          .ret)
          .skip))))
      (.region [⟨some 18, .pur (mkO (.binOp .add 3 (.tmp 8) (.const (.int .i64 1)) 3) 3), none, []⟩,
        ⟨some 8, .mov (.tmp 18), none, []⟩] false)))))))
  (.seq (.region [⟨some 4, .mov (.const (.int .i64 (-1))), none, []⟩] false)
  .ret)))
def a90 : AFunc := ⟨19, c90, [.tmp 4], 1⟩

/-- slices.Contains[[]blindstamp/api.Label,blindstamp/api.Label] -/
def c91 : ACode :=
  (.seq (.region [⟨some 3, .box 25 (.tmp 1), none, [1]⟩,
    ⟨some 4, .mov (.const (.bool false)), none, [0]⟩] false)
  (.seq (.region [⟨some 5, .mov (.tmp 0), none, [1]⟩,
    ⟨some 6, .load 2 true (.tmp 3), none, [0]⟩,
    ⟨some 7, .call (.func 94) [(.tmp 5), (.tmp 6)], none, []⟩,
    ⟨some 8, .pur (mkO (.binOp .geq 3 (.tmp 7) (.const (.int .i64 0)) 3) 4), none, []⟩,
    ⟨some 4, .mov (.tmp 8), none, []⟩] false)
  .ret))
def a91 : AFunc := ⟨9, c91, [.tmp 4], 2⟩

/-- blindstamp/chain.made -/
def c92 : ACode :=
  (.seq (.region [⟨some 4, .box 29 (.tmp 1), none, [1, 2]⟩,
    ⟨some 5, .box 25 (.tmp 2), none, [0, 2]⟩,
    ⟨some 6, .mov (.const (.slice none 0 0)), none, [0, 1]⟩] false)
  (.seq (.region [⟨some 9, .fad 0 (.tmp 4), none, [4]⟩,
    ⟨some 10, .fad 0 (.tmp 9), none, [4]⟩,
    ⟨some 11, .load 2 true (.tmp 10), none, [4]⟩,
    ⟨some 12, .bsl 25 2 (.agg #[(.int .u8 0), (.int .u32 0)]) 1 [(0, 2, (.tmp 11))], none, [4]⟩,
    ⟨some 7, .alloc 138 (.slice none 0 0), none, [0, 1, 2, 3]⟩,
    ⟨none, .store 1 (.tmp 7) (.tmp 12), none, []⟩] false)
  (.seq (.seq (.region [⟨some 13, .mov (.tmp 0), none, [1, 2]⟩,
    ⟨some 14, .load 4 true (.tmp 4), none, [0, 2]⟩,
    ⟨some 15, .load 2 true (.tmp 5), none, [0, 1]⟩,
    ⟨some 16, .call (.func 95) [(.tmp 13), (.tmp 14), (.tmp 15)], none, []⟩] false)
  (.block 0 (.rangeFunc (.tmp 16) [17] (.region [⟨some 8, .alloc 25 (.agg #[(.int .u8 0), (.int .u32 0)]), none, []⟩,
        ⟨none, .store 2 (.tmp 8) (.tmp 17), none, []⟩] false) (.block 1 (.seq (.region [⟨some 18, .load 1 false (.tmp 7), none, [1]⟩,
          ⟨some 19, .load 2 true (.tmp 8), none, [0]⟩,
          ⟨some 20, .call (.func 91) [(.tmp 18), (.tmp 19)], none, []⟩,
          ⟨some 21, .pur (mkO (.unOp .not 4 (.tmp 20)) 4), none, []⟩] false)
        (.cond (.tmp 21)
          (.region [⟨some 22, .load 1 false (.tmp 7), none, [1, 2]⟩,
            ⟨some 23, .load 2 true (.tmp 8), none, [0]⟩,
            ⟨some 24, .bsl 25 2 (.agg #[(.int .u8 0), (.int .u32 0)]) 1 [(0, 2, (.tmp 23))], none, [0]⟩,
            ⟨some 25, .app 25 2 8 (.agg #[(.int .u8 0), (.int .u32 0)]) (.tmp 22) (.tmp 24), none, []⟩,
            ⟨none, .store 1 (.tmp 7) (.tmp 25), none, []⟩] false)
          .skip))))))
  (.seq (.region [⟨some 26, .load 1 false (.tmp 7), none, []⟩,
    ⟨some 6, .mov (.tmp 26), none, []⟩] false)
  .ret))))
def a92 : AFunc := ⟨27, c92, [.tmp 6], 1⟩

/-- slices.Reverse[[]blindstamp/api.Run,blindstamp/api.Run] -/
def c93 : ACode :=
  (.seq (.region [⟨some 4, .mov (.tmp 0), none, [3]⟩,
    ⟨some 5, .len (.tmp 4), none, [3]⟩,
    ⟨some 6, .pur (mkO (.binOp .sub 3 (.tmp 5) (.const (.int .i64 1)) 3) 3), none, [3]⟩,
    ⟨some 2, .mov (.const (.int .i64 0)), none, [0, 1, 2]⟩,
    ⟨some 3, .mov (.tmp 6), none, []⟩] false)
  (.block 0 (.loop (.seq (.seq (.region [⟨some 7, .mov (.tmp 2), none, [1]⟩,
        ⟨some 8, .mov (.tmp 3), none, [0]⟩,
        ⟨some 9, .pur (mkO (.binOp .lss 3 (.tmp 7) (.tmp 8) 3) 4), none, []⟩] false)
      (.cond (.tmp 9)
        .skip
        (.exit 0)))
      (.seq (.block 1 (.region [⟨some 14, .mov (.tmp 0), none, [1, 2, 3, 4, 5, 6, 7, 8, 9, 10, 11]⟩,
          ⟨some 15, .mov (.tmp 2), none, [0, 2, 3, 4, 5, 6, 7, 8, 9, 10, 11]⟩,
          ⟨some 16, .mov (.tmp 0), none, [0, 1, 3, 4, 5, 6, 7, 8, 9, 10, 11, 12, 13]⟩,
          ⟨some 17, .mov (.tmp 3), none, [0, 1, 2, 4, 5, 6, 7, 8, 9, 10, 11, 12, 13]⟩,
          ⟨some 18, .mov (.tmp 0), none, [0, 1, 2, 3, 5, 8, 9, 10, 11]⟩,
          ⟨some 19, .mov (.tmp 3), none, [0, 1, 2, 3, 4, 8, 9, 10, 11]⟩,
          ⟨some 20, .iad 10 (.tmp 18) (.tmp 19), none, [0, 1, 2, 3, 8, 9, 10, 11]⟩,
          ⟨some 21, .load 10 true (.tmp 20), none, [0, 1, 2, 3, 8, 9, 10, 11]⟩,
          ⟨some 22, .mov (.tmp 0), none, [0, 1, 2, 3, 4, 5, 6, 7, 9]⟩,
          ⟨some 23, .mov (.tmp 2), none, [0, 1, 2, 3, 4, 5, 6, 7, 8]⟩,
          ⟨some 24, .iad 10 (.tmp 22) (.tmp 23), none, [0, 1, 2, 3, 4, 5, 6, 7]⟩,
          ⟨some 25, .load 10 true (.tmp 24), none, [0, 1, 2, 3, 4, 5, 6, 7]⟩,
          ⟨some 26, .iad 10 (.tmp 14) (.tmp 15), none, [2, 3]⟩,
          ⟨none, .store 10 (.tmp 26) (.tmp 21), none, [2, 3]⟩,
          ⟨some 27, .iad 10 (.tmp 16) (.tmp 17), none, []⟩,
          ⟨none, .store 10 (.tmp 27) (.tmp 25), none, []⟩] true))
      (.region [⟨some 10, .mov (.tmp 2), none, [2, 3]⟩,
        ⟨some 11, .pur (mkO (.binOp .add 3 (.tmp 10) (.const (.int .i64 1)) 3) 3), none, [2, 3]⟩,
        ⟨some 12, .mov (.tmp 3), none, [0, 1, 4]⟩,
        ⟨some 13, .pur (mkO (.binOp .sub 3 (.tmp 12) (.const (.int .i64 1)) 3) 3), none, [0, 1, 4]⟩,
        ⟨some 2, .mov (.tmp 11), none, [2, 3]⟩,
        ⟨some 3, .mov (.tmp 13), none, []⟩] false))))))
def a93 : AFunc := ⟨28, c93, [], 0⟩

/-- slices.Index[[]blindstamp/api.Label,blindstamp/api.Label] -/
def c94 : ACode :=
  (.seq (.region [⟨some 3, .box 25 (.tmp 1), none, [1]⟩,
    ⟨some 4, .mov (.const (.int .i64 0)), none, [0]⟩] false)
  (.seq (.seq (.region [⟨some 6, .mov (.tmp 0), none, [2]⟩,
    ⟨some 7, .len (.tmp 6), none, [2]⟩,
    ⟨some 8, .mov (.const (.int .i64 0)), none, [0, 1]⟩] false)
  (.block 0 (.loop (.seq (.region [⟨some 9, .pur (mkO (.binOp .lss 3 (.tmp 8) (.tmp 7) 3) 0), none, []⟩] false)
      (.seq (.cond (.tmp 9)
        .skip
        (.exit 0))
      (.seq (.block 1 (.seq (.region [⟨some 10, .mov (.tmp 8), none, []⟩,
          ⟨some 5, .mov (.tmp 10), none, []⟩] false)
        (.seq (.region [⟨some 11, .load 2 true (.tmp 3), none, [1, 2, 3, 4]⟩,
          ⟨some 12, .mov (.tmp 0), none, [0, 2]⟩,
          ⟨some 13, .mov (.tmp 5), none, [0, 1]⟩,
          ⟨some 14, .iad 2 (.tmp 12) (.tmp 13), none, [0]⟩,
          ⟨some 15, .load 2 true (.tmp 14), none, [0]⟩,
          ⟨some 16, .pur (mkO (.binOp .eql 25 (.tmp 11) (.tmp 15) 25) 4), none, []⟩] true)
        (.cond (.tmp 16)
          (.seq (.region [⟨some 17, .mov (.tmp 5), none, []⟩,
            ⟨some 4, .mov (.tmp 17), none, []⟩] false)
          .ret)
          .skip))))
      (.region [⟨some 18, .pur (mkO (.binOp .add 3 (.tmp 8) (.const (.int .i64 1)) 3) 3), none, []⟩,
        ⟨some 8, .mov (.tmp 18), none, []⟩] false)))))))
  (.seq (.region [⟨some 4, .mov (.const (.int .i64 (-1))), none, []⟩] false)
  .ret)))
def a94 : AFunc := ⟨19, c94, [.tmp 4], 1⟩

/-- blindstamp/chain.raises -/
def c95 : ACode :=
  (.seq (.region [⟨some 3, .box 22 (.tmp 0), none, [1, 2, 3]⟩,
    ⟨some 4, .box 29 (.tmp 1), none, [0, 2, 3]⟩,
    ⟨some 5, .box 25 (.tmp 2), none, [0, 1, 3]⟩,
    ⟨some 6, .mov (.const .nilFunc), none, [0, 1, 2]⟩] false)
  (.seq (.region [⟨some 7, .mkfn 96 [] [(.tmp 3), (.tmp 4), (.tmp 5)], none, []⟩,
    ⟨some 6, .mov (.tmp 7), none, []⟩] false)
  .ret))
def a95 : AFunc := ⟨8, c95, [.tmp 6], 0⟩

/-- blindstamp/chain.raises$1 -/
def c96 : ACode :=
  (.seq (.region [⟨some 9, .load 1 false (.tmp 1), none, [2]⟩,
    ⟨some 10, .len (.tmp 9), none, [2]⟩,
    ⟨some 11, .mov (.const (.int .i64 0)), none, [0, 1]⟩] false)
  (.block 0 (.loop (.seq (.region [⟨some 12, .pur (mkO (.binOp .lss 3 (.tmp 11) (.tmp 10) 3) 0), none, []⟩] false)
      (.seq (.cond (.tmp 12)
        .skip
        (.exit 0))
      (.seq (.block 1 (.seq (.region [⟨some 13, .iad 17 (.tmp 9) (.tmp 11), none, [2]⟩,
          ⟨some 14, .load 17 true (.tmp 13), none, [2]⟩,
          ⟨some 6, .alloc 34 (.agg #[(.int .u8 0), (.int .u8 0), (.int .u32 0), (.int .u8 0), (.int .i64 0), (.int .u8 0), (.int .u32 0), (.int .u8 0), (.int .i64 0), (.int .i64 0), (.int .u8 0), (.int .u32 0), (.int .u8 0), (.int .i64 0), (.int .u8 0), (.int .u32 0), (.slice none 0 0)]), none, [0, 1]⟩,
          ⟨none, .store 17 (.tmp 6) (.tmp 14), none, []⟩] false)
        (.seq (.region [⟨some 16, .fad 5 (.tmp 6), none, [2]⟩,
          ⟨some 17, .load 5 true (.tmp 16), none, [2]⟩,
          ⟨some 18, .load 4 true (.tmp 2), none, [0, 1]⟩,
          ⟨some 19, .call (.func 64) [(.tmp 17), (.tmp 18)], none, []⟩,
          ⟨some 15, .mov (.tmp 19), none, []⟩,
          ⟨some 20, .ext (.tmp 15) 0, none, [6]⟩,
          ⟨some 21, .ext (.tmp 15) 1, none, [5, 7]⟩,
          ⟨some 7, .mov (.tmp 20), none, [6]⟩,
          ⟨some 8, .mov (.tmp 21), none, []⟩] false)
        (.seq (.region [⟨some 22, .fad 0 (.tmp 6), none, []⟩,
          ⟨some 23, .load 1 false (.tmp 22), none, []⟩,
          ⟨some 24, .pur (mkO (.binOp .eql 5 (.tmp 23) (.const (.int .u8 3)) 5) 4), none, []⟩,
          ⟨some 25, .mov (.tmp 24), none, []⟩,
          ⟨some 26, .mov (.tmp 8), some (25, true), []⟩,
          ⟨some 27, .pick (.tmp 25) (.tmp 26) (.const (.bool false)), none, []⟩,
          ⟨some 28, .mov (.tmp 27), none, []⟩,
          ⟨some 29, .fad 1 (.tmp 6), some (28, true), [10]⟩,
          ⟨some 30, .fad 0 (.tmp 29), some (28, true), [10]⟩,
          ⟨some 31, .load 2 true (.tmp 30), some (28, true), [10]⟩,
          ⟨some 32, .load 2 true (.tmp 3), some (28, true), [7, 8, 9]⟩,
          ⟨some 33, .call (.func 8) [(.tmp 31), (.tmp 32)], some (28, true), []⟩,
          ⟨some 34, .pick (.tmp 28) (.tmp 33) (.const (.bool false)), none, []⟩,
          ⟨some 35, .mov (.tmp 34), none, []⟩,
          ⟨some 36, .mov (.tmp 0), some (35, true), [15, 16]⟩,
          ⟨some 37, .fad 14 (.tmp 6), some (35, true), [14]⟩,
          ⟨some 38, .load 2 true (.tmp 37), some (35, true), [14]⟩,
          ⟨some 39, .call (.tmp 36) [(.tmp 38)], some (35, true), []⟩,
          ⟨some 40, .pur (mkO (.unOp .not 4 (.tmp 39)) 4), some (35, true), []⟩,
          ⟨some 41, .pick (.tmp 35) (.tmp 40) (.const (.bool false)), none, []⟩] false)
        (.cond (.tmp 41)
          .ret
          .skip)))))
      (.region [⟨some 42, .pur (mkO (.binOp .add 3 (.tmp 11) (.const (.int .i64 1)) 3) 3), none, []⟩,
        ⟨some 11, .mov (.tmp 42), none, []⟩] false)))))))
def a96 : AFunc := ⟨43, c96, [], 0⟩

def tbl : List (Option AFunc) := [none, none, none, some a3, some a4, some a5, some a6, some a7, some a8, some a9, some a10, some a11, some a12, some a13, some a14, some a15, some a16, some a17, some a18, some a19, some a20, some a21, some a22, some a23, some a24, some a25, some a26, some a27, some a28, some a29, some a30, some a31, some a32, some a33, some a34, some a35, some a36, some a37, some a38, some a39, some a40, some a41, some a42, some a43, some a44, some a45, some a46, some a47, some a48, some a49, some a50, some a51, some a52, some a53, some a54, some a55, some a56, some a57, some a58, some a59, some a60, some a61, some a62, some a63, some a64, some a65, some a66, some a67, some a68, some a69, some a70, some a71, none, some a73, some a74, some a75, some a76, some a77, some a78, some a79, some a80, some a81, some a82, some a83, some a84, some a85, some a86, some a87, some a88, some a89, some a90, some a91, some a92, some a93, some a94, some a95, some a96]
theorem tf3 : fsT tbl 3 = some a3 := rfl
theorem tf4 : fsT tbl 4 = some a4 := rfl
theorem tf5 : fsT tbl 5 = some a5 := rfl
theorem tf6 : fsT tbl 6 = some a6 := rfl
theorem tf7 : fsT tbl 7 = some a7 := rfl
theorem tf8 : fsT tbl 8 = some a8 := rfl
theorem tf9 : fsT tbl 9 = some a9 := rfl
theorem tf10 : fsT tbl 10 = some a10 := rfl
theorem tf11 : fsT tbl 11 = some a11 := rfl
theorem tf12 : fsT tbl 12 = some a12 := rfl
theorem tf13 : fsT tbl 13 = some a13 := rfl
theorem tf14 : fsT tbl 14 = some a14 := rfl
theorem tf15 : fsT tbl 15 = some a15 := rfl
theorem tf16 : fsT tbl 16 = some a16 := rfl
theorem tf17 : fsT tbl 17 = some a17 := rfl
theorem tf18 : fsT tbl 18 = some a18 := rfl
theorem tf19 : fsT tbl 19 = some a19 := rfl
theorem tf20 : fsT tbl 20 = some a20 := rfl
theorem tf21 : fsT tbl 21 = some a21 := rfl
theorem tf22 : fsT tbl 22 = some a22 := rfl
theorem tf23 : fsT tbl 23 = some a23 := rfl
theorem tf24 : fsT tbl 24 = some a24 := rfl
theorem tf25 : fsT tbl 25 = some a25 := rfl
theorem tf26 : fsT tbl 26 = some a26 := rfl
theorem tf27 : fsT tbl 27 = some a27 := rfl
theorem tf28 : fsT tbl 28 = some a28 := rfl
theorem tf29 : fsT tbl 29 = some a29 := rfl
theorem tf30 : fsT tbl 30 = some a30 := rfl
theorem tf31 : fsT tbl 31 = some a31 := rfl
theorem tf32 : fsT tbl 32 = some a32 := rfl
theorem tf33 : fsT tbl 33 = some a33 := rfl
theorem tf34 : fsT tbl 34 = some a34 := rfl
theorem tf35 : fsT tbl 35 = some a35 := rfl
theorem tf36 : fsT tbl 36 = some a36 := rfl
theorem tf37 : fsT tbl 37 = some a37 := rfl
theorem tf38 : fsT tbl 38 = some a38 := rfl
theorem tf39 : fsT tbl 39 = some a39 := rfl
theorem tf40 : fsT tbl 40 = some a40 := rfl
theorem tf41 : fsT tbl 41 = some a41 := rfl
theorem tf42 : fsT tbl 42 = some a42 := rfl
theorem tf43 : fsT tbl 43 = some a43 := rfl
theorem tf44 : fsT tbl 44 = some a44 := rfl
theorem tf45 : fsT tbl 45 = some a45 := rfl
theorem tf46 : fsT tbl 46 = some a46 := rfl
theorem tf47 : fsT tbl 47 = some a47 := rfl
theorem tf48 : fsT tbl 48 = some a48 := rfl
theorem tf49 : fsT tbl 49 = some a49 := rfl
theorem tf50 : fsT tbl 50 = some a50 := rfl
theorem tf51 : fsT tbl 51 = some a51 := rfl
theorem tf52 : fsT tbl 52 = some a52 := rfl
theorem tf53 : fsT tbl 53 = some a53 := rfl
theorem tf54 : fsT tbl 54 = some a54 := rfl
theorem tf55 : fsT tbl 55 = some a55 := rfl
theorem tf56 : fsT tbl 56 = some a56 := rfl
theorem tf57 : fsT tbl 57 = some a57 := rfl
theorem tf58 : fsT tbl 58 = some a58 := rfl
theorem tf59 : fsT tbl 59 = some a59 := rfl
theorem tf60 : fsT tbl 60 = some a60 := rfl
theorem tf61 : fsT tbl 61 = some a61 := rfl
theorem tf62 : fsT tbl 62 = some a62 := rfl
theorem tf63 : fsT tbl 63 = some a63 := rfl
theorem tf64 : fsT tbl 64 = some a64 := rfl
theorem tf65 : fsT tbl 65 = some a65 := rfl
theorem tf66 : fsT tbl 66 = some a66 := rfl
theorem tf67 : fsT tbl 67 = some a67 := rfl
theorem tf68 : fsT tbl 68 = some a68 := rfl
theorem tf69 : fsT tbl 69 = some a69 := rfl
theorem tf70 : fsT tbl 70 = some a70 := rfl
theorem tf71 : fsT tbl 71 = some a71 := rfl
theorem tf73 : fsT tbl 73 = some a73 := rfl
theorem tf74 : fsT tbl 74 = some a74 := rfl
theorem tf75 : fsT tbl 75 = some a75 := rfl
theorem tf76 : fsT tbl 76 = some a76 := rfl
theorem tf77 : fsT tbl 77 = some a77 := rfl
theorem tf78 : fsT tbl 78 = some a78 := rfl
theorem tf79 : fsT tbl 79 = some a79 := rfl
theorem tf80 : fsT tbl 80 = some a80 := rfl
theorem tf81 : fsT tbl 81 = some a81 := rfl
theorem tf82 : fsT tbl 82 = some a82 := rfl
theorem tf83 : fsT tbl 83 = some a83 := rfl
theorem tf84 : fsT tbl 84 = some a84 := rfl
theorem tf85 : fsT tbl 85 = some a85 := rfl
theorem tf86 : fsT tbl 86 = some a86 := rfl
theorem tf87 : fsT tbl 87 = some a87 := rfl
theorem tf88 : fsT tbl 88 = some a88 := rfl
theorem tf89 : fsT tbl 89 = some a89 := rfl
theorem tf90 : fsT tbl 90 = some a90 := rfl
theorem tf91 : fsT tbl 91 = some a91 := rfl
theorem tf92 : fsT tbl 92 = some a92 := rfl
theorem tf93 : fsT tbl 93 = some a93 := rfl
theorem tf94 : fsT tbl 94 = some a94 := rfl
theorem tf95 : fsT tbl 95 = some a95 := rfl
theorem tf96 : fsT tbl 96 = some a96 := rfl
end Go.Proofs.Ytimimdjpmcmpnaa
