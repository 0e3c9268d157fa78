/-
  The program's functions, as the executor has them, part 1.
-/
import Derived.Test.YtipmhbfneciojaaGreatEe
set_option maxRecDepth 100000
namespace Go.Proofs.YtipmhbfneciojaaGreat
open Go Go.Ax
def c2 : ACode :=
  (.region [⟨some 0, .bad "op", none, []⟩] false)
def a2 : AFunc := ⟨1, c2, []⟩

def c3 : ACode :=
  (.seq (.region [⟨some 0, .mov (.const (.bool false)), none, []⟩] false)
  (.seq (.region [⟨some 23, .call (.func 5) [], none, []⟩,
    ⟨some 24, .call (.func 6) [(.const (.int .u8 1))], none, []⟩,
    ⟨some 25, .call (.func 4) [(.tmp 23), (.tmp 24)], none, []⟩,
    ⟨some 22, .mov (.tmp 25), none, []⟩,
    ⟨some 26, .ext (.tmp 22) 0, none, [5, 6]⟩,
    ⟨some 27, .ext (.tmp 22) 1, none, [4, 6, 7]⟩,
    ⟨some 28, .ext (.tmp 22) 2, none, [4, 5, 7, 8]⟩,
    ⟨some 1, .mov (.tmp 26), none, [5, 6]⟩,
    ⟨some 2, .mov (.tmp 27), none, [6]⟩,
    ⟨some 3, .mov (.tmp 28), none, []⟩] false)
  (.seq (.region [⟨some 30, .call (.func 5) [], none, [6]⟩,
    ⟨some 31, .call (.func 6) [(.const (.int .u8 1))], none, [6]⟩,
    ⟨some 32, .call (.func 7) [(.tmp 30), (.tmp 31), (.const (.int .i64 0))], none, [6]⟩,
    ⟨some 29, .mov (.tmp 32), none, [6]⟩,
    ⟨some 33, .ext (.tmp 29) 0, none, [5, 6]⟩,
    ⟨some 34, .ext (.tmp 29) 1, none, [4, 6, 7]⟩,
    ⟨some 4, .alloc 34 (.agg #[(.int .u8 0), (.int .u32 0), (.int .u8 0), (.int .i64 0)]), none, [0, 1, 2, 3, 4, 5]⟩,
    ⟨none, .store 4 (.tmp 4) (.tmp 33), none, [5]⟩,
    ⟨some 5, .mov (.tmp 34), none, []⟩] false)
  (.seq (.region [⟨some 36, .call (.func 5) [], none, [6]⟩,
    ⟨some 37, .call (.func 6) [(.const (.int .u8 1))], none, [6]⟩,
    ⟨some 38, .call (.func 7) [(.tmp 36), (.tmp 37), (.const (.int .i64 2))], none, [6]⟩,
    ⟨some 35, .mov (.tmp 38), none, [6]⟩,
    ⟨some 39, .ext (.tmp 35) 0, none, [5, 6]⟩,
    ⟨some 40, .ext (.tmp 35) 1, none, [4, 6, 7]⟩,
    ⟨some 6, .alloc 34 (.agg #[(.int .u8 0), (.int .u32 0), (.int .u8 0), (.int .i64 0)]), none, [0, 1, 2, 3, 4, 5]⟩,
    ⟨none, .store 4 (.tmp 6) (.tmp 39), none, [5]⟩,
    ⟨some 7, .mov (.tmp 40), none, []⟩] false)
  (.seq (.region [⟨some 42, .call (.func 5) [], none, [6]⟩,
    ⟨some 43, .call (.func 6) [(.const (.int .u8 1))], none, [6]⟩,
    ⟨some 44, .call (.func 7) [(.tmp 42), (.tmp 43), (.const (.int .i64 4))], none, [6]⟩,
    ⟨some 41, .mov (.tmp 44), none, [6]⟩,
    ⟨some 45, .ext (.tmp 41) 0, none, [5, 6]⟩,
    ⟨some 46, .ext (.tmp 41) 1, none, [4, 6, 7]⟩,
    ⟨some 8, .alloc 34 (.agg #[(.int .u8 0), (.int .u32 0), (.int .u8 0), (.int .i64 0)]), none, [0, 1, 2, 3, 4, 5]⟩,
    ⟨none, .store 4 (.tmp 8) (.tmp 45), none, [5]⟩,
    ⟨some 9, .mov (.tmp 46), none, []⟩] false)
  (.seq (.region [⟨some 48, .call (.func 5) [], none, []⟩,
    ⟨some 49, .call (.func 6) [(.const (.int .u8 2))], none, []⟩,
    ⟨some 50, .call (.func 8) [(.tmp 48), (.tmp 49), (.const (.int .i64 0)), (.const (.int .i64 4))], none, []⟩,
    ⟨some 47, .mov (.tmp 50), none, []⟩,
    ⟨some 51, .ext (.tmp 47) 0, none, [5]⟩,
    ⟨some 52, .ext (.tmp 47) 1, none, [4, 6]⟩,
    ⟨some 10, .mov (.tmp 51), none, [5]⟩,
    ⟨some 11, .mov (.tmp 52), none, []⟩] false)
  (.seq (.region [⟨some 54, .call (.func 5) [], none, []⟩,
    ⟨some 55, .call (.func 10) [(.const (.int .u8 1)), (.const (.int .i64 1))], none, []⟩,
    ⟨some 56, .fld 0 3 true (.tmp 55), none, []⟩,
    ⟨some 57, .call (.func 9) [(.tmp 54), (.tmp 56)], none, []⟩,
    ⟨some 53, .mov (.tmp 57), none, []⟩,
    ⟨some 58, .ext (.tmp 53) 0, none, [6]⟩,
    ⟨some 59, .ext (.tmp 53) 1, none, [5, 7]⟩,
    ⟨some 12, .mov (.tmp 58), none, [6]⟩,
    ⟨some 13, .mov (.tmp 59), none, []⟩] false)
  (.seq (.region [⟨some 61, .call (.func 5) [], none, []⟩,
    ⟨some 62, .call (.func 10) [(.const (.int .u8 2)), (.const (.int .i64 1))], none, []⟩,
    ⟨some 63, .fld 0 3 true (.tmp 62), none, []⟩,
    ⟨some 64, .call (.func 9) [(.tmp 61), (.tmp 63)], none, []⟩,
    ⟨some 60, .mov (.tmp 64), none, []⟩,
    ⟨some 65, .ext (.tmp 60) 0, none, [6]⟩,
    ⟨some 66, .ext (.tmp 60) 1, none, [5, 7]⟩,
    ⟨some 14, .mov (.tmp 65), none, [6]⟩,
    ⟨some 15, .mov (.tmp 66), none, []⟩] false)
  (.seq (.region [⟨some 68, .call (.func 10) [(.const (.int .u8 0)), (.const (.int .i64 1))], none, []⟩,
    ⟨some 69, .fld 0 3 true (.tmp 68), none, []⟩,
    ⟨some 70, .call (.func 9) [(.const (.slice none 0 0)), (.tmp 69)], none, []⟩,
    ⟨some 67, .mov (.tmp 70), none, []⟩,
    ⟨some 71, .ext (.tmp 67) 0, none, [5]⟩,
    ⟨some 72, .ext (.tmp 67) 1, none, [4, 6]⟩,
    ⟨some 16, .mov (.tmp 71), none, [5]⟩,
    ⟨some 17, .mov (.tmp 72), none, []⟩] false)
  (.seq (.region [⟨some 73, .call (.func 5) [], none, []⟩,
    ⟨some 74, .slc 17 (.tmp 73) none (some (.const (.int .i64 1))) none, none, []⟩,
    ⟨some 18, .mov (.tmp 74), none, []⟩] false)
  (.seq (.region [⟨some 75, .mov (.tmp 18), none, [1, 2, 3, 4, 5, 6, 7, 8]⟩,
    ⟨some 76, .mov (.tmp 18), none, [0, 2, 3, 4, 5, 6, 7, 8, 9, 10, 11]⟩,
    ⟨some 77, .call (.func 10) [(.const (.int .u8 1)), (.const (.int .i64 1099511627776))], none, [0, 1, 4, 5, 6, 7, 8]⟩,
    ⟨some 78, .build (.agg #[(.int .u8 0), (.int .u32 0), (.int .u8 0), (.int .i64 0), (.int .i64 0)]) [(0, 4, (.tmp 77)), (4, 1, (.const (.int .i64 1)))], none, [0, 1, 4, 5, 6, 7, 8]⟩,
    ⟨some 79, .mov (.tmp 18), none, [0, 1, 2, 3]⟩,
    ⟨some 80, .iad 17 (.tmp 79) (.const (.int .i64 0)), none, [0, 1, 2, 3]⟩,
    ⟨some 81, .fad 16 (.tmp 80), none, [0, 1, 2, 3]⟩,
    ⟨some 82, .load 1 false (.tmp 81), none, [0, 1, 2, 3]⟩,
    ⟨some 83, .slc 1 (.tmp 82) none (some (.const (.int .i64 1))) none, none, [0, 1, 2, 3, 9, 10, 11]⟩,
    ⟨some 84, .iad 17 (.tmp 75) (.const (.int .i64 0)), none, [1, 8]⟩,
    ⟨some 85, .fad 5 (.tmp 84), none, [1, 8]⟩,
    ⟨none, .store 5 (.tmp 85) (.tmp 78), none, [1, 8]⟩,
    ⟨some 86, .iad 17 (.tmp 76) (.const (.int .i64 0)), none, []⟩,
    ⟨some 87, .fad 16 (.tmp 86), none, []⟩,
    ⟨none, .store 1 (.tmp 87) (.tmp 83), none, []⟩] true)
  (.seq (.region [⟨some 89, .mov (.tmp 18), none, [1, 2]⟩,
    ⟨some 90, .call (.func 10) [(.const (.int .u8 1)), (.const (.int .i64 1))], none, [0]⟩,
    ⟨some 91, .fld 0 3 true (.tmp 90), none, [0]⟩,
    ⟨some 92, .call (.func 9) [(.tmp 89), (.tmp 91)], none, []⟩,
    ⟨some 88, .mov (.tmp 92), none, []⟩,
    ⟨some 93, .ext (.tmp 88) 0, none, [6]⟩,
    ⟨some 94, .ext (.tmp 88) 1, none, [5, 7]⟩,
    ⟨some 19, .mov (.tmp 93), none, [6]⟩,
    ⟨some 20, .mov (.tmp 94), none, []⟩] false)
  (.seq (.region [⟨some 95, .call (.func 10) [(.const (.int .u8 1)), (.const (.int .i64 1))], none, []⟩,
    ⟨some 96, .build (.agg #[(.int .u8 0), (.int .u32 0), (.int .u8 0), (.int .i64 0), (.int .i64 0)]) [(0, 4, (.tmp 95)), (4, 1, (.const (.int .i64 2)))], none, [2, 3, 4, 5]⟩,
    ⟨some 97, .call (.func 10) [(.const (.int .u8 2)), (.const (.int .i64 5))], none, [1]⟩,
    ⟨some 98, .build (.agg #[(.int .u8 0), (.int .u32 0), (.int .u8 0), (.int .i64 0), (.int .i64 0)]) [(0, 4, (.tmp 97)), (4, 1, (.const (.int .i64 1)))], none, [1, 4, 5]⟩,
    ⟨some 99, .call (.func 10) [(.const (.int .u8 1)), (.const (.int .i64 3))], none, [1, 3]⟩,
    ⟨some 100, .build (.agg #[(.int .u8 0), (.int .u32 0), (.int .u8 0), (.int .i64 0), (.int .i64 0)]) [(0, 4, (.tmp 99)), (4, 1, (.const (.int .i64 1)))], none, [1, 3]⟩,
    ⟨some 101, .bsl 44 5 (.agg #[(.int .u8 0), (.int .u32 0), (.int .u8 0), (.int .i64 0), (.int .i64 0)]) 3 [(0, 5, (.tmp 96)), (5, 5, (.tmp 98)), (10, 5, (.tmp 100))], none, []⟩,
    ⟨some 21, .mov (.tmp 101), none, []⟩] false)
  (.seq (.region [⟨some 102, .mov (.const (.bool true)), none, []⟩,
    ⟨some 103, .call (.func 11) [], some (102, true), []⟩,
    ⟨some 104, .pick (.tmp 102) (.tmp 103) (.const (.bool false)), none, []⟩,
    ⟨some 105, .mov (.tmp 104), none, []⟩,
    ⟨some 106, .mov (.tmp 3), some (105, true), []⟩,
    ⟨some 107, .pur (mkO (.binOp .eql 22 (.tmp 106) (.const (.int .i64 0)) 22) 4), some (105, true), []⟩,
    ⟨some 108, .pick (.tmp 105) (.tmp 107) (.const (.bool false)), none, []⟩,
    ⟨some 109, .mov (.tmp 108), none, []⟩,
    ⟨some 110, .mov (.tmp 1), some (109, true), []⟩,
    ⟨some 111, .pur (mkO (.binOp .eql 3 (.tmp 110) (.const (.int .i64 2)) 3) 4), some (109, true), []⟩,
    ⟨some 112, .pick (.tmp 109) (.tmp 111) (.const (.bool false)), none, []⟩,
    ⟨some 113, .mov (.tmp 112), none, []⟩,
    ⟨some 114, .mov (.tmp 2), some (113, true), []⟩,
    ⟨some 115, .pur (mkO (.binOp .eql 3 (.tmp 114) (.const (.int .i64 1)) 3) 4), some (113, true), []⟩,
    ⟨some 116, .pick (.tmp 113) (.tmp 115) (.const (.bool false)), none, []⟩,
    ⟨some 117, .mov (.tmp 116), none, []⟩,
    ⟨some 118, .mov (.tmp 5), some (117, true), []⟩,
    ⟨some 119, .pur (mkO (.binOp .eql 22 (.tmp 118) (.const (.int .i64 0)) 22) 4), some (117, true), []⟩,
    ⟨some 120, .pick (.tmp 117) (.tmp 119) (.const (.bool false)), none, []⟩,
    ⟨some 121, .mov (.tmp 120), none, []⟩,
    ⟨some 122, .load 4 true (.tmp 4), some (121, true), [21]⟩,
    ⟨some 123, .build (.agg #[(.int .u8 0), (.int .u32 0), (.int .u8 0), (.int .i64 0)]) [], some (121, true), [20]⟩,
    ⟨some 124, .pur (mkO (.binOp .eql 34 (.tmp 122) (.tmp 123) 34) 4), some (121, true), []⟩,
    ⟨some 125, .pick (.tmp 121) (.tmp 124) (.const (.bool false)), none, []⟩,
    ⟨some 126, .mov (.tmp 125), none, []⟩,
    ⟨some 127, .mov (.tmp 7), some (126, true), []⟩,
    ⟨some 128, .pur (mkO (.binOp .eql 22 (.tmp 127) (.const (.int .i64 0)) 22) 4), some (126, true), []⟩,
    ⟨some 129, .pick (.tmp 126) (.tmp 128) (.const (.bool false)), none, []⟩,
    ⟨some 130, .mov (.tmp 129), none, []⟩,
    ⟨some 131, .load 4 true (.tmp 6), some (130, true), [30]⟩,
    ⟨some 132, .call (.func 10) [(.const (.int .u8 1)), (.const (.int .i64 2))], some (130, true), [29]⟩,
    ⟨some 133, .pur (mkO (.binOp .eql 34 (.tmp 131) (.tmp 132) 34) 4), some (130, true), []⟩,
    ⟨some 134, .pick (.tmp 130) (.tmp 133) (.const (.bool false)), none, []⟩,
    ⟨some 135, .mov (.tmp 134), none, []⟩,
    ⟨some 136, .mov (.tmp 9), some (135, true), []⟩,
    ⟨some 137, .pur (mkO (.binOp .eql 22 (.tmp 136) (.const (.int .i64 2)) 22) 4), some (135, true), []⟩,
    ⟨some 138, .pick (.tmp 135) (.tmp 137) (.const (.bool false)), none, []⟩,
    ⟨some 139, .mov (.tmp 138), none, []⟩,
    ⟨some 140, .mov (.tmp 11), some (139, true), []⟩,
    ⟨some 141, .pur (mkO (.binOp .eql 22 (.tmp 140) (.const (.int .i64 0)) 22) 4), some (139, true), []⟩,
    ⟨some 142, .pick (.tmp 139) (.tmp 141) (.const (.bool false)), none, []⟩,
    ⟨some 143, .mov (.tmp 142), none, []⟩,
    ⟨some 144, .mov (.tmp 10), some (143, true), [43]⟩,
    ⟨some 145, .mov (.tmp 21), some (143, true), [42]⟩,
    ⟨some 146, .call (.func 12) [(.tmp 144), (.tmp 145)], some (143, true), []⟩,
    ⟨some 147, .pick (.tmp 143) (.tmp 146) (.const (.bool false)), none, []⟩,
    ⟨some 148, .mov (.tmp 147), none, []⟩,
    ⟨some 149, .mov (.tmp 13), some (148, true), []⟩,
    ⟨some 150, .pur (mkO (.binOp .eql 22 (.tmp 149) (.const (.int .i64 0)) 22) 4), some (148, true), []⟩,
    ⟨some 151, .pick (.tmp 148) (.tmp 150) (.const (.bool false)), none, []⟩,
    ⟨some 152, .mov (.tmp 151), none, []⟩,
    ⟨some 153, .mov (.tmp 12), some (152, true), []⟩,
    ⟨some 154, .pur (mkO (.binOp .eql 3 (.tmp 153) (.const (.int .i64 4)) 3) 4), some (152, true), []⟩,
    ⟨some 155, .pick (.tmp 152) (.tmp 154) (.const (.bool false)), none, []⟩,
    ⟨some 156, .mov (.tmp 155), none, []⟩,
    ⟨some 157, .mov (.tmp 15), some (156, true), []⟩,
    ⟨some 158, .pur (mkO (.binOp .eql 22 (.tmp 157) (.const (.int .i64 0)) 22) 4), some (156, true), []⟩,
    ⟨some 159, .pick (.tmp 156) (.tmp 158) (.const (.bool false)), none, []⟩,
    ⟨some 160, .mov (.tmp 159), none, []⟩,
    ⟨some 161, .mov (.tmp 14), some (160, true), []⟩,
    ⟨some 162, .pur (mkO (.binOp .eql 3 (.tmp 161) (.const (.int .i64 6)) 3) 4), some (160, true), []⟩,
    ⟨some 163, .pick (.tmp 160) (.tmp 162) (.const (.bool false)), none, []⟩,
    ⟨some 164, .mov (.tmp 163), none, []⟩,
    ⟨some 165, .mov (.tmp 17), some (164, true), []⟩,
    ⟨some 166, .pur (mkO (.binOp .eql 22 (.tmp 165) (.const (.int .i64 0)) 22) 4), some (164, true), []⟩,
    ⟨some 167, .pick (.tmp 164) (.tmp 166) (.const (.bool false)), none, []⟩,
    ⟨some 168, .mov (.tmp 167), none, []⟩,
    ⟨some 169, .mov (.tmp 16), some (168, true), []⟩,
    ⟨some 170, .pur (mkO (.binOp .eql 3 (.tmp 169) (.const (.int .i64 1)) 3) 4), some (168, true), []⟩,
    ⟨some 171, .pick (.tmp 168) (.tmp 170) (.const (.bool false)), none, []⟩,
    ⟨some 172, .mov (.tmp 171), none, []⟩,
    ⟨some 173, .mov (.tmp 20), some (172, true), []⟩,
    ⟨some 174, .pur (mkO (.binOp .eql 22 (.tmp 173) (.const (.int .i64 9)) 22) 4), some (172, true), []⟩,
    ⟨some 175, .pick (.tmp 172) (.tmp 174) (.const (.bool false)), none, []⟩,
    ⟨some 0, .mov (.tmp 175), none, []⟩] true)
  .ret))))))))))))))
def a3 : AFunc := ⟨176, c3, [.tmp 0]⟩

def c4 : ACode :=
  (.seq (.region [⟨some 3, .box 29 (.tmp 1), none, [1, 2, 3]⟩,
    ⟨some 4, .alloc 3 (.int .i64 0), none, [0, 2, 3]⟩,
    ⟨some 5, .alloc 3 (.int .i64 0), none, [0, 1, 3]⟩,
    ⟨some 6, .mov (.const (.int .i64 0)), none, [0, 1, 2]⟩] false)
  (.seq (.region [⟨some 9, .mov (.tmp 0), none, [1]⟩,
    ⟨some 10, .load 2 true (.tmp 3), none, [0]⟩,
    ⟨some 11, .call (.func 13) [(.tmp 9), (.tmp 10)], none, []⟩,
    ⟨some 8, .mov (.tmp 11), none, []⟩,
    ⟨some 12, .ext (.tmp 8) 0, none, [5]⟩,
    ⟨some 13, .ext (.tmp 8) 1, none, [4, 6]⟩,
    ⟨some 7, .mov (.tmp 12), none, [5]⟩,
    ⟨some 6, .mov (.tmp 13), none, []⟩] false)
  (.seq (.region [⟨some 14, .mov (.tmp 7), none, [1]⟩,
    ⟨some 15, .mkfn 15 [] [(.tmp 5), (.tmp 4)], none, [0]⟩,
    ⟨some 16, .call (.func 14) [(.tmp 14), (.tmp 15)], none, []⟩] false)
  (.seq (.region [⟨some 17, .load 1 false (.tmp 4), none, [1, 2]⟩,
    ⟨some 18, .load 1 false (.tmp 5), none, [0, 2, 3]⟩,
    ⟨some 19, .mov (.tmp 6), none, [0, 1, 3, 4]⟩,
    ⟨none, .store 1 (.tmp 4) (.tmp 17), none, [1, 2]⟩,
    ⟨none, .store 1 (.tmp 5) (.tmp 18), none, [2]⟩,
    ⟨some 6, .mov (.tmp 19), none, []⟩] true)
  .ret))))
def a4 : AFunc := ⟨20, c4, [.cell 4 1 false, .cell 5 1 false, .tmp 6]⟩

def c5 : ACode :=
  (.seq (.region [⟨some 0, .mov (.const (.slice none 0 0)), none, []⟩] false)
  (.seq (.region [⟨some 4, .call (.func 10) [(.const (.int .u8 1)), (.const (.int .i64 1))], none, [4, 6]⟩,
    ⟨some 5, .fld 0 3 true (.tmp 4), none, [2, 3, 4, 6]⟩,
    ⟨some 6, .call (.func 10) [(.const (.int .u8 1)), (.const (.int .i64 1))], none, [1, 4, 6]⟩,
    ⟨some 7, .build (.agg #[(.int .u8 0), (.int .u32 0), (.int .u8 0), (.int .i64 0), (.int .i64 0)]) [(0, 4, (.tmp 6)), (4, 1, (.const (.int .i64 3)))], none, [1, 4, 6]⟩,
    ⟨some 8, .bsl 21 1 (.int .i32 0) 3 [(0, 1, (.const (.int .i32 97))), (1, 1, (.const (.int .i32 98))), (2, 1, (.const (.int .i32 99)))], none, [0, 1, 2, 3, 6]⟩,
    ⟨some 9, .build (.agg #[(.int .u8 0), (.int .u8 0), (.int .u32 0), (.int .u8 0), (.int .i64 0), (.int .u8 0), (.int .u32 0), (.int .u8 0), (.int .i64 0), (.int .i64 0), (.int .u8 0), (.int .u32 0), (.int .u8 0), (.int .i64 0), (.int .u8 0), (.int .u32 0), (.slice none 0 0)]) [(0, 1, (.const (.int .u8 1))), (1, 3, (.tmp 5)), (4, 1, (.const (.int .i64 1))), (5, 5, (.tmp 7)), (16, 1, (.tmp 8))], none, [6]⟩,
    ⟨some 1, .alloc 47 (.agg #[(.int .u8 0), (.int .u8 0), (.int .u32 0), (.int .u8 0), (.int .i64 0), (.int .u8 0), (.int .u32 0), (.int .u8 0), (.int .i64 0), (.int .i64 0), (.int .u8 0), (.int .u32 0), (.int .u8 0), (.int .i64 0), (.int .u8 0), (.int .u32 0), (.slice none 0 0)]), none, [0, 1, 2, 3, 4, 5]⟩,
    ⟨none, .store 17 (.tmp 1) (.tmp 9), none, []⟩] false)
  (.seq (.region [⟨some 10, .call (.func 10) [(.const (.int .u8 2)), (.const (.int .i64 1))], none, [5, 7]⟩,
    ⟨some 11, .fld 0 3 true (.tmp 10), none, [2, 3, 4, 5, 7]⟩,
    ⟨some 12, .call (.func 10) [(.const (.int .u8 2)), (.const (.int .i64 5))], none, [1, 5, 7]⟩,
    ⟨some 13, .build (.agg #[(.int .u8 0), (.int .u32 0), (.int .u8 0), (.int .i64 0), (.int .i64 0)]) [(0, 4, (.tmp 12)), (4, 1, (.const (.int .i64 1)))], none, [1, 4, 5, 7]⟩,
    ⟨some 14, .call (.func 10) [(.const (.int .u8 1)), (.const (.int .i64 2))], none, [1, 3, 5, 7]⟩,
    ⟨some 15, .bsl 21 1 (.int .i32 0) 1 [(0, 1, (.const (.int .i32 100)))], none, [0, 1, 2, 3, 4, 7]⟩,
    ⟨some 16, .build (.agg #[(.int .u8 0), (.int .u8 0), (.int .u32 0), (.int .u8 0), (.int .i64 0), (.int .u8 0), (.int .u32 0), (.int .u8 0), (.int .i64 0), (.int .i64 0), (.int .u8 0), (.int .u32 0), (.int .u8 0), (.int .i64 0), (.int .u8 0), (.int .u32 0), (.slice none 0 0)]) [(0, 1, (.const (.int .u8 1))), (1, 3, (.tmp 11)), (4, 1, (.const (.int .i64 1))), (5, 5, (.tmp 13)), (10, 4, (.tmp 14)), (16, 1, (.tmp 15))], none, [7]⟩,
    ⟨some 2, .alloc 47 (.agg #[(.int .u8 0), (.int .u8 0), (.int .u32 0), (.int .u8 0), (.int .i64 0), (.int .u8 0), (.int .u32 0), (.int .u8 0), (.int .i64 0), (.int .i64 0), (.int .u8 0), (.int .u32 0), (.int .u8 0), (.int .i64 0), (.int .u8 0), (.int .u32 0), (.slice none 0 0)]), none, [0, 1, 2, 3, 4, 5, 6]⟩,
    ⟨none, .store 17 (.tmp 2) (.tmp 16), none, []⟩] false)
  (.seq (.region [⟨some 17, .call (.func 10) [(.const (.int .u8 1)), (.const (.int .i64 1))], none, [6]⟩,
    ⟨some 18, .fld 0 3 true (.tmp 17), none, [2, 3, 4, 6]⟩,
    ⟨some 19, .call (.func 10) [(.const (.int .u8 1)), (.const (.int .i64 1))], none, [1, 6]⟩,
    ⟨some 20, .build (.agg #[(.int .u8 0), (.int .u32 0), (.int .u8 0), (.int .i64 0), (.int .i64 0)]) [(0, 4, (.tmp 19)), (4, 1, (.const (.int .i64 1)))], none, [1, 4, 6]⟩,
    ⟨some 21, .call (.func 6) [(.const (.int .u8 2))], none, [1, 3, 6]⟩,
    ⟨some 22, .build (.agg #[(.int .u8 0), (.int .u8 0), (.int .u32 0), (.int .u8 0), (.int .i64 0), (.int .u8 0), (.int .u32 0), (.int .u8 0), (.int .i64 0), (.int .i64 0), (.int .u8 0), (.int .u32 0), (.int .u8 0), (.int .i64 0), (.int .u8 0), (.int .u32 0), (.slice none 0 0)]) [(0, 1, (.const (.int .u8 3))), (1, 3, (.tmp 18)), (4, 1, (.const (.int .i64 2))), (5, 5, (.tmp 20)), (14, 2, (.tmp 21))], none, [6]⟩,
    ⟨some 3, .alloc 47 (.agg #[(.int .u8 0), (.int .u8 0), (.int .u32 0), (.int .u8 0), (.int .i64 0), (.int .u8 0), (.int .u32 0), (.int .u8 0), (.int .i64 0), (.int .i64 0), (.int .u8 0), (.int .u32 0), (.int .u8 0), (.int .i64 0), (.int .u8 0), (.int .u32 0), (.slice none 0 0)]), none, [0, 1, 2, 3, 4, 5]⟩,
    ⟨none, .store 17 (.tmp 3) (.tmp 22), none, []⟩] false)
  (.seq (.region [⟨some 23, .load 17 true (.tmp 1), none, [1, 2]⟩,
    ⟨some 24, .load 17 true (.tmp 2), none, [0, 2]⟩,
    ⟨some 25, .load 17 true (.tmp 3), none, [0, 1]⟩,
    ⟨some 26, .bsl 47 17 (.agg #[(.int .u8 0), (.int .u8 0), (.int .u32 0), (.int .u8 0), (.int .i64 0), (.int .u8 0), (.int .u32 0), (.int .u8 0), (.int .i64 0), (.int .i64 0), (.int .u8 0), (.int .u32 0), (.int .u8 0), (.int .i64 0), (.int .u8 0), (.int .u32 0), (.slice none 0 0)]) 3 [(0, 17, (.tmp 23)), (17, 17, (.tmp 24)), (34, 17, (.tmp 25))], none, []⟩,
    ⟨some 0, .mov (.tmp 26), none, []⟩] false)
  .ret)))))
def a5 : AFunc := ⟨27, c5, [.tmp 0]⟩

def c6 : ACode :=
  (.seq (.region [⟨some 2, .alloc 29 (.agg #[(.int .u8 0), (.int .u32 0)]), none, []⟩] false)
  (.seq (.region [⟨some 3, .mov (.tmp 0), none, []⟩,
    ⟨some 4, .build (.agg #[(.int .u8 0), (.int .u32 0)]) [(0, 1, (.tmp 3))], none, []⟩,
    ⟨none, .store 2 (.tmp 2) (.tmp 4), none, []⟩] false)
  .ret))
def a6 : AFunc := ⟨5, c6, [.cell 2 2 true]⟩

def c7 : ACode :=
  (.seq (.region [⟨some 4, .box 29 (.tmp 1), none, [1, 2]⟩,
    ⟨some 6, .alloc 34 (.agg #[(.int .u8 0), (.int .u32 0), (.int .u8 0), (.int .i64 0)]), none, [0, 2]⟩,
    ⟨some 7, .mov (.const (.int .i64 0)), none, [0, 1]⟩] false)
  (.seq (.region [⟨some 11, .mov (.tmp 0), none, [1]⟩,
    ⟨some 12, .load 2 true (.tmp 4), none, [0]⟩,
    ⟨some 13, .call (.func 13) [(.tmp 11), (.tmp 12)], none, []⟩,
    ⟨some 10, .mov (.tmp 13), none, []⟩,
    ⟨some 14, .ext (.tmp 10) 0, none, [5]⟩,
    ⟨some 15, .ext (.tmp 10) 1, none, [4, 6]⟩,
    ⟨some 8, .mov (.tmp 14), none, [5]⟩,
    ⟨some 9, .mov (.tmp 15), none, []⟩] false)
  (.seq (.block 0 (.seq (.region [⟨some 17, .mov (.tmp 9), none, []⟩,
      ⟨some 18, .pur (mkO (.binOp .neq 22 (.tmp 17) (.const (.int .i64 0)) 22) 4), none, []⟩,
      ⟨some 16, .mov (.tmp 18), none, []⟩] false)
    (.cond (.tmp 16)
      (.seq (.region [⟨some 19, .build (.agg #[(.int .u8 0), (.int .u32 0), (.int .u8 0), (.int .i64 0)]) [], none, [1]⟩,
        ⟨some 20, .mov (.tmp 9), none, [0, 2]⟩,
        ⟨none, .store 4 (.tmp 6) (.tmp 19), none, [1]⟩,
        ⟨some 7, .mov (.tmp 20), none, []⟩] false)
      .ret)
      (.seq (.region [⟨some 22, .mov (.tmp 2), none, []⟩,
        ⟨some 23, .pur (mkO (.binOp .lss 3 (.tmp 22) (.const (.int .i64 0)) 3) 4), none, []⟩,
        ⟨some 24, .mov (.tmp 23), none, []⟩,
        ⟨some 25, .mov (.tmp 2), some (24, false), [4, 5]⟩,
        ⟨some 26, .mov (.tmp 8), some (24, false), [3]⟩,
        ⟨some 27, .len (.tmp 26), some (24, false), [3]⟩,
        ⟨some 28, .pur (mkO (.binOp .gtr 3 (.tmp 25) (.tmp 27) 3) 4), some (24, false), []⟩,
        ⟨some 29, .pick (.tmp 24) (.const (.bool true)) (.tmp 28), none, []⟩,
        ⟨some 21, .mov (.tmp 29), none, []⟩] false)
      (.cond (.tmp 21)
        (.seq (.region [⟨some 30, .build (.agg #[(.int .u8 0), (.int .u32 0), (.int .u8 0), (.int .i64 0)]) [], none, []⟩,
          ⟨none, .store 4 (.tmp 6) (.tmp 30), none, []⟩,
          ⟨some 7, .mov (.const (.int .i64 2)), none, []⟩] false)
        .ret)
        (.seq (.region [⟨some 32, .mov (.tmp 2), none, []⟩,
          ⟨some 33, .pur (mkO (.binOp .eql 3 (.tmp 32) (.const (.int .i64 0)) 3) 4), none, []⟩,
          ⟨some 31, .mov (.tmp 33), none, []⟩] false)
        (.cond (.tmp 31)
          (.seq (.region [⟨some 34, .build (.agg #[(.int .u8 0), (.int .u32 0), (.int .u8 0), (.int .i64 0)]) [], none, []⟩,
            ⟨none, .store 4 (.tmp 6) (.tmp 34), none, []⟩,
            ⟨some 7, .mov (.const (.int .i64 0)), none, []⟩] false)
          .ret)
          .skip)))))))
  (.seq (.region [⟨some 35, .mov (.tmp 8), none, [1, 2]⟩,
    ⟨some 36, .mov (.tmp 2), none, [0]⟩,
    ⟨some 37, .pur (mkO (.binOp .sub 3 (.tmp 36) (.const (.int .i64 1)) 3) 3), none, [0]⟩,
    ⟨some 38, .iad 5 (.tmp 35) (.tmp 37), none, []⟩,
    ⟨some 39, .fad 0 (.tmp 38), none, []⟩,
    ⟨some 40, .load 4 true (.tmp 39), none, []⟩,
    ⟨none, .store 4 (.tmp 6) (.tmp 40), none, []⟩,
    ⟨some 7, .mov (.const (.int .i64 0)), none, []⟩] false)
  .ret))))
def a7 : AFunc := ⟨41, c7, [.cell 6 4 true, .tmp 7]⟩

def c8 : ACode :=
  (.seq (.region [⟨some 5, .box 29 (.tmp 1), none, [1, 2]⟩,
    ⟨some 8, .mov (.const (.slice none 0 0)), none, [0]⟩,
    ⟨some 9, .mov (.const (.int .i64 0)), none, [0]⟩] false)
  (.seq (.region [⟨some 18, .mov (.tmp 0), none, [1]⟩,
    ⟨some 19, .load 2 true (.tmp 5), none, [0]⟩,
    ⟨some 20, .call (.func 13) [(.tmp 18), (.tmp 19)], none, []⟩,
    ⟨some 17, .mov (.tmp 20), none, []⟩,
    ⟨some 21, .ext (.tmp 17) 0, none, [5]⟩,
    ⟨some 22, .ext (.tmp 17) 1, none, [4, 6]⟩,
    ⟨some 10, .mov (.tmp 21), none, [5]⟩,
    ⟨some 9, .mov (.tmp 22), none, []⟩] false)
  (.seq (.seq (.region [⟨some 23, .mov (.tmp 9), none, []⟩,
    ⟨some 24, .pur (mkO (.binOp .neq 22 (.tmp 23) (.const (.int .i64 0)) 22) 4), none, []⟩] false)
  (.cond (.tmp 24)
    (.seq (.region [⟨some 25, .mov (.tmp 9), none, [1]⟩,
      ⟨some 8, .mov (.const (.slice none 0 0)), none, [0]⟩,
      ⟨some 9, .mov (.tmp 25), none, []⟩] false)
    .ret)
    .skip))
  (.seq (.seq (.region [⟨some 26, .mov (.tmp 2), none, []⟩,
    ⟨some 27, .pur (mkO (.binOp .lss 3 (.tmp 26) (.const (.int .i64 0)) 3) 4), none, []⟩,
    ⟨some 28, .mov (.tmp 27), none, []⟩,
    ⟨some 29, .mov (.tmp 2), some (28, false), [4, 5]⟩,
    ⟨some 30, .mov (.tmp 10), some (28, false), [3]⟩,
    ⟨some 31, .len (.tmp 30), some (28, false), [3]⟩,
    ⟨some 32, .pur (mkO (.binOp .gtr 3 (.tmp 29) (.tmp 31) 3) 4), some (28, false), []⟩,
    ⟨some 33, .pick (.tmp 28) (.const (.bool true)) (.tmp 32), none, []⟩,
    ⟨some 34, .mov (.tmp 33), none, []⟩,
    ⟨some 35, .mov (.tmp 3), some (34, false), []⟩,
    ⟨some 36, .pur (mkO (.binOp .lss 3 (.tmp 35) (.const (.int .i64 1)) 3) 4), some (34, false), []⟩,
    ⟨some 37, .pick (.tmp 34) (.const (.bool true)) (.tmp 36), none, []⟩,
    ⟨some 38, .mov (.tmp 37), none, []⟩,
    ⟨some 39, .mov (.tmp 3), some (38, false), [14, 15, 16, 17]⟩,
    ⟨some 40, .mov (.tmp 10), some (38, false), [13, 16]⟩,
    ⟨some 41, .len (.tmp 40), some (38, false), [13, 16]⟩,
    ⟨some 42, .mov (.tmp 2), some (38, false), [13, 14, 15]⟩,
    ⟨some 43, .pur (mkO (.binOp .sub 3 (.tmp 41) (.tmp 42) 3) 3), some (38, false), [13]⟩,
    ⟨some 44, .pur (mkO (.binOp .gtr 3 (.tmp 39) (.tmp 43) 3) 4), some (38, false), []⟩,
    ⟨some 45, .pick (.tmp 38) (.const (.bool true)) (.tmp 44), none, []⟩] false)
  (.cond (.tmp 45)
    (.seq (.region [⟨some 8, .mov (.const (.slice none 0 0)), none, []⟩,
      ⟨some 9, .mov (.const (.int .i64 2)), none, []⟩] false)
    .ret)
    .skip))
  (.seq (.seq (.region [⟨some 46, .mov (.tmp 10), none, [1, 2, 3, 4, 7]⟩,
    ⟨some 47, .mov (.tmp 2), none, [0, 2, 3, 4, 7]⟩,
    ⟨some 48, .mov (.tmp 2), none, [0, 1, 3, 7]⟩,
    ⟨some 49, .mov (.tmp 3), none, [0, 1, 2, 7]⟩,
    ⟨some 50, .pur (mkO (.binOp .add 3 (.tmp 48) (.tmp 49) 3) 3), none, [0, 1, 7]⟩,
    ⟨some 51, .slc 5 (.tmp 46) (some (.tmp 47)) (some (.tmp 50)) none, none, [7]⟩,
    ⟨some 52, .len (.tmp 51), none, [7]⟩,
    ⟨some 53, .mov (.const (.int .i64 0)), none, [0, 1, 2, 3, 4, 5, 6]⟩] false)
  (.block 0 (.loop (.seq (.region [⟨some 54, .pur (mkO (.binOp .lss 3 (.tmp 53) (.tmp 52) 3) 0), none, []⟩] false)
      (.seq (.cond (.tmp 54)
        .skip
        (.exit 0))
      (.seq (.block 1 (.seq (.region [⟨some 55, .iad 5 (.tmp 51) (.tmp 53), none, [2]⟩,
          ⟨some 56, .load 5 true (.tmp 55), none, [2]⟩,
          ⟨some 12, .alloc 56 (.agg #[(.int .u8 0), (.int .u32 0), (.int .u8 0), (.int .i64 0), (.int .i32 0)]), none, [0, 1]⟩,
          ⟨none, .store 5 (.tmp 12) (.tmp 56), none, []⟩] false)
        (.seq (.seq (.region [⟨some 57, .mov (.tmp 8), none, []⟩,
          ⟨some 58, .len (.tmp 57), none, []⟩,
          ⟨some 59, .pur (mkO (.binOp .sub 3 (.tmp 58) (.const (.int .i64 1)) 3) 3), none, []⟩,
          ⟨some 13, .mov (.tmp 59), none, []⟩] false)
        (.seq (.region [⟨some 60, .mov (.tmp 13), none, []⟩,
          ⟨some 61, .pur (mkO (.binOp .geq 3 (.tmp 60) (.const (.int .i64 0)) 3) 4), none, []⟩] false)
        (.cond (.tmp 61)
          (.seq (.region [⟨some 62, .mov (.tmp 8), none, [1, 5, 6, 7, 8, 9, 10, 12]⟩,
            ⟨some 63, .mov (.tmp 13), none, [0, 5, 6, 7, 8, 9, 10, 12]⟩,
            ⟨some 64, .iad 5 (.tmp 62) (.tmp 63), none, [5, 6, 7, 8, 9, 10, 12]⟩,
            ⟨some 65, .fad 0 (.tmp 64), none, [5, 6, 7, 8, 9, 10, 12]⟩,
            ⟨some 66, .load 4 true (.tmp 65), none, [5, 6, 7, 8, 9, 10, 12]⟩,
            ⟨some 67, .mov (.tmp 8), none, [0, 1, 2, 3, 4, 6, 12]⟩,
            ⟨some 68, .mov (.tmp 13), none, [0, 1, 2, 3, 4, 5, 12]⟩,
            ⟨some 69, .iad 5 (.tmp 67) (.tmp 68), none, [0, 1, 2, 3, 4, 12]⟩,
            ⟨some 70, .fad 4 (.tmp 69), none, [0, 1, 2, 3, 4, 12]⟩,
            ⟨some 71, .load 1 false (.tmp 70), none, [0, 1, 2, 3, 4, 12]⟩,
            ⟨some 72, .pur (mkO (.binOp .add 3 (.tmp 71) (.const (.int .i64 1)) 3) 3), none, [0, 1, 2, 3, 4, 12]⟩,
            ⟨some 73, .build (.agg #[(.int .u8 0), (.int .u32 0), (.int .u8 0), (.int .i64 0), (.int .i64 0)]) [(0, 4, (.tmp 66)), (4, 1, (.tmp 72))], none, [12]⟩,
            ⟨some 14, .alloc 44 (.agg #[(.int .u8 0), (.int .u32 0), (.int .u8 0), (.int .i64 0), (.int .i64 0)]), none, [0, 1, 2, 3, 4, 5, 6, 7, 8, 9, 10, 11]⟩,
            ⟨none, .store 5 (.tmp 14) (.tmp 73), none, []⟩] true)
          (.seq (.region [⟨some 75, .load 5 true (.tmp 14), none, [1, 2]⟩,
            ⟨some 76, .fad 0 (.tmp 12), none, [0]⟩,
            ⟨some 77, .load 4 true (.tmp 76), none, [0]⟩,
            ⟨some 78, .call (.func 16) [(.tmp 75), (.tmp 77)], none, []⟩,
            ⟨some 74, .mov (.tmp 78), none, []⟩,
            ⟨some 79, .ext (.tmp 74) 0, none, [6]⟩,
            ⟨some 80, .ext (.tmp 74) 1, none, [5, 7]⟩,
            ⟨some 15, .mov (.tmp 79), none, [6]⟩,
            ⟨some 16, .mov (.tmp 80), none, []⟩] false)
          (.seq (.region [⟨some 81, .mov (.tmp 16), none, []⟩,
            ⟨some 82, .mov (.tmp 81), none, []⟩,
            ⟨some 83, .mov (.tmp 15), some (82, true), [3, 4, 5, 6, 7]⟩,
            ⟨some 84, .mov (.tmp 8), some (82, true), [2, 4]⟩,
            ⟨some 85, .mov (.tmp 13), some (82, true), [2, 3]⟩,
            ⟨some 86, .iad 5 (.tmp 84) (.tmp 85), some (82, true), [2]⟩,
            ⟨some 87, .fad 4 (.tmp 86), some (82, true), [2]⟩,
            ⟨some 88, .load 1 false (.tmp 87), some (82, true), [2]⟩,
            ⟨some 89, .pur (mkO (.binOp .eql 3 (.tmp 83) (.tmp 88) 3) 4), some (82, true), []⟩,
            ⟨some 90, .pick (.tmp 82) (.tmp 89) (.const (.bool false)), none, []⟩] false)
          (.cond (.tmp 90)
            (.seq (.region [⟨some 91, .mov (.tmp 8), none, [1, 2]⟩,
              ⟨some 92, .mov (.tmp 13), none, [0, 2]⟩,
              ⟨some 93, .load 5 true (.tmp 14), none, [0, 1]⟩,
              ⟨some 94, .iad 5 (.tmp 91) (.tmp 92), none, []⟩,
              ⟨none, .store 5 (.tmp 94) (.tmp 93), none, []⟩] false)
            (.exit 1))
            .skip))))
          .skip)))
        (.region [⟨some 95, .mov (.tmp 8), none, [1, 2, 3, 4]⟩,
          ⟨some 96, .fad 0 (.tmp 12), none, [0]⟩,
          ⟨some 97, .load 4 true (.tmp 96), none, [0]⟩,
          ⟨some 98, .build (.agg #[(.int .u8 0), (.int .u32 0), (.int .u8 0), (.int .i64 0), (.int .i64 0)]) [(0, 4, (.tmp 97)), (4, 1, (.const (.int .i64 1)))], none, [0]⟩,
          ⟨some 99, .bsl 44 5 (.agg #[(.int .u8 0), (.int .u32 0), (.int .u8 0), (.int .i64 0), (.int .i64 0)]) 1 [(0, 5, (.tmp 98))], none, [0]⟩,
          ⟨some 100, .app 44 5 32 (.agg #[(.int .u8 0), (.int .u32 0), (.int .u8 0), (.int .i64 0), (.int .i64 0)]) (.tmp 95) (.tmp 99), none, []⟩,
          ⟨some 8, .mov (.tmp 100), none, []⟩] false))))
      (.region [⟨some 101, .pur (mkO (.binOp .add 3 (.tmp 53) (.const (.int .i64 1)) 3) 3), none, []⟩,
        ⟨some 53, .mov (.tmp 101), none, []⟩] false)))))))
  (.seq (.region [⟨some 102, .mov (.tmp 8), none, []⟩,
    ⟨some 8, .mov (.tmp 102), none, []⟩,
    ⟨some 9, .mov (.const (.int .i64 0)), none, []⟩] false)
  .ret))))))
def a8 : AFunc := ⟨103, c8, [.tmp 8, .tmp 9]⟩

def c9 : ACode :=
  (.seq (.region [⟨some 3, .box 32 (.tmp 1), none, [1, 2]⟩,
    ⟨some 4, .mov (.const (.int .i64 0)), none, [0]⟩,
    ⟨some 5, .mov (.const (.int .i64 0)), none, [0]⟩] false)
  (.seq (.region [⟨some 13, .mov (.tmp 0), none, []⟩,
    ⟨some 14, .call (.func 17) [(.tmp 13)], none, []⟩,
    ⟨some 12, .mov (.tmp 14), none, []⟩,
    ⟨some 15, .ext (.tmp 12) 0, none, [4]⟩,
    ⟨some 16, .ext (.tmp 12) 1, none, [3, 5]⟩,
    ⟨some 6, .mov (.tmp 15), none, [4]⟩,
    ⟨some 7, .mov (.tmp 16), none, []⟩] false)
  (.seq (.seq (.region [⟨some 17, .mov (.tmp 7), none, []⟩,
    ⟨some 18, .pur (mkO (.binOp .neq 22 (.tmp 17) (.const (.int .i64 0)) 22) 4), none, []⟩] false)
  (.cond (.tmp 18)
    (.seq (.region [⟨some 19, .mov (.tmp 7), none, [1]⟩,
      ⟨some 4, .mov (.const (.int .i64 0)), none, [0]⟩,
      ⟨some 5, .mov (.tmp 19), none, []⟩] false)
    .ret)
    .skip))
  (.seq (.seq (.region [⟨some 20, .load 3 true (.tmp 3), none, []⟩,
    ⟨some 21, .call (.func 18) [(.tmp 20)], none, []⟩,
    ⟨some 8, .mov (.tmp 21), none, []⟩] false)
  (.seq (.region [⟨some 22, .mov (.tmp 8), none, []⟩,
    ⟨some 23, .pur (mkO (.binOp .neq 22 (.tmp 22) (.const (.int .i64 0)) 22) 4), none, []⟩] false)
  (.cond (.tmp 23)
    (.seq (.region [⟨some 24, .mov (.tmp 8), none, [1]⟩,
      ⟨some 4, .mov (.const (.int .i64 0)), none, [0]⟩,
      ⟨some 5, .mov (.tmp 24), none, []⟩] false)
    .ret)
    .skip)))
  (.seq (.region [⟨some 9, .mov (.const (.int .i64 0)), none, []⟩] false)
  (.seq (.seq (.region [⟨some 25, .mov (.tmp 6), none, [3]⟩,
    ⟨some 26, .call (.func 19) [(.tmp 25)], none, [3]⟩,
    ⟨some 27, .len (.tmp 26), none, [3]⟩,
    ⟨some 28, .mov (.const (.int .i64 0)), none, [0, 1, 2]⟩] false)
  (.block 0 (.loop (.seq (.region [⟨some 29, .pur (mkO (.binOp .lss 3 (.tmp 28) (.tmp 27) 3) 0), none, []⟩] false)
      (.seq (.cond (.tmp 29)
        .skip
        (.exit 0))
      (.seq (.block 1 (.seq (.region [⟨some 30, .iad 5 (.tmp 26) (.tmp 28), none, [2]⟩,
          ⟨some 31, .load 5 true (.tmp 30), none, [2]⟩,
          ⟨some 11, .alloc 56 (.agg #[(.int .u8 0), (.int .u32 0), (.int .u8 0), (.int .i64 0), (.int .i32 0)]), none, [0, 1]⟩,
          ⟨none, .store 5 (.tmp 11) (.tmp 31), none, []⟩] false)
        (.seq (.region [⟨some 32, .fad 0 (.tmp 11), none, [4, 5]⟩,
          ⟨some 33, .fad 0 (.tmp 32), none, [4, 5]⟩,
          ⟨some 34, .fad 0 (.tmp 33), none, [4, 5]⟩,
          ⟨some 35, .load 2 true (.tmp 34), none, [4, 5]⟩,
          ⟨some 36, .fad 0 (.tmp 3), none, [0, 1, 2, 3]⟩,
          ⟨some 37, .load 2 true (.tmp 36), none, [0, 1, 2, 3]⟩,
          ⟨some 38, .call (.func 20) [(.tmp 35), (.tmp 37)], none, []⟩] false)
        (.cond (.tmp 38)
          (.region [⟨some 39, .mov (.tmp 9), none, [1, 2, 3]⟩,
            ⟨some 40, .fad 0 (.tmp 11), none, [0]⟩,
            ⟨some 41, .fad 3 (.tmp 40), none, [0]⟩,
            ⟨some 42, .load 1 false (.tmp 41), none, [0]⟩,
            ⟨some 43, .pur (mkO (.call ⟨.builtin .max, #[(.tmp 39), (.tmp 42)], #[3, 3]⟩) 3), none, []⟩,
            ⟨some 9, .mov (.tmp 43), none, []⟩] false)
          .skip))))
      (.region [⟨some 44, .pur (mkO (.binOp .add 3 (.tmp 28) (.const (.int .i64 1)) 3) 3), none, []⟩,
        ⟨some 28, .mov (.tmp 44), none, []⟩] false)))))))
  (.seq (.seq (.region [⟨some 45, .mov (.tmp 9), none, []⟩,
    ⟨some 46, .pur (mkO (.binOp .geq 3 (.tmp 45) (.const (.int .i64 1099511627776)) 3) 4), none, []⟩] false)
  (.cond (.tmp 46)
    (.seq (.region [⟨some 4, .mov (.const (.int .i64 0)), none, []⟩,
      ⟨some 5, .mov (.const (.int .i64 9)), none, []⟩] false)
    .ret)
    .skip))
  (.seq (.region [⟨some 47, .mov (.tmp 9), none, []⟩,
    ⟨some 48, .pur (mkO (.binOp .add 3 (.tmp 47) (.const (.int .i64 1)) 3) 3), none, []⟩,
    ⟨some 4, .mov (.tmp 48), none, []⟩,
    ⟨some 5, .mov (.const (.int .i64 0)), none, []⟩] false)
  .ret))))))))
def a9 : AFunc := ⟨49, c9, [.tmp 4, .tmp 5]⟩

def c10 : ACode :=
  (.seq (.region [⟨some 4, .alloc 34 (.agg #[(.int .u8 0), (.int .u32 0), (.int .u8 0), (.int .i64 0)]), none, []⟩] false)
  (.seq (.region [⟨some 5, .mov (.tmp 0), none, [3]⟩,
    ⟨some 6, .build (.agg #[(.int .u8 0), (.int .u32 0)]) [(0, 1, (.tmp 5))], none, [3]⟩,
    ⟨some 7, .build (.agg #[(.int .u8 0), (.int .u32 0), (.int .u8 0)]) [(0, 2, (.tmp 6))], none, [3]⟩,
    ⟨some 8, .mov (.tmp 1), none, [0, 1, 2]⟩,
    ⟨some 9, .build (.agg #[(.int .u8 0), (.int .u32 0), (.int .u8 0), (.int .i64 0)]) [(0, 3, (.tmp 7)), (3, 1, (.tmp 8))], none, []⟩,
    ⟨none, .store 4 (.tmp 4) (.tmp 9), none, []⟩] false)
  .ret))
def a10 : AFunc := ⟨10, c10, [.cell 4 4 true]⟩

def c11 : ACode :=
  (.seq (.region [⟨some 0, .mov (.const (.bool false)), none, []⟩] false)
  (.seq (.region [⟨some 8, .call (.func 5) [], none, []⟩,
    ⟨some 9, .call (.func 6) [(.const (.int .u8 1))], none, []⟩,
    ⟨some 10, .call (.func 13) [(.tmp 8), (.tmp 9)], none, []⟩,
    ⟨some 7, .mov (.tmp 10), none, []⟩,
    ⟨some 11, .ext (.tmp 7) 0, none, [5]⟩,
    ⟨some 12, .ext (.tmp 7) 1, none, [4, 6]⟩,
    ⟨some 1, .mov (.tmp 11), none, [5]⟩,
    ⟨some 2, .mov (.tmp 12), none, []⟩] false)
  (.seq (.region [⟨some 14, .call (.func 5) [], none, []⟩,
    ⟨some 15, .call (.func 6) [(.const (.int .u8 2))], none, []⟩,
    ⟨some 16, .call (.func 13) [(.tmp 14), (.tmp 15)], none, []⟩,
    ⟨some 13, .mov (.tmp 16), none, []⟩,
    ⟨some 17, .ext (.tmp 13) 0, none, [5]⟩,
    ⟨some 18, .ext (.tmp 13) 1, none, [4, 6]⟩,
    ⟨some 3, .mov (.tmp 17), none, [5]⟩,
    ⟨some 4, .mov (.tmp 18), none, []⟩] false)
  (.seq (.region [⟨some 19, .call (.func 10) [(.const (.int .u8 1)), (.const (.int .i64 1))], none, []⟩,
    ⟨some 20, .build (.agg #[(.int .u8 0), (.int .u32 0), (.int .u8 0), (.int .i64 0), (.int .i32 0)]) [(0, 4, (.tmp 19)), (4, 1, (.const (.int .i32 (-1))))], none, [2, 3, 4, 5]⟩,
    ⟨some 21, .call (.func 10) [(.const (.int .u8 1)), (.const (.int .i64 2))], none, [1]⟩,
    ⟨some 22, .build (.agg #[(.int .u8 0), (.int .u32 0), (.int .u8 0), (.int .i64 0), (.int .i32 0)]) [(0, 4, (.tmp 21)), (4, 1, (.const (.int .i32 98)))], none, [1, 4, 5]⟩,
    ⟨some 23, .call (.func 10) [(.const (.int .u8 1)), (.const (.int .i64 3))], none, [1, 3]⟩,
    ⟨some 24, .build (.agg #[(.int .u8 0), (.int .u32 0), (.int .u8 0), (.int .i64 0), (.int .i32 0)]) [(0, 4, (.tmp 23)), (4, 1, (.const (.int .i32 99)))], none, [1, 3]⟩,
    ⟨some 25, .bsl 56 5 (.agg #[(.int .u8 0), (.int .u32 0), (.int .u8 0), (.int .i64 0), (.int .i32 0)]) 3 [(0, 5, (.tmp 20)), (5, 5, (.tmp 22)), (10, 5, (.tmp 24))], none, []⟩,
    ⟨some 5, .mov (.tmp 25), none, []⟩] false)
  (.seq (.region [⟨some 26, .call (.func 10) [(.const (.int .u8 1)), (.const (.int .i64 1))], none, []⟩,
    ⟨some 27, .build (.agg #[(.int .u8 0), (.int .u32 0), (.int .u8 0), (.int .i64 0), (.int .i32 0)]) [(0, 4, (.tmp 26)), (4, 1, (.const (.int .i32 97)))], none, [2, 3, 4, 5, 6, 7]⟩,
    ⟨some 28, .call (.func 10) [(.const (.int .u8 1)), (.const (.int .i64 2))], none, [1]⟩,
    ⟨some 29, .build (.agg #[(.int .u8 0), (.int .u32 0), (.int .u8 0), (.int .i64 0), (.int .i32 0)]) [(0, 4, (.tmp 28)), (4, 1, (.const (.int .i32 98)))], none, [1, 4, 5, 6, 7]⟩,
    ⟨some 30, .call (.func 10) [(.const (.int .u8 2)), (.const (.int .i64 5))], none, [1, 3]⟩,
    ⟨some 31, .build (.agg #[(.int .u8 0), (.int .u32 0), (.int .u8 0), (.int .i64 0), (.int .i32 0)]) [(0, 4, (.tmp 30)), (4, 1, (.const (.int .i32 100)))], none, [1, 3, 6, 7]⟩,
    ⟨some 32, .call (.func 10) [(.const (.int .u8 1)), (.const (.int .i64 3))], none, [1, 3, 5]⟩,
    ⟨some 33, .build (.agg #[(.int .u8 0), (.int .u32 0), (.int .u8 0), (.int .i64 0), (.int .i32 0)]) [(0, 4, (.tmp 32)), (4, 1, (.const (.int .i32 99)))], none, [1, 3, 5]⟩,
    ⟨some 34, .bsl 56 5 (.agg #[(.int .u8 0), (.int .u32 0), (.int .u8 0), (.int .i64 0), (.int .i32 0)]) 4 [(0, 5, (.tmp 27)), (5, 5, (.tmp 29)), (10, 5, (.tmp 31)), (15, 5, (.tmp 33))], none, []⟩,
    ⟨some 6, .mov (.tmp 34), none, []⟩] false)
  (.seq (.region [⟨some 35, .mov (.tmp 2), none, []⟩,
    ⟨some 36, .pur (mkO (.binOp .eql 22 (.tmp 35) (.const (.int .i64 0)) 22) 4), none, []⟩,
    ⟨some 37, .mov (.tmp 36), none, []⟩,
    ⟨some 38, .mov (.tmp 1), some (37, true), [4]⟩,
    ⟨some 39, .mov (.tmp 5), some (37, true), [3]⟩,
    ⟨some 40, .call (.func 21) [(.tmp 38), (.tmp 39)], some (37, true), []⟩,
    ⟨some 41, .pick (.tmp 37) (.tmp 40) (.const (.bool false)), none, []⟩,
    ⟨some 42, .mov (.tmp 41), none, []⟩,
    ⟨some 43, .mov (.tmp 4), some (42, true), []⟩,
    ⟨some 44, .pur (mkO (.binOp .eql 22 (.tmp 43) (.const (.int .i64 0)) 22) 4), some (42, true), []⟩,
    ⟨some 45, .pick (.tmp 42) (.tmp 44) (.const (.bool false)), none, []⟩,
    ⟨some 46, .mov (.tmp 45), none, []⟩,
    ⟨some 47, .mov (.tmp 3), some (46, true), [13]⟩,
    ⟨some 48, .mov (.tmp 6), some (46, true), [12]⟩,
    ⟨some 49, .call (.func 21) [(.tmp 47), (.tmp 48)], some (46, true), []⟩,
    ⟨some 50, .pick (.tmp 46) (.tmp 49) (.const (.bool false)), none, []⟩,
    ⟨some 0, .mov (.tmp 50), none, []⟩] false)
  .ret))))))
def a11 : AFunc := ⟨51, c11, [.tmp 0]⟩

def c12 : ACode :=
  (.seq (.region [⟨some 4, .mov (.const (.bool false)), none, []⟩] false)
  (.seq (.seq (.region [⟨some 6, .mov (.tmp 0), none, [2, 3]⟩,
    ⟨some 7, .len (.tmp 6), none, [2, 3]⟩,
    ⟨some 8, .mov (.tmp 1), none, [0, 1]⟩,
    ⟨some 9, .len (.tmp 8), none, [0, 1]⟩,
    ⟨some 10, .pur (mkO (.binOp .neq 3 (.tmp 7) (.tmp 9) 3) 4), none, []⟩] false)
  (.cond (.tmp 10)
    (.seq (.region [⟨some 4, .mov (.const (.bool false)), none, []⟩] false)
    .ret)
    .skip))
  (.seq (.seq (.region [⟨some 5, .mov (.const (.int .i64 0)), none, []⟩] false)
  (.block 0 (.loop (.seq (.seq (.region [⟨some 11, .mov (.tmp 5), none, [1, 2]⟩,
        ⟨some 12, .mov (.tmp 0), none, [0]⟩,
        ⟨some 13, .len (.tmp 12), none, [0]⟩,
        ⟨some 14, .pur (mkO (.binOp .lss 3 (.tmp 11) (.tmp 13) 3) 4), none, []⟩] false)
      (.cond (.tmp 14)
        .skip
        (.exit 0)))
      (.seq (.block 1 (.seq (.region [⟨some 17, .mov (.tmp 0), none, [1, 4, 5, 6, 7]⟩,
          ⟨some 18, .mov (.tmp 5), none, [0, 4, 5, 6, 7]⟩,
          ⟨some 19, .iad 5 (.tmp 17) (.tmp 18), none, [4, 5, 6, 7]⟩,
          ⟨some 20, .load 5 true (.tmp 19), none, [4, 5, 6, 7]⟩,
          ⟨some 21, .mov (.tmp 1), none, [0, 1, 2, 3, 5]⟩,
          ⟨some 22, .mov (.tmp 5), none, [0, 1, 2, 3, 4]⟩,
          ⟨some 23, .iad 5 (.tmp 21) (.tmp 22), none, [0, 1, 2, 3]⟩,
          ⟨some 24, .load 5 true (.tmp 23), none, [0, 1, 2, 3]⟩,
          ⟨some 25, .pur (mkO (.binOp .neq 44 (.tmp 20) (.tmp 24) 44) 4), none, []⟩] true)
        (.cond (.tmp 25)
          (.seq (.region [⟨some 4, .mov (.const (.bool false)), none, []⟩] false)
          .ret)
          .skip)))
      (.region [⟨some 15, .mov (.tmp 5), none, []⟩,
        ⟨some 16, .pur (mkO (.binOp .add 3 (.tmp 15) (.const (.int .i64 1)) 3) 3), none, []⟩,
        ⟨some 5, .mov (.tmp 16), none, []⟩] false))))))
  (.seq (.region [⟨some 4, .mov (.const (.bool true)), none, []⟩] false)
  .ret))))
def a12 : AFunc := ⟨26, c12, [.tmp 4]⟩

def c13 : ACode :=
  (.seq (.region [⟨some 3, .box 29 (.tmp 1), none, [1, 2]⟩,
    ⟨some 4, .mov (.const (.slice none 0 0)), none, [0]⟩,
    ⟨some 5, .mov (.const (.int .i64 0)), none, [0]⟩] false)
  (.seq (.region [⟨some 10, .mov (.tmp 0), none, [1, 6]⟩,
    ⟨some 11, .load 2 true (.tmp 3), none, [0, 6]⟩,
    ⟨some 12, .call (.func 22) [(.tmp 10), (.tmp 11)], none, [6]⟩,
    ⟨some 9, .mov (.tmp 12), none, [6]⟩,
    ⟨some 13, .ext (.tmp 9) 0, none, [5, 6]⟩,
    ⟨some 14, .ext (.tmp 9) 1, none, [4, 6, 7]⟩,
    ⟨some 6, .alloc 25 (.slice none 0 0), none, [0, 1, 2, 3, 4, 5]⟩,
    ⟨none, .store 1 (.tmp 6) (.tmp 13), none, [5]⟩,
    ⟨some 7, .mov (.tmp 14), none, []⟩] false)
  (.seq (.seq (.region [⟨some 15, .mov (.tmp 7), none, []⟩,
    ⟨some 16, .pur (mkO (.binOp .neq 22 (.tmp 15) (.const (.int .i64 0)) 22) 4), none, []⟩] false)
  (.cond (.tmp 16)
    (.seq (.region [⟨some 17, .mov (.tmp 7), none, [1]⟩,
      ⟨some 4, .mov (.const (.slice none 0 0)), none, [0]⟩,
      ⟨some 5, .mov (.tmp 17), none, []⟩] false)
    .ret)
    .skip))
  (.seq (.region [⟨some 19, .load 1 false (.tmp 6), none, []⟩,
    ⟨some 20, .call (.func 17) [(.tmp 19)], none, []⟩,
    ⟨some 18, .mov (.tmp 20), none, []⟩,
    ⟨some 21, .ext (.tmp 18) 0, none, [4]⟩,
    ⟨some 22, .ext (.tmp 18) 1, none, [3, 5]⟩,
    ⟨some 8, .mov (.tmp 21), none, [4]⟩,
    ⟨some 7, .mov (.tmp 22), none, []⟩] false)
  (.seq (.seq (.region [⟨some 23, .mov (.tmp 7), none, []⟩,
    ⟨some 24, .pur (mkO (.binOp .neq 22 (.tmp 23) (.const (.int .i64 0)) 22) 4), none, []⟩] false)
  (.cond (.tmp 24)
    (.seq (.region [⟨some 25, .mov (.tmp 7), none, [1]⟩,
      ⟨some 4, .mov (.const (.slice none 0 0)), none, [0]⟩,
      ⟨some 5, .mov (.tmp 25), none, []⟩] false)
    .ret)
    .skip))
  (.seq (.region [⟨some 26, .mov (.tmp 8), none, [2]⟩,
    ⟨some 27, .call (.func 19) [(.tmp 26)], none, [2]⟩,
    ⟨some 28, .mkfn 24 [] [(.tmp 6), (.tmp 3)], none, [0, 1]⟩,
    ⟨some 29, .call (.func 23) [(.tmp 27), (.tmp 28)], none, []⟩,
    ⟨some 4, .mov (.tmp 29), none, []⟩,
    ⟨some 5, .mov (.const (.int .i64 0)), none, []⟩] false)
  .ret))))))
def a13 : AFunc := ⟨30, c13, [.tmp 4, .tmp 5]⟩

def c14 : ACode :=
  (.seq (.region [⟨some 4, .mov (.const (.slice none 0 0)), none, []⟩] false)
  (.seq (.seq (.region [⟨some 9, .mov (.tmp 0), none, [2]⟩,
    ⟨some 10, .len (.tmp 9), none, [2]⟩,
    ⟨some 11, .mov (.const (.int .i64 0)), none, [0, 1]⟩] false)
  (.block 0 (.loop (.seq (.region [⟨some 12, .pur (mkO (.binOp .lss 3 (.tmp 11) (.tmp 10) 3) 0), none, []⟩] false)
      (.seq (.cond (.tmp 12)
        .skip
        (.exit 0))
      (.seq (.block 1 (.seq (.region [⟨some 13, .iad 5 (.tmp 9) (.tmp 11), none, [2]⟩,
          ⟨some 14, .load 5 true (.tmp 13), none, [2]⟩,
          ⟨some 6, .alloc 56 (.agg #[(.int .u8 0), (.int .u32 0), (.int .u8 0), (.int .i64 0), (.int .i32 0)]), none, [0, 1]⟩,
          ⟨none, .store 5 (.tmp 6) (.tmp 14), none, []⟩] false)
        (.seq (.region [⟨some 16, .mov (.tmp 1), none, [1]⟩,
          ⟨some 17, .load 5 true (.tmp 6), none, [0]⟩,
          ⟨some 18, .call (.tmp 16) [(.tmp 17)], none, []⟩,
          ⟨some 15, .mov (.tmp 18), none, []⟩,
          ⟨some 19, .ext (.tmp 15) 0, none, [5]⟩,
          ⟨some 20, .ext (.tmp 15) 1, none, [4, 6]⟩,
          ⟨some 7, .mov (.tmp 19), none, [5]⟩,
          ⟨some 8, .mov (.tmp 20), none, []⟩] false)
        (.seq (.region [⟨some 21, .mov (.tmp 8), none, []⟩] false)
        (.cond (.tmp 21)
          (.region [⟨some 22, .mov (.tmp 4), none, [1, 2]⟩,
            ⟨some 23, .mov (.tmp 7), none, [0]⟩,
            ⟨some 24, .bsl 3 1 (.int .i64 0) 1 [(0, 1, (.tmp 23))], none, [0]⟩,
            ⟨some 25, .app 3 1 8 (.int .i64 0) (.tmp 22) (.tmp 24), none, []⟩,
            ⟨some 4, .mov (.tmp 25), none, []⟩] false)
          .skip)))))
      (.region [⟨some 26, .pur (mkO (.binOp .add 3 (.tmp 11) (.const (.int .i64 1)) 3) 3), none, []⟩,
        ⟨some 11, .mov (.tmp 26), none, []⟩] false)))))))
  (.seq (.region [⟨some 27, .mov (.tmp 4), none, []⟩,
    ⟨some 4, .mov (.tmp 27), none, []⟩] false)
  .ret)))
def a14 : AFunc := ⟨28, c14, [.tmp 4]⟩

def c15 : ACode :=
  (.seq (.region [⟨some 3, .box 56 (.tmp 0), none, [1, 2]⟩,
    ⟨some 4, .mov (.const (.int .i64 0)), none, [0]⟩,
    ⟨some 5, .mov (.const (.bool false)), none, [0]⟩] false)
  (.seq (.seq (.region [⟨some 6, .fad 4 (.tmp 3), none, []⟩,
    ⟨some 7, .load 1 false (.tmp 6), none, []⟩,
    ⟨some 8, .pur (mkO (.binOp .eql 21 (.tmp 7) (.const (.int .i32 (-1))) 21) 4), none, []⟩] false)
  (.cond (.tmp 8)
    (.region [⟨some 9, .load 1 false (.tmp 1), none, []⟩,
      ⟨some 10, .pur (mkO (.binOp .add 3 (.tmp 9) (.const (.int .i64 1)) 3) 3), none, []⟩,
      ⟨none, .store 1 (.tmp 1) (.tmp 10), none, []⟩] false)
    (.region [⟨some 11, .load 1 false (.tmp 2), none, []⟩,
      ⟨some 12, .pur (mkO (.binOp .add 3 (.tmp 11) (.const (.int .i64 1)) 3) 3), none, []⟩,
      ⟨none, .store 1 (.tmp 2) (.tmp 12), none, []⟩] false)))
  (.seq (.region [⟨some 4, .mov (.const (.int .i64 0)), none, []⟩,
    ⟨some 5, .mov (.const (.bool false)), none, []⟩] false)
  .ret)))
def a15 : AFunc := ⟨13, c15, [.tmp 4, .tmp 5]⟩

def c16 : ACode :=
  (.seq (.region [⟨some 2, .box 44 (.tmp 0), none, [1, 2, 3]⟩,
    ⟨some 3, .box 34 (.tmp 1), none, [0, 2, 3]⟩,
    ⟨some 4, .mov (.const (.int .i64 0)), none, [0, 1]⟩,
    ⟨some 5, .mov (.const (.bool false)), none, [0, 1]⟩] false)
  (.seq (.region [⟨some 7, .fad 3 (.tmp 3), none, [2, 3, 4]⟩,
    ⟨some 8, .load 1 false (.tmp 7), none, [2, 3, 4]⟩,
    ⟨some 9, .fad 0 (.tmp 2), none, [0, 1]⟩,
    ⟨some 10, .fad 3 (.tmp 9), none, [0, 1]⟩,
    ⟨some 11, .load 1 false (.tmp 10), none, [0, 1]⟩,
    ⟨some 12, .pur (mkO (.binOp .sub 3 (.tmp 8) (.tmp 11) 3) 3), none, []⟩,
    ⟨some 6, .mov (.tmp 12), none, []⟩] false)
  (.seq (.seq (.region [⟨some 13, .load 5 true (.tmp 2), none, []⟩,
    ⟨some 14, .call (.func 27) [(.tmp 13)], none, []⟩,
    ⟨some 15, .pur (mkO (.binOp .neq 22 (.tmp 14) (.const (.int .i64 0)) 22) 4), none, []⟩,
    ⟨some 16, .mov (.tmp 15), none, []⟩,
    ⟨some 17, .mov (.tmp 6), some (16, false), []⟩,
    ⟨some 18, .pur (mkO (.binOp .lss 3 (.tmp 17) (.const (.int .i64 0)) 3) 4), some (16, false), []⟩,
    ⟨some 19, .pick (.tmp 16) (.const (.bool true)) (.tmp 18), none, []⟩,
    ⟨some 20, .mov (.tmp 19), none, []⟩,
    ⟨some 21, .mov (.tmp 6), some (20, false), [9, 10]⟩,
    ⟨some 22, .fad 4 (.tmp 2), some (20, false), [8]⟩,
    ⟨some 23, .load 1 false (.tmp 22), some (20, false), [8]⟩,
    ⟨some 24, .pur (mkO (.binOp .geq 3 (.tmp 21) (.tmp 23) 3) 4), some (20, false), []⟩,
    ⟨some 25, .pick (.tmp 20) (.const (.bool true)) (.tmp 24), none, []⟩,
    ⟨some 26, .mov (.tmp 25), none, []⟩,
    ⟨some 27, .load 4 true (.tmp 3), some (26, false), [15, 16, 17, 18]⟩,
    ⟨some 28, .fad 0 (.tmp 2), some (26, false), [14, 17]⟩,
    ⟨some 29, .load 4 true (.tmp 28), some (26, false), [14, 17]⟩,
    ⟨some 30, .mov (.tmp 6), some (26, false), [14, 15, 16]⟩,
    ⟨some 31, .call (.func 28) [(.tmp 29), (.tmp 30)], some (26, false), [14]⟩,
    ⟨some 32, .pur (mkO (.binOp .neq 34 (.tmp 27) (.tmp 31) 34) 4), some (26, false), []⟩,
    ⟨some 33, .pick (.tmp 26) (.const (.bool true)) (.tmp 32), none, []⟩] true)
  (.cond (.tmp 33)
    (.seq (.region [⟨some 4, .mov (.const (.int .i64 0)), none, []⟩,
      ⟨some 5, .mov (.const (.bool false)), none, []⟩] false)
    .ret)
    .skip))
  (.seq (.region [⟨some 34, .mov (.tmp 6), none, []⟩,
    ⟨some 4, .mov (.tmp 34), none, []⟩,
    ⟨some 5, .mov (.const (.bool true)), none, []⟩] false)
  .ret))))
def a16 : AFunc := ⟨35, c16, [.tmp 4, .tmp 5]⟩

def c17 : ACode :=
  (.seq (.region [⟨some 2, .mov (.const (.slice none 0 0)), none, []⟩,
    ⟨some 3, .mov (.const (.int .i64 0)), none, []⟩] false)
  (.seq (.seq (.region [⟨some 9, .mov (.tmp 0), none, []⟩,
    ⟨some 10, .call (.func 29) [(.tmp 9)], none, []⟩,
    ⟨some 4, .mov (.tmp 10), none, []⟩] false)
  (.seq (.region [⟨some 11, .mov (.tmp 4), none, []⟩,
    ⟨some 12, .pur (mkO (.binOp .neq 22 (.tmp 11) (.const (.int .i64 0)) 22) 4), none, []⟩] false)
  (.cond (.tmp 12)
    (.seq (.region [⟨some 13, .mov (.tmp 4), none, [1]⟩,
      ⟨some 2, .mov (.const (.slice none 0 0)), none, [0]⟩,
      ⟨some 3, .mov (.tmp 13), none, []⟩] false)
    .ret)
    .skip)))
  (.seq (.seq (.region [⟨some 14, .mov (.tmp 0), none, [2]⟩,
    ⟨some 15, .len (.tmp 14), none, [2]⟩,
    ⟨some 16, .mov (.const (.int .i64 0)), none, [0, 1]⟩] false)
  (.block 0 (.loop (.seq (.region [⟨some 17, .pur (mkO (.binOp .lss 3 (.tmp 16) (.tmp 15) 3) 0), none, []⟩] false)
      (.seq (.cond (.tmp 17)
        .skip
        (.exit 0))
      (.seq (.block 1 (.seq (.region [⟨some 18, .iad 17 (.tmp 14) (.tmp 16), none, [2]⟩,
          ⟨some 19, .load 17 true (.tmp 18), none, [2]⟩,
          ⟨some 6, .alloc 47 (.agg #[(.int .u8 0), (.int .u8 0), (.int .u32 0), (.int .u8 0), (.int .i64 0), (.int .u8 0), (.int .u32 0), (.int .u8 0), (.int .i64 0), (.int .i64 0), (.int .u8 0), (.int .u32 0), (.int .u8 0), (.int .i64 0), (.int .u8 0), (.int .u32 0), (.slice none 0 0)]), none, [0, 1]⟩,
          ⟨none, .store 17 (.tmp 6) (.tmp 19), none, []⟩] false)
        (.seq (.region [⟨some 21, .load 17 true (.tmp 6), none, [5]⟩,
          ⟨some 22, .call (.func 30) [(.tmp 21)], none, [5]⟩,
          ⟨some 20, .mov (.tmp 22), none, [5]⟩,
          ⟨some 23, .ext (.tmp 20) 0, none, [4, 5]⟩,
          ⟨some 24, .ext (.tmp 20) 1, none, [3, 5, 6]⟩,
          ⟨some 7, .alloc 78 (.agg #[(.int .u8 0), (.int .u32 0), (.int .u8 0), (.int .i64 0), (.int .i64 0), (.int .u8 0), (.int .u32 0), (.int .u8 0), (.int .i64 0), (.slice none 0 0)]), none, [0, 1, 2, 3, 4]⟩,
          ⟨none, .store 10 (.tmp 7) (.tmp 23), none, [4]⟩,
          ⟨some 8, .mov (.tmp 24), none, []⟩] false)
        (.seq (.region [⟨some 25, .mov (.tmp 8), none, []⟩,
          ⟨some 26, .pur (mkO (.binOp .eql 22 (.tmp 25) (.const (.int .i64 0)) 22) 4), none, []⟩] false)
        (.cond (.tmp 26)
          (.seq (.region [⟨some 28, .mov (.tmp 2), none, [1]⟩,
            ⟨some 29, .load 10 true (.tmp 7), none, [0]⟩,
            ⟨some 30, .call (.func 31) [(.tmp 28), (.tmp 29)], none, []⟩,
            ⟨some 27, .mov (.tmp 30), none, []⟩,
            ⟨some 31, .ext (.tmp 27) 0, none, [5]⟩,
            ⟨some 32, .ext (.tmp 27) 1, none, [4, 6]⟩,
            ⟨some 2, .mov (.tmp 31), none, [5]⟩,
            ⟨some 8, .mov (.tmp 32), none, []⟩] false)
          (.seq (.region [⟨some 33, .mov (.tmp 8), none, []⟩,
            ⟨some 34, .pur (mkO (.binOp .neq 22 (.tmp 33) (.const (.int .i64 0)) 22) 4), none, []⟩] false)
          (.cond (.tmp 34)
            (.seq (.region [⟨some 35, .mov (.tmp 8), none, [1]⟩,
              ⟨some 2, .mov (.const (.slice none 0 0)), none, [0]⟩,
              ⟨some 3, .mov (.tmp 35), none, []⟩] false)
            .ret)
            .skip)))
          .skip)))))
      (.region [⟨some 36, .pur (mkO (.binOp .add 3 (.tmp 16) (.const (.int .i64 1)) 3) 3), none, []⟩,
        ⟨some 16, .mov (.tmp 36), none, []⟩] false)))))))
  (.seq (.region [⟨some 37, .mov (.tmp 2), none, []⟩,
    ⟨some 2, .mov (.tmp 37), none, []⟩,
    ⟨some 3, .mov (.const (.int .i64 0)), none, []⟩] false)
  .ret))))
def a17 : AFunc := ⟨38, c17, [.tmp 2, .tmp 3]⟩

def c18 : ACode :=
  (.seq (.region [⟨some 1, .box 32 (.tmp 0), none, [1]⟩,
    ⟨some 2, .mov (.const (.int .i64 0)), none, [0]⟩] false)
  (.seq (.region [⟨some 3, .fad 0 (.tmp 1), none, []⟩,
    ⟨some 4, .load 2 true (.tmp 3), none, []⟩,
    ⟨some 5, .call (.func 33) [(.tmp 4)], none, []⟩,
    ⟨some 6, .pur (mkO (.binOp .eql 22 (.tmp 5) (.const (.int .i64 0)) 22) 4), none, []⟩,
    ⟨some 7, .mov (.tmp 6), none, []⟩,
    ⟨some 8, .fad 2 (.tmp 1), some (7, true), []⟩,
    ⟨some 9, .load 1 false (.tmp 8), some (7, true), []⟩,
    ⟨some 10, .pur (mkO (.binOp .lss 5 (.tmp 9) (.const (.int .u8 8)) 5) 4), some (7, true), []⟩,
    ⟨some 11, .pick (.tmp 7) (.tmp 10) (.const (.bool false)), none, []⟩,
    ⟨some 12, .call (.func 32) [(.tmp 11)], none, []⟩,
    ⟨some 2, .mov (.tmp 12), none, []⟩] false)
  .ret))
def a18 : AFunc := ⟨13, c18, [.tmp 2]⟩

def c19 : ACode :=
  (.seq (.region [⟨some 2, .mov (.const (.slice none 0 0)), none, []⟩] false)
  (.seq (.seq (.region [⟨some 10, .mov (.tmp 0), none, [2]⟩,
    ⟨some 11, .len (.tmp 10), none, [2]⟩,
    ⟨some 12, .mov (.const (.int .i64 0)), none, [0, 1]⟩] false)
  (.block 0 (.loop (.seq (.region [⟨some 13, .pur (mkO (.binOp .lss 3 (.tmp 12) (.tmp 11) 3) 0), none, []⟩] false)
      (.seq (.cond (.tmp 13)
        .skip
        (.exit 0))
      (.seq (.block 1 (.seq (.region [⟨some 14, .iad 10 (.tmp 10) (.tmp 12), none, [2]⟩,
          ⟨some 15, .load 10 true (.tmp 14), none, [2]⟩,
          ⟨some 4, .alloc 78 (.agg #[(.int .u8 0), (.int .u32 0), (.int .u8 0), (.int .i64 0), (.int .i64 0), (.int .u8 0), (.int .u32 0), (.int .u8 0), (.int .i64 0), (.slice none 0 0)]), none, [0, 1]⟩,
          ⟨none, .store 10 (.tmp 4) (.tmp 15), none, []⟩] false)
        (.seq (.region [⟨some 16, .fad 0 (.tmp 4), none, [3]⟩,
          ⟨some 17, .fad 4 (.tmp 16), none, [3]⟩,
          ⟨some 18, .load 1 false (.tmp 17), none, [3]⟩,
          ⟨some 19, .mov (.const (.int .i64 0)), none, [0, 1, 2]⟩] false)
        (.block 2 (.loop (.seq (.region [⟨some 20, .pur (mkO (.binOp .lss 3 (.tmp 19) (.tmp 18) 3) 4), none, []⟩] false)
            (.seq (.cond (.tmp 20)
              .skip
              (.exit 2))
            (.seq (.block 3 (.seq (.region [⟨some 21, .mov (.tmp 19), none, []⟩,
                ⟨some 5, .mov (.tmp 21), none, []⟩] false)
              (.seq (.region [⟨some 23, .load 10 true (.tmp 4), none, [1, 8, 9]⟩,
                ⟨some 24, .mov (.tmp 5), none, [0, 8, 9]⟩,
                ⟨some 25, .call (.func 34) [(.tmp 23), (.tmp 24)], none, [8, 9]⟩,
                ⟨some 22, .mov (.tmp 25), none, [8, 9]⟩,
                ⟨some 26, .ext (.tmp 22) 0, none, [5, 6, 7, 8, 9]⟩,
                ⟨some 27, .ext (.tmp 22) 1, none, [4, 6, 7, 8, 9, 10]⟩,
                ⟨some 28, .ext (.tmp 22) 2, none, [4, 5, 7, 8, 9, 10, 11]⟩,
                ⟨some 29, .ext (.tmp 22) 3, none, [4, 5, 6, 8, 9, 10, 11, 12]⟩,
                ⟨some 6, .alloc 34 (.agg #[(.int .u8 0), (.int .u32 0), (.int .u8 0), (.int .i64 0)]), none, [0, 1, 2, 3, 4, 5, 6, 7, 9]⟩,
                ⟨some 7, .alloc 34 (.agg #[(.int .u8 0), (.int .u32 0), (.int .u8 0), (.int .i64 0)]), none, [0, 1, 2, 3, 4, 5, 6, 7, 8]⟩,
                ⟨none, .store 4 (.tmp 6) (.tmp 26), none, [5, 6, 7]⟩,
                ⟨none, .store 4 (.tmp 7) (.tmp 27), none, [6, 7]⟩,
                ⟨some 8, .mov (.tmp 28), none, [7]⟩,
                ⟨some 9, .mov (.tmp 29), none, []⟩] false)
              (.region [⟨some 30, .mov (.tmp 2), none, [1, 2, 3, 4]⟩,
                ⟨some 31, .load 4 true (.tmp 6), none, [0, 2]⟩,
                ⟨some 32, .mov (.tmp 8), none, [0, 1]⟩,
                ⟨some 33, .build (.agg #[(.int .u8 0), (.int .u32 0), (.int .u8 0), (.int .i64 0), (.int .i32 0)]) [(0, 4, (.tmp 31)), (4, 1, (.tmp 32))], none, [0]⟩,
                ⟨some 34, .bsl 56 5 (.agg #[(.int .u8 0), (.int .u32 0), (.int .u8 0), (.int .i64 0), (.int .i32 0)]) 1 [(0, 5, (.tmp 33))], none, [0]⟩,
                ⟨some 35, .app 56 5 32 (.agg #[(.int .u8 0), (.int .u32 0), (.int .u8 0), (.int .i64 0), (.int .i32 0)]) (.tmp 30) (.tmp 34), none, []⟩,
                ⟨some 2, .mov (.tmp 35), none, []⟩] false))))
            (.region [⟨some 36, .pur (mkO (.binOp .add 3 (.tmp 19) (.const (.int .i64 1)) 3) 3), none, []⟩,
              ⟨some 19, .mov (.tmp 36), none, []⟩] false)))))))))
      (.region [⟨some 37, .pur (mkO (.binOp .add 3 (.tmp 12) (.const (.int .i64 1)) 3) 3), none, []⟩,
        ⟨some 12, .mov (.tmp 37), none, []⟩] false)))))))
  (.seq (.region [⟨some 38, .mov (.tmp 2), none, []⟩,
    ⟨some 2, .mov (.tmp 38), none, []⟩] false)
  .ret)))
def a19 : AFunc := ⟨39, c19, [.tmp 2]⟩

def c20 : ACode :=
  (.seq (.region [⟨some 2, .box 29 (.tmp 0), none, [1, 2]⟩,
    ⟨some 3, .box 29 (.tmp 1), none, [0, 2]⟩,
    ⟨some 4, .mov (.const (.bool false)), none, [0, 1]⟩] false)
  (.seq (.region [⟨some 5, .fad 0 (.tmp 2), none, [2, 3]⟩,
    ⟨some 6, .load 1 false (.tmp 5), none, [2, 3]⟩,
    ⟨some 7, .fad 0 (.tmp 3), none, [0, 1]⟩,
    ⟨some 8, .load 1 false (.tmp 7), none, [0, 1]⟩,
    ⟨some 9, .pur (mkO (.binOp .leq 5 (.tmp 6) (.tmp 8) 5) 4), none, []⟩,
    ⟨some 10, .mov (.tmp 9), none, []⟩,
    ⟨some 11, .fad 1 (.tmp 2), some (10, true), [8, 9]⟩,
    ⟨some 12, .load 1 false (.tmp 11), some (10, true), [8, 9]⟩,
    ⟨some 13, .fad 1 (.tmp 3), some (10, true), [6, 7]⟩,
    ⟨some 14, .load 1 false (.tmp 13), some (10, true), [6, 7]⟩,
    ⟨some 15, .pur (mkO (.binOp .andNot 27 (.tmp 12) (.tmp 14) 27) 27), some (10, true), []⟩,
    ⟨some 16, .pur (mkO (.binOp .eql 27 (.tmp 15) (.const (.int .u32 0)) 27) 4), some (10, true), []⟩,
    ⟨some 17, .pick (.tmp 10) (.tmp 16) (.const (.bool false)), none, []⟩,
    ⟨some 4, .mov (.tmp 17), none, []⟩] false)
  .ret))
def a20 : AFunc := ⟨18, c20, [.tmp 4]⟩

def c21 : ACode :=
  (.seq (.region [⟨some 4, .mov (.const (.bool false)), none, []⟩] false)
  (.seq (.seq (.region [⟨some 6, .mov (.tmp 0), none, [2, 3]⟩,
    ⟨some 7, .len (.tmp 6), none, [2, 3]⟩,
    ⟨some 8, .mov (.tmp 1), none, [0, 1]⟩,
    ⟨some 9, .len (.tmp 8), none, [0, 1]⟩,
    ⟨some 10, .pur (mkO (.binOp .neq 3 (.tmp 7) (.tmp 9) 3) 4), none, []⟩] false)
  (.cond (.tmp 10)
    (.seq (.region [⟨some 4, .mov (.const (.bool false)), none, []⟩] false)
    .ret)
    .skip))
  (.seq (.seq (.region [⟨some 5, .mov (.const (.int .i64 0)), none, []⟩] false)
  (.block 0 (.loop (.seq (.seq (.region [⟨some 11, .mov (.tmp 5), none, [1, 2]⟩,
        ⟨some 12, .mov (.tmp 0), none, [0]⟩,
        ⟨some 13, .len (.tmp 12), none, [0]⟩,
        ⟨some 14, .pur (mkO (.binOp .lss 3 (.tmp 11) (.tmp 13) 3) 4), none, []⟩] false)
      (.cond (.tmp 14)
        .skip
        (.exit 0)))
      (.seq (.block 1 (.seq (.region [⟨some 17, .mov (.tmp 0), none, [1, 4, 5, 6, 7]⟩,
          ⟨some 18, .mov (.tmp 5), none, [0, 4, 5, 6, 7]⟩,
          ⟨some 19, .iad 5 (.tmp 17) (.tmp 18), none, [4, 5, 6, 7]⟩,
          ⟨some 20, .load 5 true (.tmp 19), none, [4, 5, 6, 7]⟩,
          ⟨some 21, .mov (.tmp 1), none, [0, 1, 2, 3, 5]⟩,
          ⟨some 22, .mov (.tmp 5), none, [0, 1, 2, 3, 4]⟩,
          ⟨some 23, .iad 5 (.tmp 21) (.tmp 22), none, [0, 1, 2, 3]⟩,
          ⟨some 24, .load 5 true (.tmp 23), none, [0, 1, 2, 3]⟩,
          ⟨some 25, .pur (mkO (.binOp .neq 56 (.tmp 20) (.tmp 24) 56) 4), none, []⟩] true)
        (.cond (.tmp 25)
          (.seq (.region [⟨some 4, .mov (.const (.bool false)), none, []⟩] false)
          .ret)
          .skip)))
      (.region [⟨some 15, .mov (.tmp 5), none, []⟩,
        ⟨some 16, .pur (mkO (.binOp .add 3 (.tmp 15) (.const (.int .i64 1)) 3) 3), none, []⟩,
        ⟨some 5, .mov (.tmp 16), none, []⟩] false))))))
  (.seq (.region [⟨some 4, .mov (.const (.bool true)), none, []⟩] false)
  .ret))))
def a21 : AFunc := ⟨26, c21, [.tmp 4]⟩

def c22 : ACode :=
  (.seq (.region [⟨some 3, .box 29 (.tmp 1), none, [1, 2]⟩,
    ⟨some 4, .mov (.const (.slice none 0 0)), none, [0]⟩,
    ⟨some 5, .mov (.const (.int .i64 0)), none, [0]⟩] false)
  (.seq (.seq (.region [⟨some 9, .mov (.tmp 0), none, [2]⟩,
    ⟨some 10, .call (.func 29) [(.tmp 9)], none, [2]⟩,
    ⟨some 11, .load 2 true (.tmp 3), none, [0, 1]⟩,
    ⟨some 12, .call (.func 33) [(.tmp 11)], none, []⟩,
    ⟨some 13, .pur (mkO (.call ⟨.builtin .max, #[(.tmp 10), (.tmp 12)], #[22, 22]⟩) 22), none, []⟩,
    ⟨some 6, .mov (.tmp 13), none, []⟩] true)
  (.seq (.region [⟨some 14, .mov (.tmp 6), none, []⟩,
    ⟨some 15, .pur (mkO (.binOp .neq 22 (.tmp 14) (.const (.int .i64 0)) 22) 4), none, []⟩] false)
  (.cond (.tmp 15)
    (.seq (.region [⟨some 16, .mov (.tmp 6), none, [1]⟩,
      ⟨some 4, .mov (.const (.slice none 0 0)), none, [0]⟩,
      ⟨some 5, .mov (.tmp 16), none, []⟩] false)
    .ret)
    .skip)))
  (.seq (.seq (.region [⟨some 17, .mov (.tmp 0), none, [2]⟩,
    ⟨some 18, .len (.tmp 17), none, [2]⟩,
    ⟨some 19, .mov (.const (.int .i64 0)), none, [0, 1]⟩] false)
  (.block 0 (.loop (.seq (.region [⟨some 20, .pur (mkO (.binOp .lss 3 (.tmp 19) (.tmp 18) 3) 0), none, []⟩] false)
      (.seq (.cond (.tmp 20)
        .skip
        (.exit 0))
      (.seq (.block 1 (.seq (.region [⟨some 21, .iad 17 (.tmp 17) (.tmp 19), none, [2]⟩,
          ⟨some 22, .load 17 true (.tmp 21), none, [2]⟩,
          ⟨some 8, .alloc 47 (.agg #[(.int .u8 0), (.int .u8 0), (.int .u32 0), (.int .u8 0), (.int .i64 0), (.int .u8 0), (.int .u32 0), (.int .u8 0), (.int .i64 0), (.int .i64 0), (.int .u8 0), (.int .u32 0), (.int .u8 0), (.int .i64 0), (.int .u8 0), (.int .u32 0), (.slice none 0 0)]), none, [0, 1]⟩,
          ⟨none, .store 17 (.tmp 8) (.tmp 22), none, []⟩] false)
        (.seq (.region [⟨some 23, .fad 1 (.tmp 8), none, [3]⟩,
          ⟨some 24, .fad 0 (.tmp 23), none, [3]⟩,
          ⟨some 25, .load 2 true (.tmp 24), none, [3]⟩,
          ⟨some 26, .load 2 true (.tmp 3), none, [0, 1, 2]⟩,
          ⟨some 27, .call (.func 20) [(.tmp 25), (.tmp 26)], none, []⟩] false)
        (.cond (.tmp 27)
          (.region [⟨some 28, .mov (.tmp 4), none, [1, 2, 3]⟩,
            ⟨some 29, .load 17 true (.tmp 8), none, [0]⟩,
            ⟨some 30, .call (.func 35) [(.tmp 29)], none, [0]⟩,
            ⟨some 31, .bsl 47 17 (.agg #[(.int .u8 0), (.int .u8 0), (.int .u32 0), (.int .u8 0), (.int .i64 0), (.int .u8 0), (.int .u32 0), (.int .u8 0), (.int .i64 0), (.int .i64 0), (.int .u8 0), (.int .u32 0), (.int .u8 0), (.int .i64 0), (.int .u8 0), (.int .u32 0), (.slice none 0 0)]) 1 [(0, 17, (.tmp 30))], none, [0]⟩,
            ⟨some 32, .app 47 17 112 (.agg #[(.int .u8 0), (.int .u8 0), (.int .u32 0), (.int .u8 0), (.int .i64 0), (.int .u8 0), (.int .u32 0), (.int .u8 0), (.int .i64 0), (.int .i64 0), (.int .u8 0), (.int .u32 0), (.int .u8 0), (.int .i64 0), (.int .u8 0), (.int .u32 0), (.slice none 0 0)]) (.tmp 28) (.tmp 31), none, []⟩,
            ⟨some 4, .mov (.tmp 32), none, []⟩] false)
          .skip))))
      (.region [⟨some 33, .pur (mkO (.binOp .add 3 (.tmp 19) (.const (.int .i64 1)) 3) 3), none, []⟩,
        ⟨some 19, .mov (.tmp 33), none, []⟩] false)))))))
  (.seq (.region [⟨some 34, .mov (.tmp 4), none, []⟩,
    ⟨some 4, .mov (.tmp 34), none, []⟩,
    ⟨some 5, .mov (.const (.int .i64 0)), none, []⟩] false)
  .ret))))
def a22 : AFunc := ⟨35, c22, [.tmp 4, .tmp 5]⟩

def c23 : ACode :=
  (.seq (.region [⟨some 4, .mov (.const (.slice none 0 0)), none, []⟩] false)
  (.seq (.seq (.region [⟨some 9, .mov (.tmp 0), none, [2]⟩,
    ⟨some 10, .len (.tmp 9), none, [2]⟩,
    ⟨some 11, .mov (.const (.int .i64 0)), none, [0, 1]⟩] false)
  (.block 0 (.loop (.seq (.region [⟨some 12, .pur (mkO (.binOp .lss 3 (.tmp 11) (.tmp 10) 3) 0), none, []⟩] false)
      (.seq (.cond (.tmp 12)
        .skip
        (.exit 0))
      (.seq (.block 1 (.seq (.region [⟨some 13, .iad 5 (.tmp 9) (.tmp 11), none, [2]⟩,
          ⟨some 14, .load 5 true (.tmp 13), none, [2]⟩,
          ⟨some 6, .alloc 56 (.agg #[(.int .u8 0), (.int .u32 0), (.int .u8 0), (.int .i64 0), (.int .i32 0)]), none, [0, 1]⟩,
          ⟨none, .store 5 (.tmp 6) (.tmp 14), none, []⟩] false)
        (.seq (.region [⟨some 16, .mov (.tmp 1), none, [1, 6]⟩,
          ⟨some 17, .load 5 true (.tmp 6), none, [0, 6]⟩,
          ⟨some 18, .call (.tmp 16) [(.tmp 17)], none, [6]⟩,
          ⟨some 15, .mov (.tmp 18), none, [6]⟩,
          ⟨some 19, .ext (.tmp 15) 0, none, [5, 6]⟩,
          ⟨some 20, .ext (.tmp 15) 1, none, [4, 6, 7]⟩,
          ⟨some 7, .alloc 56 (.agg #[(.int .u8 0), (.int .u32 0), (.int .u8 0), (.int .i64 0), (.int .i32 0)]), none, [0, 1, 2, 3, 4, 5]⟩,
          ⟨none, .store 5 (.tmp 7) (.tmp 19), none, [5]⟩,
          ⟨some 8, .mov (.tmp 20), none, []⟩] false)
        (.seq (.region [⟨some 21, .mov (.tmp 8), none, []⟩] false)
        (.cond (.tmp 21)
          (.region [⟨some 22, .mov (.tmp 4), none, [1, 2]⟩,
            ⟨some 23, .load 5 true (.tmp 7), none, [0]⟩,
            ⟨some 24, .bsl 56 5 (.agg #[(.int .u8 0), (.int .u32 0), (.int .u8 0), (.int .i64 0), (.int .i32 0)]) 1 [(0, 5, (.tmp 23))], none, [0]⟩,
            ⟨some 25, .app 56 5 32 (.agg #[(.int .u8 0), (.int .u32 0), (.int .u8 0), (.int .i64 0), (.int .i32 0)]) (.tmp 22) (.tmp 24), none, []⟩,
            ⟨some 4, .mov (.tmp 25), none, []⟩] false)
          .skip)))))
      (.region [⟨some 26, .pur (mkO (.binOp .add 3 (.tmp 11) (.const (.int .i64 1)) 3) 3), none, []⟩,
        ⟨some 11, .mov (.tmp 26), none, []⟩] false)))))))
  (.seq (.region [⟨some 27, .mov (.tmp 4), none, []⟩,
    ⟨some 4, .mov (.tmp 27), none, []⟩] false)
  .ret)))
def a23 : AFunc := ⟨28, c23, [.tmp 4]⟩

def c24 : ACode :=
  (.seq (.region [⟨some 3, .box 56 (.tmp 0), none, [1, 2]⟩,
    ⟨some 4, .alloc 56 (.agg #[(.int .u8 0), (.int .u32 0), (.int .u8 0), (.int .i64 0), (.int .i32 0)]), none, [0, 2]⟩,
    ⟨some 5, .mov (.const (.bool false)), none, [0, 1]⟩] false)
  (.seq (.region [⟨some 11, .load 1 false (.tmp 1), none, [1, 2]⟩,
    ⟨some 12, .fad 0 (.tmp 3), none, [0]⟩,
    ⟨some 13, .load 4 true (.tmp 12), none, [0]⟩,
    ⟨some 14, .call (.func 25) [(.tmp 11), (.tmp 13)], none, []⟩,
    ⟨some 10, .mov (.tmp 14), none, []⟩,
    ⟨some 15, .ext (.tmp 10) 0, none, [6]⟩,
    ⟨some 16, .ext (.tmp 10) 1, none, [5, 7]⟩,
    ⟨some 6, .mov (.tmp 15), none, [6]⟩,
    ⟨some 7, .mov (.tmp 16), none, []⟩] false)
  (.seq (.seq (.region [⟨some 18, .load 1 false (.tmp 1), none, [1, 2, 3]⟩,
    ⟨some 19, .fad 0 (.tmp 3), none, [0, 3]⟩,
    ⟨some 20, .load 4 true (.tmp 19), none, [0, 3]⟩,
    ⟨some 21, .load 2 true (.tmp 2), none, [0, 1, 2]⟩,
    ⟨some 22, .call (.func 26) [(.tmp 18), (.tmp 20), (.tmp 21)], none, []⟩,
    ⟨some 17, .mov (.tmp 22), none, []⟩,
    ⟨some 23, .ext (.tmp 17) 0, none, [7]⟩,
    ⟨some 24, .ext (.tmp 17) 1, none, [6, 8]⟩,
    ⟨some 8, .mov (.tmp 23), none, [7]⟩,
    ⟨some 9, .mov (.tmp 24), none, []⟩] false)
  (.seq (.region [⟨some 25, .mov (.tmp 8), none, []⟩,
    ⟨some 26, .pur (mkO (.unOp .not 4 (.tmp 25)) 4), none, []⟩] false)
  (.cond (.tmp 26)
    (.region [⟨some 27, .fad 4 (.tmp 3), none, []⟩,
      ⟨none, .store 1 (.tmp 27) (.const (.int .i32 (-1))), none, []⟩] false)
    .skip)))
  (.seq (.region [⟨some 28, .load 5 true (.tmp 3), none, [1, 2]⟩,
    ⟨some 29, .mov (.tmp 6), none, [0, 3]⟩,
    ⟨some 30, .pur (mkO (.unOp .not 4 (.tmp 29)) 4), none, [0, 3]⟩,
    ⟨none, .store 5 (.tmp 4) (.tmp 28), none, [1, 2]⟩,
    ⟨some 5, .mov (.tmp 30), none, []⟩] false)
  .ret))))
def a24 : AFunc := ⟨31, c24, [.cell 4 5 true, .tmp 5]⟩

def c25 : ACode :=
  (.seq (.region [⟨some 3, .box 34 (.tmp 1), none, [1, 2]⟩,
    ⟨some 4, .mov (.const (.bool false)), none, [0]⟩,
    ⟨some 5, .mov (.const (.int .i64 0)), none, [0]⟩] false)
  (.seq (.seq (.region [⟨some 7, .mov (.tmp 0), none, []⟩,
    ⟨some 8, .call (.func 29) [(.tmp 7)], none, []⟩,
    ⟨some 6, .mov (.tmp 8), none, []⟩] false)
  (.seq (.region [⟨some 9, .mov (.tmp 6), none, []⟩,
    ⟨some 10, .pur (mkO (.binOp .neq 22 (.tmp 9) (.const (.int .i64 0)) 22) 4), none, []⟩] false)
  (.cond (.tmp 10)
    (.seq (.region [⟨some 11, .mov (.tmp 6), none, [1]⟩,
      ⟨some 4, .mov (.const (.bool false)), none, [0]⟩,
      ⟨some 5, .mov (.tmp 11), none, []⟩] false)
    .ret)
    .skip)))
  (.seq (.region [⟨some 12, .mov (.tmp 0), none, [1]⟩,
    ⟨some 13, .mkfn 37 [] [(.tmp 3)], none, [0]⟩,
    ⟨some 14, .call (.func 36) [(.tmp 12), (.tmp 13)], none, []⟩,
    ⟨some 4, .mov (.tmp 14), none, []⟩,
    ⟨some 5, .mov (.const (.int .i64 0)), none, []⟩] false)
  .ret)))
def a25 : AFunc := ⟨15, c25, [.tmp 4, .tmp 5]⟩

def c26 : ACode :=
  (.seq (.region [⟨some 4, .box 34 (.tmp 1), none, [1, 2, 3]⟩,
    ⟨some 5, .box 29 (.tmp 2), none, [0, 2, 3]⟩,
    ⟨some 6, .mov (.const (.bool false)), none, [0, 1]⟩,
    ⟨some 7, .mov (.const (.int .i64 0)), none, [0, 1]⟩] false)
  (.seq (.seq (.region [⟨some 10, .mov (.tmp 0), none, [1, 2]⟩,
    ⟨some 11, .load 4 true (.tmp 4), none, [0, 2]⟩,
    ⟨some 12, .load 2 true (.tmp 5), none, [0, 1]⟩,
    ⟨some 13, .call (.func 38) [(.tmp 10), (.tmp 11), (.tmp 12)], none, []⟩,
    ⟨some 8, .mov (.tmp 13), none, []⟩] false)
  (.seq (.region [⟨some 14, .mov (.tmp 8), none, []⟩,
    ⟨some 15, .pur (mkO (.binOp .neq 22 (.tmp 14) (.const (.int .i64 0)) 22) 4), none, []⟩] false)
  (.cond (.tmp 15)
    (.seq (.region [⟨some 16, .mov (.tmp 8), none, [1]⟩,
      ⟨some 6, .mov (.const (.bool false)), none, [0]⟩,
      ⟨some 7, .mov (.tmp 16), none, []⟩] false)
    .ret)
    .skip)))
  (.seq (.region [⟨some 17, .mkfn 39 [] [(.tmp 5)], none, []⟩,
    ⟨some 9, .mov (.tmp 17), none, []⟩] false)
  (.seq (.region [⟨some 18, .mov (.tmp 0), none, [1, 2, 4]⟩,
    ⟨some 19, .load 4 true (.tmp 4), none, [0, 2, 4]⟩,
    ⟨some 20, .load 2 true (.tmp 5), none, [0, 1, 4]⟩,
    ⟨some 21, .call (.func 41) [(.tmp 18), (.tmp 19), (.tmp 20)], none, [4]⟩,
    ⟨some 22, .mov (.tmp 9), none, [0, 1, 2, 3]⟩,
    ⟨some 23, .call (.func 40) [(.tmp 21), (.tmp 22)], none, []⟩,
    ⟨some 24, .pur (mkO (.unOp .not 4 (.tmp 23)) 4), none, []⟩,
    ⟨some 6, .mov (.tmp 24), none, []⟩,
    ⟨some 7, .mov (.const (.int .i64 0)), none, []⟩] false)
  .ret))))
def a26 : AFunc := ⟨25, c26, [.tmp 6, .tmp 7]⟩

def c27 : ACode :=
  (.seq (.region [⟨some 1, .box 44 (.tmp 0), none, [1]⟩,
    ⟨some 2, .mov (.const (.int .i64 0)), none, [0]⟩] false)
  (.seq (.region [⟨some 3, .fad 0 (.tmp 1), none, []⟩,
    ⟨some 4, .load 4 true (.tmp 3), none, []⟩,
    ⟨some 5, .call (.func 42) [(.tmp 4)], none, []⟩,
    ⟨some 6, .pur (mkO (.binOp .eql 22 (.tmp 5) (.const (.int .i64 0)) 22) 4), none, []⟩,
    ⟨some 7, .mov (.tmp 6), none, []⟩,
    ⟨some 8, .fad 4 (.tmp 1), some (7, true), []⟩,
    ⟨some 9, .load 1 false (.tmp 8), some (7, true), []⟩,
    ⟨some 10, .pur (mkO (.binOp .geq 3 (.tmp 9) (.const (.int .i64 1)) 3) 4), some (7, true), []⟩,
    ⟨some 11, .pick (.tmp 7) (.tmp 10) (.const (.bool false)), none, []⟩,
    ⟨some 12, .mov (.tmp 11), none, []⟩,
    ⟨some 13, .fad 4 (.tmp 1), some (12, true), []⟩,
    ⟨some 14, .load 1 false (.tmp 13), some (12, true), []⟩,
    ⟨some 15, .pur (mkO (.binOp .leq 3 (.tmp 14) (.const (.int .i64 64)) 3) 4), some (12, true), []⟩,
    ⟨some 16, .pick (.tmp 12) (.tmp 15) (.const (.bool false)), none, []⟩,
    ⟨some 17, .mov (.tmp 16), none, []⟩,
    ⟨some 18, .fad 0 (.tmp 1), some (17, true), [18, 19]⟩,
    ⟨some 19, .fad 3 (.tmp 18), some (17, true), [18, 19]⟩,
    ⟨some 20, .load 1 false (.tmp 19), some (17, true), [18, 19]⟩,
    ⟨some 21, .fad 4 (.tmp 1), some (17, true), [15, 16, 17]⟩,
    ⟨some 22, .load 1 false (.tmp 21), some (17, true), [15, 16, 17]⟩,
    ⟨some 23, .pur (mkO (.binOp .add 3 (.tmp 20) (.tmp 22) 3) 3), some (17, true), []⟩,
    ⟨some 24, .pur (mkO (.binOp .sub 3 (.tmp 23) (.const (.int .i64 1)) 3) 3), some (17, true), []⟩,
    ⟨some 25, .pur (mkO (.binOp .leq 3 (.tmp 24) (.const (.int .i64 1099511627776)) 3) 4), some (17, true), []⟩,
    ⟨some 26, .pick (.tmp 17) (.tmp 25) (.const (.bool false)), none, []⟩,
    ⟨some 27, .call (.func 32) [(.tmp 26)], none, []⟩,
    ⟨some 2, .mov (.tmp 27), none, []⟩] false)
  .ret))
def a27 : AFunc := ⟨28, c27, [.tmp 2]⟩

def c28 : ACode :=
  (.seq (.region [⟨some 2, .box 34 (.tmp 0), none, [1]⟩,
    ⟨some 4, .alloc 34 (.agg #[(.int .u8 0), (.int .u32 0), (.int .u8 0), (.int .i64 0)]), none, [0]⟩] false)
  (.seq (.region [⟨some 5, .fad 3 (.tmp 2), none, [2]⟩,
    ⟨some 6, .load 1 false (.tmp 5), none, [2]⟩,
    ⟨some 7, .mov (.tmp 1), none, [0, 1]⟩,
    ⟨some 8, .pur (mkO (.binOp .add 3 (.tmp 6) (.tmp 7) 3) 3), none, []⟩,
    ⟨some 9, .fad 3 (.tmp 2), none, []⟩,
    ⟨none, .store 1 (.tmp 9) (.tmp 8), none, []⟩] false)
  (.seq (.region [⟨some 10, .load 4 true (.tmp 2), none, []⟩,
    ⟨none, .store 4 (.tmp 4) (.tmp 10), none, []⟩] false)
  .ret)))
def a28 : AFunc := ⟨11, c28, [.cell 4 4 true]⟩

def c29 : ACode :=
  (.seq (.region [⟨some 2, .mov (.const (.int .i64 0)), none, []⟩] false)
  (.seq (.seq (.region [⟨some 6, .mov (.tmp 0), none, []⟩,
    ⟨some 7, .call (.func 43) [(.tmp 6)], none, []⟩,
    ⟨some 5, .mov (.tmp 7), none, []⟩,
    ⟨some 8, .ext (.tmp 5) 0, none, [4]⟩,
    ⟨some 9, .ext (.tmp 5) 1, none, [3, 5]⟩,
    ⟨some 3, .mov (.tmp 8), none, [4]⟩,
    ⟨some 4, .mov (.tmp 9), none, []⟩] false)
  (.seq (.region [⟨some 10, .mov (.tmp 4), none, []⟩,
    ⟨some 11, .pur (mkO (.unOp .not 4 (.tmp 10)) 4), none, []⟩] false)
  (.cond (.tmp 11)
    (.seq (.region [⟨some 2, .mov (.const (.int .i64 8)), none, []⟩] false)
    .ret)
    .skip)))
  (.seq (.region [⟨some 2, .mov (.const (.int .i64 0)), none, []⟩] false)
  .ret)))
def a29 : AFunc := ⟨12, c29, [.tmp 2]⟩

def c30 : ACode :=
  (.seq (.region [⟨some 1, .box 47 (.tmp 0), none, [1, 2]⟩,
    ⟨some 2, .alloc 78 (.agg #[(.int .u8 0), (.int .u32 0), (.int .u8 0), (.int .i64 0), (.int .i64 0), (.int .u8 0), (.int .u32 0), (.int .u8 0), (.int .i64 0), (.slice none 0 0)]), none, [0, 2]⟩,
    ⟨some 3, .mov (.const (.int .i64 0)), none, [0, 1]⟩] false)
  (.seq (.seq (.region [⟨some 6, .load 17 true (.tmp 1), none, []⟩,
    ⟨some 7, .call (.func 44) [(.tmp 6)], none, []⟩,
    ⟨some 4, .mov (.tmp 7), none, []⟩] false)
  (.seq (.region [⟨some 8, .mov (.tmp 4), none, []⟩,
    ⟨some 9, .pur (mkO (.binOp .neq 22 (.tmp 8) (.const (.int .i64 0)) 22) 4), none, []⟩] false)
  (.cond (.tmp 9)
    (.seq (.region [⟨some 10, .build (.agg #[(.int .u8 0), (.int .u32 0), (.int .u8 0), (.int .i64 0), (.int .i64 0), (.int .u8 0), (.int .u32 0), (.int .u8 0), (.int .i64 0), (.slice none 0 0)]) [], none, [1]⟩,
      ⟨some 11, .mov (.tmp 4), none, [0, 2]⟩,
      ⟨none, .store 10 (.tmp 2) (.tmp 10), none, [1]⟩,
      ⟨some 3, .mov (.tmp 11), none, []⟩] false)
    .ret)
    .skip)))
  (.seq (.region [⟨some 12, .fad 5 (.tmp 1), none, [2, 3, 4, 5, 6, 8]⟩,
    ⟨some 13, .load 5 true (.tmp 12), none, [2, 3, 4, 5, 6, 8]⟩,
    ⟨some 14, .fad 10 (.tmp 1), none, [0, 1, 4, 5, 6, 8]⟩,
    ⟨some 15, .load 4 true (.tmp 14), none, [0, 1, 4, 5, 6, 8]⟩,
    ⟨some 16, .fad 16 (.tmp 1), none, [0, 1, 2, 3, 8]⟩,
    ⟨some 17, .load 1 false (.tmp 16), none, [0, 1, 2, 3, 8]⟩,
    ⟨some 18, .call (.func 45) [(.tmp 17)], none, [0, 1, 2, 3, 8]⟩,
    ⟨some 19, .build (.agg #[(.int .u8 0), (.int .u32 0), (.int .u8 0), (.int .i64 0), (.int .i64 0), (.int .u8 0), (.int .u32 0), (.int .u8 0), (.int .i64 0), (.slice none 0 0)]) [(0, 5, (.tmp 13)), (5, 4, (.tmp 15)), (9, 1, (.tmp 18))], none, [8]⟩,
    ⟨some 5, .alloc 78 (.agg #[(.int .u8 0), (.int .u32 0), (.int .u8 0), (.int .i64 0), (.int .i64 0), (.int .u8 0), (.int .u32 0), (.int .u8 0), (.int .i64 0), (.slice none 0 0)]), none, [0, 1, 2, 3, 4, 5, 6, 7]⟩,
    ⟨none, .store 10 (.tmp 5) (.tmp 19), none, []⟩] true)
  (.seq (.seq (.region [⟨some 20, .fad 0 (.tmp 1), none, []⟩,
    ⟨some 21, .load 1 false (.tmp 20), none, []⟩,
    ⟨some 22, .pur (mkO (.binOp .neq 5 (.tmp 21) (.const (.int .u8 1)) 5) 4), none, []⟩,
    ⟨some 23, .mov (.tmp 22), none, []⟩,
    ⟨some 24, .load 10 true (.tmp 5), some (23, false), []⟩,
    ⟨some 25, .call (.func 46) [(.tmp 24)], some (23, false), []⟩,
    ⟨some 26, .pur (mkO (.binOp .neq 22 (.tmp 25) (.const (.int .i64 0)) 22) 4), some (23, false), []⟩,
    ⟨some 27, .pick (.tmp 23) (.const (.bool true)) (.tmp 26), none, []⟩] false)
  (.cond (.tmp 27)
    (.seq (.region [⟨some 28, .build (.agg #[(.int .u8 0), (.int .u32 0), (.int .u8 0), (.int .i64 0), (.int .i64 0), (.int .u8 0), (.int .u32 0), (.int .u8 0), (.int .i64 0), (.slice none 0 0)]) [], none, []⟩,
      ⟨none, .store 10 (.tmp 2) (.tmp 28), none, []⟩,
      ⟨some 3, .mov (.const (.int .i64 2)), none, []⟩] false)
    .ret)
    .skip))
  (.seq (.region [⟨some 29, .load 10 true (.tmp 5), none, []⟩,
    ⟨none, .store 10 (.tmp 2) (.tmp 29), none, []⟩,
    ⟨some 3, .mov (.const (.int .i64 0)), none, []⟩] false)
  .ret)))))
def a30 : AFunc := ⟨30, c30, [.cell 2 10 true, .tmp 3]⟩

def c31 : ACode :=
  (.seq (.region [⟨some 3, .box 78 (.tmp 1), none, [1, 2]⟩,
    ⟨some 4, .mov (.const (.slice none 0 0)), none, [0]⟩,
    ⟨some 5, .mov (.const (.int .i64 0)), none, [0]⟩] false)
  (.seq (.seq (.region [⟨some 15, .mov (.tmp 0), none, [2]⟩,
    ⟨some 16, .call (.func 47) [(.tmp 15)], none, [2]⟩,
    ⟨some 17, .load 10 true (.tmp 3), none, [0, 1]⟩,
    ⟨some 18, .call (.func 46) [(.tmp 17)], none, []⟩,
    ⟨some 19, .pur (mkO (.call ⟨.builtin .max, #[(.tmp 16), (.tmp 18)], #[22, 22]⟩) 22), none, []⟩,
    ⟨some 6, .mov (.tmp 19), none, []⟩] true)
  (.seq (.region [⟨some 20, .mov (.tmp 6), none, []⟩,
    ⟨some 21, .pur (mkO (.binOp .neq 22 (.tmp 20) (.const (.int .i64 0)) 22) 4), none, []⟩] false)
  (.cond (.tmp 21)
    (.seq (.region [⟨some 22, .mov (.tmp 6), none, [1]⟩,
      ⟨some 4, .mov (.const (.slice none 0 0)), none, [0]⟩,
      ⟨some 5, .mov (.tmp 22), none, []⟩] false)
    .ret)
    .skip)))
  (.seq (.seq (.region [⟨some 24, .mov (.tmp 0), none, [1, 2]⟩,
    ⟨some 25, .fad 5 (.tmp 3), none, [0]⟩,
    ⟨some 26, .load 4 true (.tmp 25), none, [0]⟩,
    ⟨some 27, .call (.func 48) [(.tmp 24), (.tmp 26)], none, []⟩,
    ⟨some 23, .mov (.tmp 27), none, []⟩,
    ⟨some 28, .ext (.tmp 23) 0, none, [6]⟩,
    ⟨some 29, .ext (.tmp 23) 1, none, [5, 7]⟩,
    ⟨some 7, .mov (.tmp 28), none, [6]⟩,
    ⟨some 8, .mov (.tmp 29), none, []⟩] false)
  (.seq (.region [⟨some 30, .mov (.tmp 7), none, []⟩,
    ⟨some 31, .pur (mkO (.binOp .lss 3 (.tmp 30) (.const (.int .i64 0)) 3) 4), none, []⟩,
    ⟨some 32, .mov (.tmp 31), none, []⟩,
    ⟨some 33, .fad 5 (.tmp 3), some (32, true), [5]⟩,
    ⟨some 34, .load 4 true (.tmp 33), some (32, true), [5]⟩,
    ⟨some 35, .build (.agg #[(.int .u8 0), (.int .u32 0), (.int .u8 0), (.int .i64 0)]) [], some (32, true), [3, 4]⟩,
    ⟨some 36, .pur (mkO (.binOp .neq 34 (.tmp 34) (.tmp 35) 34) 4), some (32, true), []⟩,
    ⟨some 37, .pick (.tmp 32) (.tmp 36) (.const (.bool false)), none, []⟩] false)
  (.cond (.tmp 37)
    (.seq (.region [⟨some 4, .mov (.const (.slice none 0 0)), none, []⟩,
      ⟨some 5, .mov (.const (.int .i64 6)), none, []⟩] false)
    .ret)
    .skip)))
  (.seq (.seq (.region [⟨some 38, .fad 0 (.tmp 3), none, [3]⟩,
    ⟨some 39, .fad 4 (.tmp 38), none, [3]⟩,
    ⟨some 40, .load 1 false (.tmp 39), none, [3]⟩,
    ⟨some 41, .mov (.const (.int .i64 0)), none, [0, 1, 2]⟩] false)
  (.block 0 (.loop (.seq (.region [⟨some 42, .pur (mkO (.binOp .lss 3 (.tmp 41) (.tmp 40) 3) 4), none, []⟩] false)
      (.seq (.cond (.tmp 42)
        .skip
        (.exit 0))
      (.seq (.block 1 (.seq (.region [⟨some 43, .mov (.tmp 41), none, []⟩,
          ⟨some 9, .mov (.tmp 43), none, []⟩] false)
        (.seq (.region [⟨some 45, .fad 0 (.tmp 3), none, [2, 7]⟩,
          ⟨some 46, .load 5 true (.tmp 45), none, [2, 7]⟩,
          ⟨some 47, .mov (.tmp 9), none, [0, 1, 7]⟩,
          ⟨some 48, .call (.func 49) [(.tmp 46), (.tmp 47)], none, [7]⟩,
          ⟨some 44, .mov (.tmp 48), none, [7]⟩,
          ⟨some 49, .ext (.tmp 44) 0, none, [6, 7]⟩,
          ⟨some 50, .ext (.tmp 44) 1, none, [5, 7, 8]⟩,
          ⟨some 10, .alloc 34 (.agg #[(.int .u8 0), (.int .u32 0), (.int .u8 0), (.int .i64 0)]), none, [0, 1, 2, 3, 4, 5, 6]⟩,
          ⟨none, .store 4 (.tmp 10) (.tmp 49), none, [6]⟩,
          ⟨some 11, .mov (.tmp 50), none, []⟩] false)
        (.seq (.region [⟨some 52, .mov (.tmp 0), none, [1]⟩,
          ⟨some 53, .load 4 true (.tmp 10), none, [0]⟩,
          ⟨some 54, .call (.func 48) [(.tmp 52), (.tmp 53)], none, []⟩,
          ⟨some 51, .mov (.tmp 54), none, []⟩,
          ⟨some 55, .ext (.tmp 51) 0, none, [5]⟩,
          ⟨some 56, .ext (.tmp 51) 1, none, [4, 6]⟩,
          ⟨some 12, .mov (.tmp 55), none, [5]⟩,
          ⟨some 13, .mov (.tmp 56), none, []⟩] false)
        (.seq (.region [⟨some 57, .mov (.tmp 12), none, []⟩,
          ⟨some 58, .pur (mkO (.binOp .geq 3 (.tmp 57) (.const (.int .i64 0)) 3) 4), none, []⟩] false)
        (.cond (.tmp 58)
          (.seq (.region [⟨some 4, .mov (.const (.slice none 0 0)), none, []⟩,
            ⟨some 5, .mov (.const (.int .i64 2)), none, []⟩] false)
          .ret)
          .skip))))))
      (.region [⟨some 59, .pur (mkO (.binOp .add 3 (.tmp 41) (.const (.int .i64 1)) 3) 3), none, []⟩,
        ⟨some 41, .mov (.tmp 59), none, []⟩] false)))))))
  (.seq (.seq (.region [⟨some 60, .mov (.tmp 0), none, [2, 3, 4]⟩,
    ⟨some 61, .call (.func 50) [(.tmp 60)], none, [2, 3, 4]⟩,
    ⟨some 62, .fad 0 (.tmp 3), none, [0, 1]⟩,
    ⟨some 63, .fad 4 (.tmp 62), none, [0, 1]⟩,
    ⟨some 64, .load 1 false (.tmp 63), none, [0, 1]⟩,
    ⟨some 65, .pur (mkO (.binOp .add 3 (.tmp 61) (.tmp 64) 3) 3), none, []⟩,
    ⟨some 66, .pur (mkO (.binOp .gtr 3 (.tmp 65) (.const (.int .i64 8192)) 3) 4), none, []⟩] true)
  (.cond (.tmp 66)
    (.seq (.region [⟨some 4, .mov (.const (.slice none 0 0)), none, []⟩,
      ⟨some 5, .mov (.const (.int .i64 4)), none, []⟩] false)
    .ret)
    .skip))
  (.seq (.region [⟨some 68, .mov (.tmp 0), none, [1, 2]⟩,
    ⟨some 69, .fad 5 (.tmp 3), none, [0]⟩,
    ⟨some 70, .load 4 true (.tmp 69), none, [0]⟩,
    ⟨some 71, .call (.func 51) [(.tmp 68), (.tmp 70)], none, []⟩,
    ⟨some 67, .mov (.tmp 71), none, []⟩,
    ⟨some 72, .ext (.tmp 67) 0, none, [6]⟩,
    ⟨some 73, .ext (.tmp 67) 1, none, [5, 7]⟩,
    ⟨some 0, .mov (.tmp 72), none, [6]⟩,
    ⟨some 14, .mov (.tmp 73), none, []⟩] false)
  (.seq (.block 2 (.loop (.seq (.seq (.region [⟨some 74, .mov (.tmp 14), none, [1, 2]⟩,
        ⟨some 75, .mov (.tmp 0), none, [0]⟩,
        ⟨some 76, .len (.tmp 75), none, [0]⟩,
        ⟨some 77, .pur (mkO (.binOp .lss 3 (.tmp 74) (.tmp 76) 3) 4), none, []⟩,
        ⟨some 78, .mov (.tmp 77), none, []⟩,
        ⟨some 79, .fad 0 (.tmp 3), some (78, true), [8, 9, 10, 11, 12, 13]⟩,
        ⟨some 80, .fad 0 (.tmp 79), some (78, true), [8, 9, 10, 11, 12, 13]⟩,
        ⟨some 81, .load 4 true (.tmp 80), some (78, true), [8, 9, 10, 11, 12, 13]⟩,
        ⟨some 82, .mov (.tmp 0), some (78, true), [5, 6, 7, 9]⟩,
        ⟨some 83, .mov (.tmp 14), some (78, true), [5, 6, 7, 8]⟩,
        ⟨some 84, .iad 10 (.tmp 82) (.tmp 83), some (78, true), [5, 6, 7]⟩,
        ⟨some 85, .fad 0 (.tmp 84), some (78, true), [5, 6, 7]⟩,
        ⟨some 86, .fad 0 (.tmp 85), some (78, true), [5, 6, 7]⟩,
        ⟨some 87, .load 4 true (.tmp 86), some (78, true), [5, 6, 7]⟩,
        ⟨some 88, .call (.func 52) [(.tmp 81), (.tmp 87)], some (78, true), []⟩,
        ⟨some 89, .pick (.tmp 78) (.tmp 88) (.const (.bool false)), none, []⟩] true)
      (.cond (.tmp 89)
        .skip
        (.exit 2)))
      (.block 3 (.region [⟨some 90, .mov (.tmp 14), none, []⟩,
          ⟨some 91, .pur (mkO (.binOp .add 3 (.tmp 90) (.const (.int .i64 1)) 3) 3), none, []⟩,
          ⟨some 14, .mov (.tmp 91), none, []⟩] false)))))
  (.seq (.region [⟨some 92, .mov (.tmp 0), none, [2, 3, 4]⟩,
    ⟨some 93, .call (.func 55) [(.tmp 92)], none, [2, 3, 4]⟩,
    ⟨some 94, .mov (.tmp 14), none, [0, 1, 3, 4]⟩,
    ⟨some 95, .load 10 true (.tmp 3), none, [0, 1, 2]⟩,
    ⟨some 96, .bsl 78 10 (.agg #[(.int .u8 0), (.int .u32 0), (.int .u8 0), (.int .i64 0), (.int .i64 0), (.int .u8 0), (.int .u32 0), (.int .u8 0), (.int .i64 0), (.slice none 0 0)]) 1 [(0, 10, (.tmp 95))], none, [0, 1, 2]⟩,
    ⟨some 97, .ins 54 78 10 80 (.tmp 93) (.tmp 94) (.tmp 96), none, []⟩,
    ⟨some 98, .call (.func 53) [(.tmp 97)], none, []⟩,
    ⟨some 4, .mov (.tmp 98), none, []⟩,
    ⟨some 5, .mov (.const (.int .i64 0)), none, []⟩] true)
  .ret))))))))
def a31 : AFunc := ⟨99, c31, [.tmp 4, .tmp 5]⟩

def c32 : ACode :=
  (.seq (.region [⟨some 2, .mov (.const (.int .i64 0)), none, []⟩] false)
  (.seq (.seq (.region [⟨some 3, .mov (.tmp 0), none, []⟩] false)
  (.cond (.tmp 3)
    (.seq (.region [⟨some 2, .mov (.const (.int .i64 0)), none, []⟩] false)
    .ret)
    .skip))
  (.seq (.region [⟨some 2, .mov (.const (.int .i64 8)), none, []⟩] false)
  .ret)))
def a32 : AFunc := ⟨4, c32, [.tmp 2]⟩

def c33 : ACode :=
  (.seq (.region [⟨some 1, .box 29 (.tmp 0), none, [1]⟩,
    ⟨some 2, .mov (.const (.int .i64 0)), none, [0]⟩] false)
  (.seq (.seq (.region [⟨some 3, .fad 0 (.tmp 1), none, []⟩,
    ⟨some 4, .load 1 false (.tmp 3), none, []⟩,
    ⟨some 5, .pur (mkO (.binOp .gtr 5 (.tmp 4) (.const (.int .u8 15)) 5) 4), none, []⟩] false)
  (.cond (.tmp 5)
    (.seq (.region [⟨some 2, .mov (.const (.int .i64 8)), none, []⟩] false)
    .ret)
    .skip))
  (.seq (.region [⟨some 2, .mov (.const (.int .i64 0)), none, []⟩] false)
  .ret)))
def a33 : AFunc := ⟨6, c33, [.tmp 2]⟩

def c34 : ACode :=
  (.seq (.region [⟨some 2, .box 78 (.tmp 0), none, [1, 2, 3, 4]⟩,
    ⟨some 4, .alloc 34 (.agg #[(.int .u8 0), (.int .u32 0), (.int .u8 0), (.int .i64 0)]), none, [0, 2, 3, 4]⟩,
    ⟨some 5, .alloc 34 (.agg #[(.int .u8 0), (.int .u32 0), (.int .u8 0), (.int .i64 0)]), none, [0, 1, 3, 4]⟩,
    ⟨some 6, .mov (.const (.int .i32 0)), none, [0, 1, 2]⟩,
    ⟨some 7, .mov (.const (.int .i64 0)), none, [0, 1, 2]⟩] false)
  (.seq (.seq (.region [⟨some 9, .load 10 true (.tmp 2), none, []⟩,
    ⟨some 10, .call (.func 46) [(.tmp 9)], none, []⟩,
    ⟨some 8, .mov (.tmp 10), none, []⟩] false)
  (.seq (.region [⟨some 11, .mov (.tmp 8), none, []⟩,
    ⟨some 12, .pur (mkO (.binOp .neq 22 (.tmp 11) (.const (.int .i64 0)) 22) 4), none, []⟩] false)
  (.cond (.tmp 12)
    (.seq (.region [⟨some 13, .load 4 true (.tmp 4), none, [1, 2]⟩,
      ⟨some 14, .load 4 true (.tmp 5), none, [0, 2, 3]⟩,
      ⟨some 15, .mov (.tmp 8), none, [0, 1, 3, 4, 5]⟩,
      ⟨none, .store 4 (.tmp 4) (.tmp 13), none, [1, 2]⟩,
      ⟨none, .store 4 (.tmp 5) (.tmp 14), none, [2]⟩,
      ⟨some 6, .mov (.const (.int .i32 0)), none, [2]⟩,
      ⟨some 7, .mov (.tmp 15), none, []⟩] true)
    .ret)
    .skip)))
  (.seq (.seq (.region [⟨some 17, .fad 0 (.tmp 2), none, [2]⟩,
    ⟨some 18, .load 5 true (.tmp 17), none, [2]⟩,
    ⟨some 19, .mov (.tmp 1), none, [0, 1]⟩,
    ⟨some 20, .call (.func 49) [(.tmp 18), (.tmp 19)], none, []⟩,
    ⟨some 16, .mov (.tmp 20), none, []⟩,
    ⟨some 21, .ext (.tmp 16) 0, none, [6]⟩,
    ⟨some 22, .ext (.tmp 16) 1, none, [5, 7]⟩,
    ⟨none, .store 4 (.tmp 4) (.tmp 21), none, [6]⟩,
    ⟨some 7, .mov (.tmp 22), none, []⟩] false)
  (.seq (.region [⟨some 23, .mov (.tmp 7), none, []⟩,
    ⟨some 24, .pur (mkO (.binOp .neq 22 (.tmp 23) (.const (.int .i64 0)) 22) 4), none, []⟩] false)
  (.cond (.tmp 24)
    (.seq (.region [⟨some 25, .load 4 true (.tmp 4), none, [1, 2]⟩,
      ⟨some 26, .load 4 true (.tmp 5), none, [0, 2, 3]⟩,
      ⟨some 27, .mov (.tmp 7), none, [0, 1, 3, 4, 5]⟩,
      ⟨none, .store 4 (.tmp 4) (.tmp 25), none, [1, 2]⟩,
      ⟨none, .store 4 (.tmp 5) (.tmp 26), none, [2]⟩,
      ⟨some 6, .mov (.const (.int .i32 0)), none, [2]⟩,
      ⟨some 7, .mov (.tmp 27), none, []⟩] true)
    .ret)
    .skip)))
  (.seq (.region [⟨some 28, .fad 5 (.tmp 2), none, []⟩,
    ⟨some 29, .load 4 true (.tmp 28), none, []⟩,
    ⟨none, .store 4 (.tmp 5) (.tmp 29), none, []⟩] false)
  (.seq (.seq (.region [⟨some 30, .mov (.tmp 1), none, []⟩,
    ⟨some 31, .pur (mkO (.binOp .gtr 3 (.tmp 30) (.const (.int .i64 0)) 3) 4), none, []⟩] false)
  (.cond (.tmp 31)
    (.region [⟨some 33, .fad 0 (.tmp 2), none, [2, 3]⟩,
      ⟨some 34, .load 5 true (.tmp 33), none, [2, 3]⟩,
      ⟨some 35, .mov (.tmp 1), none, [0, 1]⟩,
      ⟨some 36, .pur (mkO (.binOp .sub 3 (.tmp 35) (.const (.int .i64 1)) 3) 3), none, [0, 1]⟩,
      ⟨some 37, .call (.func 49) [(.tmp 34), (.tmp 36)], none, []⟩,
      ⟨some 32, .mov (.tmp 37), none, []⟩,
      ⟨some 38, .ext (.tmp 32) 0, none, [7]⟩,
      ⟨some 39, .ext (.tmp 32) 1, none, [6, 8]⟩,
      ⟨none, .store 4 (.tmp 5) (.tmp 38), none, [7]⟩,
      ⟨some 7, .mov (.tmp 39), none, []⟩] false)
    .skip))
  (.seq (.region [⟨some 40, .load 4 true (.tmp 4), none, [1, 2, 3, 4, 5, 6, 7]⟩,
    ⟨some 41, .load 4 true (.tmp 5), none, [0, 2, 3, 4, 5, 6, 7, 8]⟩,
    ⟨some 42, .fad 9 (.tmp 2), none, [0, 1, 4, 7, 8, 9]⟩,
    ⟨some 43, .load 1 false (.tmp 42), none, [0, 1, 4, 7, 8, 9]⟩,
    ⟨some 44, .mov (.tmp 1), none, [0, 1, 2, 3, 7, 8, 9]⟩,
    ⟨some 45, .iad 1 (.tmp 43) (.tmp 44), none, [0, 1, 7, 8, 9]⟩,
    ⟨some 46, .load 1 false (.tmp 45), none, [0, 1, 7, 8, 9]⟩,
    ⟨some 47, .mov (.tmp 7), none, [0, 1, 2, 3, 4, 5, 6, 8, 9, 10]⟩,
    ⟨none, .store 4 (.tmp 4) (.tmp 40), none, [1, 2, 3, 4, 5, 6, 7]⟩,
    ⟨none, .store 4 (.tmp 5) (.tmp 41), none, [2, 3, 4, 5, 6, 7]⟩,
    ⟨some 6, .mov (.tmp 46), none, [7]⟩,
    ⟨some 7, .mov (.tmp 47), none, []⟩] true)
  .ret))))))
def a34 : AFunc := ⟨48, c34, [.cell 4 4 true, .cell 5 4 true, .tmp 6, .tmp 7]⟩

def c35 : ACode :=
  (.seq (.region [⟨some 1, .box 47 (.tmp 0), none, [1]⟩,
    ⟨some 2, .alloc 47 (.agg #[(.int .u8 0), (.int .u8 0), (.int .u32 0), (.int .u8 0), (.int .i64 0), (.int .u8 0), (.int .u32 0), (.int .u8 0), (.int .i64 0), (.int .i64 0), (.int .u8 0), (.int .u32 0), (.int .u8 0), (.int .i64 0), (.int .u8 0), (.int .u32 0), (.slice none 0 0)]), none, [0]⟩] false)
  (.seq (.region [⟨some 3, .fad 16 (.tmp 1), none, []⟩,
    ⟨some 4, .load 1 false (.tmp 3), none, []⟩,
    ⟨some 5, .call (.func 45) [(.tmp 4)], none, []⟩,
    ⟨some 6, .fad 16 (.tmp 1), none, []⟩,
    ⟨none, .store 1 (.tmp 6) (.tmp 5), none, []⟩] false)
  (.seq (.region [⟨some 7, .load 17 true (.tmp 1), none, []⟩,
    ⟨none, .store 17 (.tmp 2) (.tmp 7), none, []⟩] false)
  .ret)))
def a35 : AFunc := ⟨8, c35, [.cell 2 17 true]⟩

def c36 : ACode :=
  (.seq (.region [⟨some 4, .mov (.const (.bool false)), none, []⟩] false)
  (.seq (.region [⟨some 5, .mov (.tmp 0), none, [1]⟩,
    ⟨some 6, .mov (.tmp 1), none, [0]⟩,
    ⟨some 7, .call (.func 56) [(.tmp 5), (.tmp 6)], none, []⟩,
    ⟨some 8, .pur (mkO (.binOp .geq 3 (.tmp 7) (.const (.int .i64 0)) 3) 4), none, []⟩,
    ⟨some 4, .mov (.tmp 8), none, []⟩] false)
  .ret))
def a36 : AFunc := ⟨9, c36, [.tmp 4]⟩

def c37 : ACode :=
  (.seq (.region [⟨some 2, .box 47 (.tmp 0), none, [1]⟩,
    ⟨some 3, .mov (.const (.bool false)), none, [0]⟩] false)
  (.seq (.region [⟨some 7, .fad 5 (.tmp 2), none, [2]⟩,
    ⟨some 8, .load 5 true (.tmp 7), none, [2]⟩,
    ⟨some 9, .load 4 true (.tmp 1), none, [0, 1]⟩,
    ⟨some 10, .call (.func 16) [(.tmp 8), (.tmp 9)], none, []⟩,
    ⟨some 6, .mov (.tmp 10), none, []⟩,
    ⟨some 11, .ext (.tmp 6) 0, none, [6]⟩,
    ⟨some 12, .ext (.tmp 6) 1, none, [5, 7]⟩,
    ⟨some 4, .mov (.tmp 11), none, [6]⟩,
    ⟨some 5, .mov (.tmp 12), none, []⟩] false)
  (.seq (.region [⟨some 13, .fad 0 (.tmp 2), none, []⟩,
    ⟨some 14, .load 1 false (.tmp 13), none, []⟩,
    ⟨some 15, .pur (mkO (.binOp .eql 5 (.tmp 14) (.const (.int .u8 2)) 5) 4), none, []⟩,
    ⟨some 16, .mov (.tmp 15), none, []⟩,
    ⟨some 17, .mov (.tmp 5), some (16, true), []⟩,
    ⟨some 18, .pick (.tmp 16) (.tmp 17) (.const (.bool false)), none, []⟩,
    ⟨some 3, .mov (.tmp 18), none, []⟩] false)
  .ret)))
def a37 : AFunc := ⟨19, c37, [.tmp 3]⟩

def c38 : ACode :=
  (.seq (.region [⟨some 4, .box 34 (.tmp 1), none, [1, 2]⟩,
    ⟨some 5, .box 29 (.tmp 2), none, [0, 2]⟩,
    ⟨some 6, .mov (.const (.int .i64 0)), none, [0, 1]⟩] false)
  (.seq (.seq (.region [⟨some 8, .mov (.tmp 0), none, []⟩,
    ⟨some 9, .call (.func 57) [(.tmp 8)], none, []⟩,
    ⟨some 7, .mov (.tmp 9), none, []⟩] false)
  (.seq (.region [⟨some 10, .mov (.tmp 7), none, []⟩,
    ⟨some 11, .pur (mkO (.binOp .neq 22 (.tmp 10) (.const (.int .i64 0)) 22) 4), none, []⟩] false)
  (.cond (.tmp 11)
    (.seq (.region [⟨some 12, .mov (.tmp 7), none, []⟩,
      ⟨some 6, .mov (.tmp 12), none, []⟩] false)
    .ret)
    .skip)))
  (.seq (.region [⟨some 13, .load 4 true (.tmp 4), none, [2]⟩,
    ⟨some 14, .call (.func 42) [(.tmp 13)], none, [2]⟩,
    ⟨some 15, .load 2 true (.tmp 5), none, [0, 1]⟩,
    ⟨some 16, .call (.func 33) [(.tmp 15)], none, []⟩,
    ⟨some 17, .pur (mkO (.call ⟨.builtin .max, #[(.tmp 14), (.tmp 16)], #[22, 22]⟩) 22), none, []⟩,
    ⟨some 6, .mov (.tmp 17), none, []⟩] true)
  .ret)))
def a38 : AFunc := ⟨18, c38, [.tmp 6]⟩

def c39 : ACode :=
  (.seq (.region [⟨some 2, .box 29 (.tmp 0), none, [1]⟩,
    ⟨some 3, .mov (.const (.bool false)), none, [0]⟩] false)
  (.seq (.region [⟨some 4, .load 2 true (.tmp 2), none, [1]⟩,
    ⟨some 5, .load 2 true (.tmp 1), none, [0]⟩,
    ⟨some 6, .call (.func 20) [(.tmp 4), (.tmp 5)], none, []⟩,
    ⟨some 7, .pur (mkO (.unOp .not 4 (.tmp 6)) 4), none, []⟩,
    ⟨some 3, .mov (.tmp 7), none, []⟩] false)
  .ret))
def a39 : AFunc := ⟨8, c39, [.tmp 3]⟩

def c40 : ACode :=
  (.seq (.region [⟨some 4, .mov (.const (.bool false)), none, []⟩] false)
  (.seq (.region [⟨some 5, .mov (.tmp 0), none, [1]⟩,
    ⟨some 6, .mov (.tmp 1), none, [0]⟩,
    ⟨some 7, .call (.func 58) [(.tmp 5), (.tmp 6)], none, []⟩,
    ⟨some 8, .pur (mkO (.binOp .geq 3 (.tmp 7) (.const (.int .i64 0)) 3) 4), none, []⟩,
    ⟨some 4, .mov (.tmp 8), none, []⟩] false)
  .ret))
def a40 : AFunc := ⟨9, c40, [.tmp 4]⟩

def c41 : ACode :=
  (.seq (.region [⟨some 4, .box 34 (.tmp 1), none, [1, 2]⟩,
    ⟨some 5, .box 29 (.tmp 2), none, [0, 2]⟩,
    ⟨some 6, .mov (.const (.slice none 0 0)), none, [0, 1]⟩] false)
  (.seq (.region [⟨some 9, .fad 0 (.tmp 4), none, [4]⟩,
    ⟨some 10, .fad 0 (.tmp 9), none, [4]⟩,
    ⟨some 11, .load 2 true (.tmp 10), none, [4]⟩,
    ⟨some 12, .bsl 29 2 (.agg #[(.int .u8 0), (.int .u32 0)]) 1 [(0, 2, (.tmp 11))], none, [4]⟩,
    ⟨some 7, .alloc 93 (.slice none 0 0), none, [0, 1, 2, 3]⟩,
    ⟨none, .store 1 (.tmp 7) (.tmp 12), none, []⟩] false)
  (.seq (.seq (.region [⟨some 13, .mov (.tmp 0), none, [1, 2]⟩,
    ⟨some 14, .load 4 true (.tmp 4), none, [0, 2]⟩,
    ⟨some 15, .load 2 true (.tmp 5), none, [0, 1]⟩,
    ⟨some 16, .call (.func 59) [(.tmp 13), (.tmp 14), (.tmp 15)], none, []⟩] false)
  (.block 0 (.rangeFunc (.tmp 16) [17] (.region [⟨some 8, .alloc 29 (.agg #[(.int .u8 0), (.int .u32 0)]), none, []⟩,
        ⟨none, .store 2 (.tmp 8) (.tmp 17), none, []⟩] false) (.block 1 (.seq (.region [⟨some 18, .load 1 false (.tmp 7), none, [1]⟩,
          ⟨some 19, .load 2 true (.tmp 8), none, [0]⟩,
          ⟨some 20, .call (.func 60) [(.tmp 18), (.tmp 19)], none, []⟩,
          ⟨some 21, .pur (mkO (.unOp .not 4 (.tmp 20)) 4), none, []⟩] false)
        (.cond (.tmp 21)
          (.region [⟨some 22, .load 1 false (.tmp 7), none, [1, 2]⟩,
            ⟨some 23, .load 2 true (.tmp 8), none, [0]⟩,
            ⟨some 24, .bsl 29 2 (.agg #[(.int .u8 0), (.int .u32 0)]) 1 [(0, 2, (.tmp 23))], none, [0]⟩,
            ⟨some 25, .app 29 2 8 (.agg #[(.int .u8 0), (.int .u32 0)]) (.tmp 22) (.tmp 24), none, []⟩,
            ⟨none, .store 1 (.tmp 7) (.tmp 25), none, []⟩] false)
          .skip))))))
  (.seq (.region [⟨some 26, .load 1 false (.tmp 7), none, []⟩,
    ⟨some 6, .mov (.tmp 26), none, []⟩] false)
  .ret))))
def a41 : AFunc := ⟨27, c41, [.tmp 6]⟩

def c42 : ACode :=
  (.seq (.region [⟨some 1, .box 34 (.tmp 0), none, [1]⟩,
    ⟨some 2, .mov (.const (.int .i64 0)), none, [0]⟩] false)
  (.seq (.region [⟨some 3, .fad 0 (.tmp 1), none, []⟩,
    ⟨some 4, .load 3 true (.tmp 3), none, []⟩,
    ⟨some 5, .call (.func 18) [(.tmp 4)], none, []⟩,
    ⟨some 6, .pur (mkO (.binOp .eql 22 (.tmp 5) (.const (.int .i64 0)) 22) 4), none, []⟩,
    ⟨some 7, .mov (.tmp 6), none, []⟩,
    ⟨some 8, .fad 3 (.tmp 1), some (7, true), []⟩,
    ⟨some 9, .load 1 false (.tmp 8), some (7, true), []⟩,
    ⟨some 10, .pur (mkO (.binOp .geq 3 (.tmp 9) (.const (.int .i64 1)) 3) 4), some (7, true), []⟩,
    ⟨some 11, .pick (.tmp 7) (.tmp 10) (.const (.bool false)), none, []⟩,
    ⟨some 12, .mov (.tmp 11), none, []⟩,
    ⟨some 13, .fad 3 (.tmp 1), some (12, true), []⟩,
    ⟨some 14, .load 1 false (.tmp 13), some (12, true), []⟩,
    ⟨some 15, .pur (mkO (.binOp .leq 3 (.tmp 14) (.const (.int .i64 1099511627776)) 3) 4), some (12, true), []⟩,
    ⟨some 16, .pick (.tmp 12) (.tmp 15) (.const (.bool false)), none, []⟩,
    ⟨some 17, .call (.func 32) [(.tmp 16)], none, []⟩,
    ⟨some 2, .mov (.tmp 17), none, []⟩] false)
  .ret))
def a42 : AFunc := ⟨18, c42, [.tmp 2]⟩

def c43 : ACode :=
  (.seq (.region [⟨some 2, .mov (.const (.pointer none)), none, []⟩,
    ⟨some 3, .mov (.const (.bool false)), none, []⟩] false)
  (.seq (.region [⟨some 9, .mkmap, none, []⟩,
    ⟨some 10, .build (.agg #[(.slice none 0 0), (.map none)]) [(1, 1, (.tmp 9))], none, []⟩,
    ⟨some 11, .box 120 (.tmp 10), none, []⟩,
    ⟨some 4, .mov (.tmp 11), none, []⟩] false)
  (.seq (.seq (.region [⟨some 12, .mov (.tmp 0), none, [2]⟩,
    ⟨some 13, .len (.tmp 12), none, [2]⟩,
    ⟨some 14, .mov (.const (.int .i64 0)), none, [0, 1]⟩] false)
  (.block 0 (.loop (.seq (.region [⟨some 15, .pur (mkO (.binOp .lss 3 (.tmp 14) (.tmp 13) 3) 0), none, []⟩] false)
      (.seq (.cond (.tmp 15)
        .skip
        (.exit 0))
      (.seq (.block 1 (.seq (.region [⟨some 16, .iad 17 (.tmp 12) (.tmp 14), none, [2]⟩,
          ⟨some 17, .load 17 true (.tmp 16), none, [2]⟩,
          ⟨some 6, .alloc 47 (.agg #[(.int .u8 0), (.int .u8 0), (.int .u32 0), (.int .u8 0), (.int .i64 0), (.int .u8 0), (.int .u32 0), (.int .u8 0), (.int .i64 0), (.int .i64 0), (.int .u8 0), (.int .u32 0), (.int .u8 0), (.int .i64 0), (.int .u8 0), (.int .u32 0), (.slice none 0 0)]), none, [0, 1]⟩,
          ⟨none, .store 17 (.tmp 6) (.tmp 17), none, []⟩] false)
        (.seq (.seq (.region [⟨some 18, .load 17 true (.tmp 6), none, []⟩,
          ⟨some 19, .call (.func 44) [(.tmp 18)], none, []⟩,
          ⟨some 20, .pur (mkO (.binOp .neq 22 (.tmp 19) (.const (.int .i64 0)) 22) 4), none, []⟩,
          ⟨some 21, .mov (.tmp 20), none, []⟩,
          ⟨some 22, .mov (.tmp 4), some (21, false), [5]⟩,
          ⟨some 23, .load 17 true (.tmp 6), some (21, false), [4]⟩,
          ⟨some 24, .call (.func 61) [(.tmp 22), (.tmp 23)], some (21, false), []⟩,
          ⟨some 25, .pur (mkO (.binOp .neq 22 (.tmp 24) (.const (.int .i64 0)) 22) 4), some (21, false), []⟩,
          ⟨some 26, .pick (.tmp 21) (.const (.bool true)) (.tmp 25), none, []⟩] false)
        (.cond (.tmp 26)
          (.seq (.region [⟨some 2, .mov (.const (.pointer none)), none, []⟩,
            ⟨some 3, .mov (.const (.bool false)), none, []⟩] false)
          .ret)
          .skip))
        (.seq (.region [⟨some 27, .mov (.tmp 4), none, [1, 2, 3, 4, 5, 6, 7]⟩,
          ⟨some 28, .mov (.tmp 4), none, [0, 5, 6]⟩,
          ⟨some 29, .nilck (.tmp 28), none, [0, 5, 6]⟩,
          ⟨some 30, .fad 0 (.tmp 29), none, [0, 5, 6]⟩,
          ⟨some 31, .load 1 false (.tmp 30), none, [0, 5, 6]⟩,
          ⟨some 32, .load 17 true (.tmp 6), none, [0, 1, 2, 3, 4]⟩,
          ⟨some 33, .bsl 47 17 (.agg #[(.int .u8 0), (.int .u8 0), (.int .u32 0), (.int .u8 0), (.int .i64 0), (.int .u8 0), (.int .u32 0), (.int .u8 0), (.int .i64 0), (.int .i64 0), (.int .u8 0), (.int .u32 0), (.int .u8 0), (.int .i64 0), (.int .u8 0), (.int .u32 0), (.slice none 0 0)]) 1 [(0, 17, (.tmp 32))], none, [0, 1, 2, 3, 4]⟩,
          ⟨some 34, .app 47 17 112 (.agg #[(.int .u8 0), (.int .u8 0), (.int .u32 0), (.int .u8 0), (.int .i64 0), (.int .u8 0), (.int .u32 0), (.int .u8 0), (.int .i64 0), (.int .i64 0), (.int .u8 0), (.int .u32 0), (.int .u8 0), (.int .i64 0), (.int .u8 0), (.int .u32 0), (.slice none 0 0)]) (.tmp 31) (.tmp 33), none, [0]⟩,
          ⟨some 35, .nilck (.tmp 27), none, []⟩,
          ⟨some 36, .fad 0 (.tmp 35), none, []⟩,
          ⟨none, .store 1 (.tmp 36) (.tmp 34), none, []⟩] true)
        (.seq (.region [⟨some 37, .fad 0 (.tmp 6), none, []⟩,
          ⟨some 38, .load 1 false (.tmp 37), none, []⟩,
          ⟨some 39, .pur (mkO (.binOp .eql 5 (.tmp 38) (.const (.int .u8 1)) 5) 4), none, []⟩] false)
        (.cond (.tmp 39)
          (.seq (.region [⟨some 40, .fad 5 (.tmp 6), none, [4]⟩,
            ⟨some 41, .load 5 true (.tmp 40), none, [4]⟩,
            ⟨some 42, .call (.func 62) [(.tmp 41)], none, [4]⟩,
            ⟨some 43, .len (.tmp 42), none, [4]⟩,
            ⟨some 44, .mov (.const (.int .i64 0)), none, [0, 1, 2, 3]⟩] false)
          (.block 2 (.loop (.seq (.region [⟨some 45, .pur (mkO (.binOp .lss 3 (.tmp 44) (.tmp 43) 3) 0), none, []⟩] false)
              (.seq (.cond (.tmp 45)
                .skip
                (.exit 2))
              (.seq (.block 3 (.seq (.region [⟨some 46, .iad 4 (.tmp 42) (.tmp 44), none, [2]⟩,
                  ⟨some 47, .load 4 true (.tmp 46), none, [2]⟩,
                  ⟨some 8, .alloc 34 (.agg #[(.int .u8 0), (.int .u32 0), (.int .u8 0), (.int .i64 0)]), none, [0, 1]⟩,
                  ⟨none, .store 4 (.tmp 8) (.tmp 47), none, []⟩] false)
                (.region [⟨some 48, .mov (.tmp 4), none, [4]⟩,
                  ⟨some 49, .nilck (.tmp 48), none, [4]⟩,
                  ⟨some 50, .fad 1 (.tmp 49), none, [4]⟩,
                  ⟨some 51, .load 1 false (.tmp 50), none, [4]⟩,
                  ⟨some 52, .load 4 true (.tmp 8), none, [0, 1, 2, 3]⟩,
                  ⟨none, .mupd 34 (.tmp 51) (.tmp 52) (.const (.bool true)), none, []⟩] true)))
              (.region [⟨some 53, .pur (mkO (.binOp .add 3 (.tmp 44) (.const (.int .i64 1)) 3) 3), none, []⟩,
                ⟨some 44, .mov (.tmp 53), none, []⟩] false)))))))
          .skip))))))
      (.region [⟨some 54, .pur (mkO (.binOp .add 3 (.tmp 14) (.const (.int .i64 1)) 3) 3), none, []⟩,
        ⟨some 14, .mov (.tmp 54), none, []⟩] false)))))))
  (.seq (.region [⟨some 55, .mov (.tmp 4), none, []⟩,
    ⟨some 2, .mov (.tmp 55), none, []⟩,
    ⟨some 3, .mov (.const (.bool true)), none, []⟩] false)
  .ret))))
def a43 : AFunc := ⟨56, c43, [.tmp 2, .tmp 3]⟩

def c44 : ACode :=
  (.seq (.region [⟨some 1, .box 47 (.tmp 0), none, [1]⟩,
    ⟨some 2, .mov (.const (.int .i64 0)), none, [0]⟩] false)
  (.seq (.seq (.region [⟨some 3, .fad 0 (.tmp 1), none, []⟩,
    ⟨some 4, .load 1 false (.tmp 3), none, []⟩,
    ⟨some 5, .pur (mkO (.binOp .eql 5 (.tmp 4) (.const (.int .u8 0)) 5) 4), none, []⟩,
    ⟨some 6, .mov (.tmp 5), none, []⟩,
    ⟨some 7, .fad 0 (.tmp 1), some (6, false), []⟩,
    ⟨some 8, .load 1 false (.tmp 7), some (6, false), []⟩,
    ⟨some 9, .pur (mkO (.binOp .geq 5 (.tmp 8) (.const (.int .u8 4)) 5) 4), some (6, false), []⟩,
    ⟨some 10, .pick (.tmp 6) (.const (.bool true)) (.tmp 9), none, []⟩,
    ⟨some 11, .mov (.tmp 10), none, []⟩,
    ⟨some 12, .fad 1 (.tmp 1), some (11, false), []⟩,
    ⟨some 13, .load 3 true (.tmp 12), some (11, false), []⟩,
    ⟨some 14, .call (.func 18) [(.tmp 13)], some (11, false), []⟩,
    ⟨some 15, .pur (mkO (.binOp .neq 22 (.tmp 14) (.const (.int .i64 0)) 22) 4), some (11, false), []⟩,
    ⟨some 16, .pick (.tmp 11) (.const (.bool true)) (.tmp 15), none, []⟩,
    ⟨some 17, .mov (.tmp 16), none, []⟩,
    ⟨some 18, .fad 4 (.tmp 1), some (17, false), []⟩,
    ⟨some 19, .load 1 false (.tmp 18), some (17, false), []⟩,
    ⟨some 20, .pur (mkO (.binOp .lss 3 (.tmp 19) (.const (.int .i64 1)) 3) 4), some (17, false), []⟩,
    ⟨some 21, .pick (.tmp 17) (.const (.bool true)) (.tmp 20), none, []⟩,
    ⟨some 22, .mov (.tmp 21), none, []⟩,
    ⟨some 23, .fad 4 (.tmp 1), some (22, false), []⟩,
    ⟨some 24, .load 1 false (.tmp 23), some (22, false), []⟩,
    ⟨some 25, .pur (mkO (.binOp .geq 3 (.tmp 24) (.const (.int .i64 16777216)) 3) 4), some (22, false), []⟩,
    ⟨some 26, .pick (.tmp 22) (.const (.bool true)) (.tmp 25), none, []⟩,
    ⟨some 27, .mov (.tmp 26), none, []⟩,
    ⟨some 28, .fad 5 (.tmp 1), some (27, false), []⟩,
    ⟨some 29, .load 5 true (.tmp 28), some (27, false), []⟩,
    ⟨some 30, .call (.func 27) [(.tmp 29)], some (27, false), []⟩,
    ⟨some 31, .pur (mkO (.binOp .neq 22 (.tmp 30) (.const (.int .i64 0)) 22) 4), some (27, false), []⟩,
    ⟨some 32, .pick (.tmp 27) (.const (.bool true)) (.tmp 31), none, []⟩,
    ⟨some 33, .mov (.tmp 32), none, []⟩,
    ⟨some 34, .call (.func 63) [], some (33, false), [32, 33, 36]⟩,
    ⟨some 35, .fad 0 (.tmp 1), some (33, false), [31, 36]⟩,
    ⟨some 36, .load 1 false (.tmp 35), some (33, false), [31, 36]⟩,
    ⟨some 37, .idx 4 2 true (.tmp 34) (.tmp 36), some (33, false), [36]⟩,
    ⟨some 38, .fld 0 1 false (.tmp 37), some (33, false), [36]⟩,
    ⟨some 39, .load 17 true (.tmp 1), some (33, false), [31, 32, 33, 34, 35]⟩,
    ⟨some 40, .call (.tmp 38) [(.tmp 39)], some (33, false), []⟩,
    ⟨some 41, .pur (mkO (.unOp .not 4 (.tmp 40)) 4), some (33, false), []⟩,
    ⟨some 42, .pick (.tmp 33) (.const (.bool true)) (.tmp 41), none, []⟩] true)
  (.cond (.tmp 42)
    (.seq (.region [⟨some 2, .mov (.const (.int .i64 8)), none, []⟩] false)
    .ret)
    .skip))
  (.seq (.region [⟨some 2, .mov (.const (.int .i64 0)), none, []⟩] false)
  .ret)))
def a44 : AFunc := ⟨43, c44, [.tmp 2]⟩

def c45 : ACode :=
  (.seq (.region [⟨some 2, .mov (.const (.slice none 0 0)), none, []⟩] false)
  (.seq (.seq (.region [⟨some 3, .mov (.tmp 0), none, []⟩,
    ⟨some 4, .eqnil false 1 (.tmp 3) (mkO (.binOp .eql 45 (.tmp 3) (.const (.slice none 0 0)) 45) 4), none, []⟩] false)
  (.cond (.tmp 4)
    (.seq (.region [⟨some 2, .mov (.const (.slice none 0 0)), none, []⟩] false)
    .ret)
    .skip))
  (.seq (.region [⟨some 5, .bsl 21 1 (.int .i32 0) 0 [], none, [1]⟩,
    ⟨some 6, .mov (.tmp 0), none, [0]⟩,
    ⟨some 7, .app 21 1 4 (.int .i32 0) (.tmp 5) (.tmp 6), none, []⟩,
    ⟨some 2, .mov (.tmp 7), none, []⟩] false)
  .ret)))
def a45 : AFunc := ⟨8, c45, [.tmp 2]⟩

def c46 : ACode :=
  (.seq (.region [⟨some 1, .box 78 (.tmp 0), none, [1]⟩,
    ⟨some 2, .mov (.const (.int .i64 0)), none, [0]⟩] false)
  (.seq (.region [⟨some 4, .fad 5 (.tmp 1), none, [2]⟩,
    ⟨some 5, .load 4 true (.tmp 4), none, [2]⟩,
    ⟨some 6, .build (.agg #[(.int .u8 0), (.int .u32 0), (.int .u8 0), (.int .i64 0)]) [], none, [0, 1]⟩,
    ⟨some 7, .pur (mkO (.binOp .eql 34 (.tmp 5) (.tmp 6) 34) 4), none, []⟩,
    ⟨some 8, .mov (.tmp 7), none, []⟩,
    ⟨some 9, .fad 5 (.tmp 1), some (8, false), []⟩,
    ⟨some 10, .load 4 true (.tmp 9), some (8, false), []⟩,
    ⟨some 11, .call (.func 42) [(.tmp 10)], some (8, false), []⟩,
    ⟨some 12, .pur (mkO (.binOp .eql 22 (.tmp 11) (.const (.int .i64 0)) 22) 4), some (8, false), []⟩,
    ⟨some 13, .mov (.tmp 12), some (8, false), []⟩,
    ⟨some 14, .fad 5 (.tmp 1), some (13, true), [13, 14, 15, 16]⟩,
    ⟨some 15, .fad 3 (.tmp 14), some (13, true), [13, 14, 15, 16]⟩,
    ⟨some 16, .load 1 false (.tmp 15), some (13, true), [13, 14, 15, 16]⟩,
    ⟨some 17, .fad 0 (.tmp 1), some (13, true), [10, 11, 12]⟩,
    ⟨some 18, .fad 0 (.tmp 17), some (13, true), [10, 11, 12]⟩,
    ⟨some 19, .fad 3 (.tmp 18), some (13, true), [10, 11, 12]⟩,
    ⟨some 20, .load 1 false (.tmp 19), some (13, true), [10, 11, 12]⟩,
    ⟨some 21, .pur (mkO (.binOp .lss 3 (.tmp 16) (.tmp 20) 3) 4), some (13, true), []⟩,
    ⟨some 22, .pick (.tmp 13) (.tmp 21) (.const (.bool false)), some (8, false), []⟩,
    ⟨some 23, .pick (.tmp 8) (.const (.bool true)) (.tmp 22), none, []⟩,
    ⟨some 3, .mov (.tmp 23), none, []⟩] false)
  (.seq (.seq (.region [⟨some 24, .fad 0 (.tmp 1), none, []⟩,
    ⟨some 25, .load 5 true (.tmp 24), none, []⟩,
    ⟨some 26, .call (.func 27) [(.tmp 25)], none, []⟩,
    ⟨some 27, .pur (mkO (.binOp .neq 22 (.tmp 26) (.const (.int .i64 0)) 22) 4), none, []⟩,
    ⟨some 28, .mov (.tmp 27), none, []⟩,
    ⟨some 29, .mov (.tmp 3), some (28, false), []⟩,
    ⟨some 30, .pur (mkO (.unOp .not 4 (.tmp 29)) 4), some (28, false), []⟩,
    ⟨some 31, .pick (.tmp 28) (.const (.bool true)) (.tmp 30), none, []⟩,
    ⟨some 32, .mov (.tmp 31), none, []⟩,
    ⟨some 33, .fad 9 (.tmp 1), some (32, false), [12, 13, 14]⟩,
    ⟨some 34, .load 1 false (.tmp 33), some (32, false), [12, 13, 14]⟩,
    ⟨some 35, .len (.tmp 34), some (32, false), [12, 13, 14]⟩,
    ⟨some 36, .fad 0 (.tmp 1), some (32, false), [9, 10, 11]⟩,
    ⟨some 37, .fad 4 (.tmp 36), some (32, false), [9, 10, 11]⟩,
    ⟨some 38, .load 1 false (.tmp 37), some (32, false), [9, 10, 11]⟩,
    ⟨some 39, .pur (mkO (.binOp .neq 3 (.tmp 35) (.tmp 38) 3) 4), some (32, false), []⟩,
    ⟨some 40, .pick (.tmp 32) (.const (.bool true)) (.tmp 39), none, []⟩,
    ⟨some 41, .mov (.tmp 40), none, []⟩,
    ⟨some 42, .fad 9 (.tmp 1), some (41, false), []⟩,
    ⟨some 43, .load 1 false (.tmp 42), some (41, false), []⟩,
    ⟨some 44, .call (.func 64) [(.tmp 43)], some (41, false), []⟩,
    ⟨some 45, .pur (mkO (.binOp .neq 22 (.tmp 44) (.const (.int .i64 0)) 22) 4), some (41, false), []⟩,
    ⟨some 46, .pick (.tmp 41) (.const (.bool true)) (.tmp 45), none, []⟩] false)
  (.cond (.tmp 46)
    (.seq (.region [⟨some 2, .mov (.const (.int .i64 8)), none, []⟩] false)
    .ret)
    .skip))
  (.seq (.region [⟨some 2, .mov (.const (.int .i64 0)), none, []⟩] false)
  .ret))))
def a46 : AFunc := ⟨47, c46, [.tmp 2]⟩

def c47 : ACode :=
  (.seq (.region [⟨some 2, .mov (.const (.int .i64 0)), none, []⟩] false)
  (.seq (.seq (.region [⟨some 3, .mov (.tmp 0), none, []⟩,
    ⟨some 4, .call (.func 65) [(.tmp 3), (.func 66)], none, []⟩,
    ⟨some 5, .mov (.tmp 4), none, []⟩,
    ⟨some 6, .mov (.tmp 0), some (5, false), []⟩,
    ⟨some 7, .call (.func 50) [(.tmp 6)], some (5, false), []⟩,
    ⟨some 8, .pur (mkO (.binOp .gtr 3 (.tmp 7) (.const (.int .i64 8192)) 3) 4), some (5, false), []⟩,
    ⟨some 9, .pick (.tmp 5) (.const (.bool true)) (.tmp 8), none, []⟩,
    ⟨some 10, .mov (.tmp 9), none, []⟩,
    ⟨some 11, .mov (.tmp 0), some (10, false), []⟩,
    ⟨some 12, .call (.func 67) [(.tmp 11)], some (10, false), []⟩,
    ⟨some 13, .pur (mkO (.unOp .not 4 (.tmp 12)) 4), some (10, false), []⟩,
    ⟨some 14, .pick (.tmp 10) (.const (.bool true)) (.tmp 13), none, []⟩,
    ⟨some 15, .mov (.tmp 14), none, []⟩,
    ⟨some 16, .mov (.tmp 0), some (15, false), [15]⟩,
    ⟨some 17, .call (.func 53) [(.tmp 16)], some (15, false), [15]⟩,
    ⟨some 18, .mov (.tmp 0), some (15, false), [13, 14]⟩,
    ⟨some 19, .call (.func 68) [(.tmp 17), (.tmp 18)], some (15, false), []⟩,
    ⟨some 20, .pur (mkO (.unOp .not 4 (.tmp 19)) 4), some (15, false), []⟩,
    ⟨some 21, .pick (.tmp 15) (.const (.bool true)) (.tmp 20), none, []⟩] false)
  (.cond (.tmp 21)
    (.seq (.region [⟨some 2, .mov (.const (.int .i64 8)), none, []⟩] false)
    .ret)
    .skip))
  (.seq (.region [⟨some 2, .mov (.const (.int .i64 0)), none, []⟩] false)
  .ret)))
def a47 : AFunc := ⟨22, c47, [.tmp 2]⟩

def c48 : ACode :=
  (.seq (.region [⟨some 3, .box 34 (.tmp 1), none, [1, 2]⟩,
    ⟨some 4, .mov (.const (.int .i64 0)), none, [0]⟩,
    ⟨some 5, .mov (.const (.int .i64 0)), none, [0]⟩] false)
  (.seq (.seq (.region [⟨some 10, .mov (.tmp 0), none, [2]⟩,
    ⟨some 11, .len (.tmp 10), none, [2]⟩,
    ⟨some 12, .mov (.const (.int .i64 0)), none, [0, 1]⟩] false)
  (.block 0 (.loop (.seq (.region [⟨some 13, .pur (mkO (.binOp .lss 3 (.tmp 12) (.tmp 11) 3) 0), none, []⟩] false)
      (.seq (.cond (.tmp 13)
        .skip
        (.exit 0))
      (.seq (.block 1 (.seq (.region [⟨some 14, .mov (.tmp 12), none, [1, 2, 3]⟩,
          ⟨some 15, .iad 10 (.tmp 10) (.tmp 12), none, [0, 3]⟩,
          ⟨some 16, .load 10 true (.tmp 15), none, [0, 3]⟩,
          ⟨some 7, .alloc 78 (.agg #[(.int .u8 0), (.int .u32 0), (.int .u8 0), (.int .i64 0), (.int .i64 0), (.int .u8 0), (.int .u32 0), (.int .u8 0), (.int .i64 0), (.slice none 0 0)]), none, [0, 1, 2]⟩,
          ⟨some 6, .mov (.tmp 14), none, []⟩,
          ⟨none, .store 10 (.tmp 7) (.tmp 16), none, []⟩] false)
        (.seq (.region [⟨some 18, .fad 0 (.tmp 7), none, [2]⟩,
          ⟨some 19, .load 5 true (.tmp 18), none, [2]⟩,
          ⟨some 20, .load 4 true (.tmp 3), none, [0, 1]⟩,
          ⟨some 21, .call (.func 16) [(.tmp 19), (.tmp 20)], none, []⟩,
          ⟨some 17, .mov (.tmp 21), none, []⟩,
          ⟨some 22, .ext (.tmp 17) 0, none, [6]⟩,
          ⟨some 23, .ext (.tmp 17) 1, none, [5, 7]⟩,
          ⟨some 8, .mov (.tmp 22), none, [6]⟩,
          ⟨some 9, .mov (.tmp 23), none, []⟩] false)
        (.seq (.region [⟨some 24, .mov (.tmp 9), none, []⟩] false)
        (.cond (.tmp 24)
          (.seq (.region [⟨some 25, .mov (.tmp 6), none, [1]⟩,
            ⟨some 26, .mov (.tmp 8), none, [0, 2]⟩,
            ⟨some 4, .mov (.tmp 25), none, [1]⟩,
            ⟨some 5, .mov (.tmp 26), none, []⟩] false)
          .ret)
          .skip)))))
      (.region [⟨some 27, .pur (mkO (.binOp .add 3 (.tmp 12) (.const (.int .i64 1)) 3) 3), none, []⟩,
        ⟨some 12, .mov (.tmp 27), none, []⟩] false)))))))
  (.seq (.region [⟨some 4, .mov (.const (.int .i64 (-1))), none, []⟩,
    ⟨some 5, .mov (.const (.int .i64 0)), none, []⟩] false)
  .ret)))
def a48 : AFunc := ⟨28, c48, [.tmp 4, .tmp 5]⟩

def c49 : ACode :=
  (.seq (.region [⟨some 2, .box 44 (.tmp 0), none, [1, 2]⟩,
    ⟨some 4, .alloc 34 (.agg #[(.int .u8 0), (.int .u32 0), (.int .u8 0), (.int .i64 0)]), none, [0, 2]⟩,
    ⟨some 5, .mov (.const (.int .i64 0)), none, [0, 1]⟩] false)
  (.seq (.seq (.region [⟨some 7, .load 5 true (.tmp 2), none, []⟩,
    ⟨some 8, .call (.func 27) [(.tmp 7)], none, []⟩,
    ⟨some 6, .mov (.tmp 8), none, []⟩] false)
  (.seq (.region [⟨some 9, .mov (.tmp 6), none, []⟩,
    ⟨some 10, .pur (mkO (.binOp .neq 22 (.tmp 9) (.const (.int .i64 0)) 22) 4), none, []⟩] false)
  (.cond (.tmp 10)
    (.seq (.region [⟨some 11, .build (.agg #[(.int .u8 0), (.int .u32 0), (.int .u8 0), (.int .i64 0)]) [], none, [1]⟩,
      ⟨some 12, .mov (.tmp 6), none, [0, 2]⟩,
      ⟨none, .store 4 (.tmp 4) (.tmp 11), none, [1]⟩,
      ⟨some 5, .mov (.tmp 12), none, []⟩] false)
    .ret)
    .skip)))
  (.seq (.seq (.region [⟨some 13, .mov (.tmp 1), none, []⟩,
    ⟨some 14, .pur (mkO (.binOp .lss 3 (.tmp 13) (.const (.int .i64 0)) 3) 4), none, []⟩,
    ⟨some 15, .mov (.tmp 14), none, []⟩,
    ⟨some 16, .mov (.tmp 1), some (15, false), [4, 5]⟩,
    ⟨some 17, .fad 4 (.tmp 2), some (15, false), [3]⟩,
    ⟨some 18, .load 1 false (.tmp 17), some (15, false), [3]⟩,
    ⟨some 19, .pur (mkO (.binOp .geq 3 (.tmp 16) (.tmp 18) 3) 4), some (15, false), []⟩,
    ⟨some 20, .pick (.tmp 15) (.const (.bool true)) (.tmp 19), none, []⟩] false)
  (.cond (.tmp 20)
    (.seq (.region [⟨some 21, .build (.agg #[(.int .u8 0), (.int .u32 0), (.int .u8 0), (.int .i64 0)]) [], none, []⟩,
      ⟨none, .store 4 (.tmp 4) (.tmp 21), none, []⟩,
      ⟨some 5, .mov (.const (.int .i64 2)), none, []⟩] false)
    .ret)
    .skip))
  (.seq (.region [⟨some 22, .fad 0 (.tmp 2), none, [2]⟩,
    ⟨some 23, .load 4 true (.tmp 22), none, [2]⟩,
    ⟨some 24, .mov (.tmp 1), none, [0, 1]⟩,
    ⟨some 25, .call (.func 28) [(.tmp 23), (.tmp 24)], none, []⟩,
    ⟨none, .store 4 (.tmp 4) (.tmp 25), none, []⟩,
    ⟨some 5, .mov (.const (.int .i64 0)), none, []⟩] false)
  .ret))))
def a49 : AFunc := ⟨26, c49, [.cell 4 4 true, .tmp 5]⟩

def c50 : ACode :=
  (.seq (.region [⟨some 2, .mov (.const (.int .i64 0)), none, []⟩] false)
  (.seq (.seq (.region [⟨some 5, .mov (.tmp 0), none, [2]⟩,
    ⟨some 6, .len (.tmp 5), none, [2]⟩,
    ⟨some 7, .mov (.const (.int .i64 0)), none, [0, 1]⟩] false)
  (.block 0 (.loop (.seq (.region [⟨some 8, .pur (mkO (.binOp .lss 3 (.tmp 7) (.tmp 6) 3) 0), none, []⟩] false)
      (.seq (.cond (.tmp 8)
        .skip
        (.exit 0))
      (.seq (.block 1 (.seq (.region [⟨some 9, .iad 10 (.tmp 5) (.tmp 7), none, [2]⟩,
          ⟨some 10, .load 10 true (.tmp 9), none, [2]⟩,
          ⟨some 4, .alloc 78 (.agg #[(.int .u8 0), (.int .u32 0), (.int .u8 0), (.int .i64 0), (.int .i64 0), (.int .u8 0), (.int .u32 0), (.int .u8 0), (.int .i64 0), (.slice none 0 0)]), none, [0, 1]⟩,
          ⟨none, .store 10 (.tmp 4) (.tmp 10), none, []⟩] false)
        (.region [⟨some 11, .mov (.tmp 2), none, [1, 2, 3]⟩,
          ⟨some 12, .fad 0 (.tmp 4), none, [0]⟩,
          ⟨some 13, .fad 4 (.tmp 12), none, [0]⟩,
          ⟨some 14, .load 1 false (.tmp 13), none, [0]⟩,
          ⟨some 15, .pur (mkO (.binOp .add 3 (.tmp 11) (.tmp 14) 3) 3), none, []⟩,
          ⟨some 2, .mov (.tmp 15), none, []⟩] false)))
      (.region [⟨some 16, .pur (mkO (.binOp .add 3 (.tmp 7) (.const (.int .i64 1)) 3) 3), none, []⟩,
        ⟨some 7, .mov (.tmp 16), none, []⟩] false)))))))
  (.seq (.region [⟨some 17, .mov (.tmp 2), none, []⟩,
    ⟨some 2, .mov (.tmp 17), none, []⟩] false)
  .ret)))
def a50 : AFunc := ⟨18, c50, [.tmp 2]⟩

def c51 : ACode :=
  (.seq (.region [⟨some 3, .box 34 (.tmp 1), none, [1, 2]⟩,
    ⟨some 4, .mov (.const (.slice none 0 0)), none, [0]⟩,
    ⟨some 5, .mov (.const (.int .i64 0)), none, [0]⟩] false)
  (.seq (.seq (.region [⟨some 11, .load 4 true (.tmp 3), none, [1]⟩,
    ⟨some 12, .build (.agg #[(.int .u8 0), (.int .u32 0), (.int .u8 0), (.int .i64 0)]) [], none, [0]⟩,
    ⟨some 13, .pur (mkO (.binOp .eql 34 (.tmp 11) (.tmp 12) 34) 4), none, []⟩] false)
  (.cond (.tmp 13)
    (.seq (.region [⟨some 14, .mov (.tmp 0), none, []⟩,
      ⟨some 4, .mov (.tmp 14), none, []⟩,
      ⟨some 5, .mov (.const (.int .i64 0)), none, []⟩] false)
    .ret)
    .skip))
  (.seq (.region [⟨some 16, .mov (.tmp 0), none, [1]⟩,
    ⟨some 17, .load 4 true (.tmp 3), none, [0]⟩,
    ⟨some 18, .call (.func 48) [(.tmp 16), (.tmp 17)], none, []⟩,
    ⟨some 15, .mov (.tmp 18), none, []⟩,
    ⟨some 19, .ext (.tmp 15) 0, none, [5]⟩,
    ⟨some 20, .ext (.tmp 15) 1, none, [4, 6]⟩,
    ⟨some 6, .mov (.tmp 19), none, [5]⟩,
    ⟨some 7, .mov (.tmp 20), none, []⟩] false)
  (.seq (.seq (.region [⟨some 22, .mov (.tmp 0), none, [1, 4, 5, 11, 12]⟩,
    ⟨some 23, .mov (.tmp 6), none, [0, 4, 5, 11, 12]⟩,
    ⟨some 24, .iad 10 (.tmp 22) (.tmp 23), none, [4, 5, 11, 12]⟩,
    ⟨some 25, .load 10 true (.tmp 24), none, [4, 5, 11, 12]⟩,
    ⟨some 26, .mov (.tmp 7), none, [0, 1, 2, 3, 11, 12]⟩,
    ⟨some 27, .pur (mkO (.binOp .add 3 (.tmp 26) (.const (.int .i64 1)) 3) 3), none, [0, 1, 2, 3, 11, 12]⟩,
    ⟨some 28, .call (.func 69) [(.tmp 25), (.tmp 27)], none, [11, 12]⟩,
    ⟨some 21, .mov (.tmp 28), none, [11, 12]⟩,
    ⟨some 29, .ext (.tmp 21) 0, none, [9, 10, 11, 12]⟩,
    ⟨some 30, .ext (.tmp 21) 1, none, [8, 10, 11, 12, 13]⟩,
    ⟨some 31, .ext (.tmp 21) 2, none, [8, 9, 11, 12, 13, 14]⟩,
    ⟨some 8, .alloc 78 (.agg #[(.int .u8 0), (.int .u32 0), (.int .u8 0), (.int .i64 0), (.int .i64 0), (.int .u8 0), (.int .u32 0), (.int .u8 0), (.int .i64 0), (.slice none 0 0)]), none, [0, 1, 2, 3, 4, 5, 6, 7, 8, 9, 10, 12]⟩,
    ⟨some 9, .alloc 78 (.agg #[(.int .u8 0), (.int .u32 0), (.int .u8 0), (.int .i64 0), (.int .i64 0), (.int .u8 0), (.int .u32 0), (.int .u8 0), (.int .i64 0), (.slice none 0 0)]), none, [0, 1, 2, 3, 4, 5, 6, 7, 8, 9, 10, 11]⟩,
    ⟨none, .store 10 (.tmp 8) (.tmp 29), none, [9, 10]⟩,
    ⟨none, .store 10 (.tmp 9) (.tmp 30), none, [10]⟩,
    ⟨some 10, .mov (.tmp 31), none, []⟩] false)
  (.seq (.region [⟨some 32, .mov (.tmp 10), none, []⟩,
    ⟨some 33, .pur (mkO (.binOp .eql 22 (.tmp 32) (.const (.int .i64 0)) 22) 4), none, []⟩] false)
  (.cond (.tmp 33)
    (.region [⟨some 34, .mov (.tmp 0), none, [1, 3, 4, 5, 6, 7, 8, 9]⟩,
      ⟨some 35, .mov (.tmp 6), none, [0, 3, 4, 5, 6, 7, 8, 9]⟩,
      ⟨some 36, .slc 10 (.tmp 34) none (some (.tmp 35)) none, none, [3, 4, 5, 6, 7, 8, 9]⟩,
      ⟨some 37, .load 10 true (.tmp 8), none, [0, 1, 2, 4, 6, 7, 8, 9]⟩,
      ⟨some 38, .load 10 true (.tmp 9), none, [0, 1, 2, 3, 6, 7, 8, 9]⟩,
      ⟨some 39, .bsl 78 10 (.agg #[(.int .u8 0), (.int .u32 0), (.int .u8 0), (.int .i64 0), (.int .i64 0), (.int .u8 0), (.int .u32 0), (.int .u8 0), (.int .i64 0), (.slice none 0 0)]) 2 [(0, 10, (.tmp 37)), (10, 10, (.tmp 38))], none, [0, 1, 2, 6, 7, 8, 9]⟩,
      ⟨some 40, .mov (.tmp 0), none, [0, 1, 2, 3, 4, 5, 7, 8]⟩,
      ⟨some 41, .mov (.tmp 6), none, [0, 1, 2, 3, 4, 5, 6]⟩,
      ⟨some 42, .pur (mkO (.binOp .add 3 (.tmp 41) (.const (.int .i64 1)) 3) 3), none, [0, 1, 2, 3, 4, 5, 6]⟩,
      ⟨some 43, .slc 10 (.tmp 40) (some (.tmp 42)) none none, none, [0, 1, 2, 3, 4, 5]⟩,
      ⟨some 44, .bsl 60 1 (.slice none 0 0) 3 [(0, 1, (.tmp 36)), (1, 1, (.tmp 39)), (2, 1, (.tmp 43))], none, []⟩,
      ⟨some 45, .call (.func 70) [(.tmp 44)], none, []⟩,
      ⟨some 0, .mov (.tmp 45), none, []⟩] true)
    .skip)))
  (.seq (.region [⟨some 46, .mov (.tmp 0), none, [1, 2]⟩,
    ⟨some 47, .mov (.tmp 6), none, [0, 3]⟩,
    ⟨some 48, .pur (mkO (.binOp .add 3 (.tmp 47) (.const (.int .i64 1)) 3) 3), none, [0, 3]⟩,
    ⟨some 4, .mov (.tmp 46), none, [1, 2]⟩,
    ⟨some 5, .mov (.tmp 48), none, []⟩] false)
  .ret)))))
def a51 : AFunc := ⟨49, c51, [.tmp 4, .tmp 5]⟩

def c52 : ACode :=
  (.seq (.region [⟨some 2, .box 34 (.tmp 0), none, [1, 2]⟩,
    ⟨some 3, .box 34 (.tmp 1), none, [0, 2]⟩,
    ⟨some 4, .mov (.const (.bool false)), none, [0, 1]⟩] false)
  (.seq (.block 0 (.seq (.region [⟨some 6, .fad 3 (.tmp 2), none, [2, 3]⟩,
      ⟨some 7, .load 1 false (.tmp 6), none, [2, 3]⟩,
      ⟨some 8, .fad 3 (.tmp 3), none, [0, 1]⟩,
      ⟨some 9, .load 1 false (.tmp 8), none, [0, 1]⟩,
      ⟨some 10, .pur (mkO (.binOp .neq 3 (.tmp 7) (.tmp 9) 3) 4), none, []⟩,
      ⟨some 5, .mov (.tmp 10), none, []⟩] false)
    (.cond (.tmp 5)
      (.seq (.region [⟨some 11, .fad 3 (.tmp 2), none, [2, 3]⟩,
        ⟨some 12, .load 1 false (.tmp 11), none, [2, 3]⟩,
        ⟨some 13, .fad 3 (.tmp 3), none, [0, 1]⟩,
        ⟨some 14, .load 1 false (.tmp 13), none, [0, 1]⟩,
        ⟨some 15, .pur (mkO (.binOp .lss 3 (.tmp 12) (.tmp 14) 3) 4), none, []⟩,
        ⟨some 4, .mov (.tmp 15), none, []⟩] false)
      .ret)
      (.seq (.region [⟨some 17, .fad 0 (.tmp 2), none, [3, 4, 5]⟩,
        ⟨some 18, .fad 0 (.tmp 17), none, [3, 4, 5]⟩,
        ⟨some 19, .load 2 true (.tmp 18), none, [3, 4, 5]⟩,
        ⟨some 20, .fad 0 (.tmp 3), none, [0, 1, 2]⟩,
        ⟨some 21, .fad 0 (.tmp 20), none, [0, 1, 2]⟩,
        ⟨some 22, .load 2 true (.tmp 21), none, [0, 1, 2]⟩,
        ⟨some 23, .pur (mkO (.binOp .neq 29 (.tmp 19) (.tmp 22) 29) 4), none, []⟩,
        ⟨some 16, .mov (.tmp 23), none, []⟩] false)
      (.cond (.tmp 16)
        (.seq (.region [⟨some 24, .fad 0 (.tmp 2), none, [3, 4, 5]⟩,
          ⟨some 25, .fad 0 (.tmp 24), none, [3, 4, 5]⟩,
          ⟨some 26, .load 2 true (.tmp 25), none, [3, 4, 5]⟩,
          ⟨some 27, .fad 0 (.tmp 3), none, [0, 1, 2]⟩,
          ⟨some 28, .fad 0 (.tmp 27), none, [0, 1, 2]⟩,
          ⟨some 29, .load 2 true (.tmp 28), none, [0, 1, 2]⟩,
          ⟨some 30, .call (.func 71) [(.tmp 26), (.tmp 29)], none, []⟩,
          ⟨some 4, .mov (.tmp 30), none, []⟩] false)
        .ret)
        .skip)))))
  (.seq (.region [⟨some 31, .fad 0 (.tmp 2), none, [3, 4, 5]⟩,
    ⟨some 32, .fad 2 (.tmp 31), none, [3, 4, 5]⟩,
    ⟨some 33, .load 1 false (.tmp 32), none, [3, 4, 5]⟩,
    ⟨some 34, .fad 0 (.tmp 3), none, [0, 1, 2]⟩,
    ⟨some 35, .fad 2 (.tmp 34), none, [0, 1, 2]⟩,
    ⟨some 36, .load 1 false (.tmp 35), none, [0, 1, 2]⟩,
    ⟨some 37, .pur (mkO (.binOp .lss 5 (.tmp 33) (.tmp 36) 5) 4), none, []⟩,
    ⟨some 4, .mov (.tmp 37), none, []⟩] false)
  .ret)))
def a52 : AFunc := ⟨38, c52, [.tmp 4]⟩

def c53 : ACode :=
  (.seq (.region [⟨some 2, .mov (.const (.slice none 0 0)), none, []⟩] false)
  (.seq (.seq (.region [⟨some 13, .mov (.tmp 0), none, [2]⟩,
    ⟨some 14, .len (.tmp 13), none, [2]⟩,
    ⟨some 15, .mov (.const (.int .i64 0)), none, [0, 1]⟩] false)
  (.block 0 (.loop (.seq (.region [⟨some 16, .pur (mkO (.binOp .lss 3 (.tmp 15) (.tmp 14) 3) 0), none, []⟩] false)
      (.seq (.cond (.tmp 16)
        .skip
        (.exit 0))
      (.seq (.block 1 (.seq (.region [⟨some 17, .iad 10 (.tmp 13) (.tmp 15), none, [2]⟩,
          ⟨some 18, .load 10 true (.tmp 17), none, [2]⟩,
          ⟨some 4, .alloc 78 (.agg #[(.int .u8 0), (.int .u32 0), (.int .u8 0), (.int .i64 0), (.int .i64 0), (.int .u8 0), (.int .u32 0), (.int .u8 0), (.int .i64 0), (.slice none 0 0)]), none, [0, 1]⟩,
          ⟨none, .store 10 (.tmp 4) (.tmp 18), none, []⟩] false)
        (.seq (.region [⟨some 19, .mov (.tmp 2), none, []⟩,
          ⟨some 20, .len (.tmp 19), none, []⟩,
          ⟨some 21, .pur (mkO (.binOp .sub 3 (.tmp 20) (.const (.int .i64 1)) 3) 3), none, []⟩,
          ⟨some 5, .mov (.tmp 21), none, []⟩] false)
        (.seq (.region [⟨some 22, .mov (.tmp 5), none, []⟩,
          ⟨some 23, .pur (mkO (.binOp .geq 3 (.tmp 22) (.const (.int .i64 0)) 3) 4), none, []⟩,
          ⟨some 24, .mov (.tmp 23), none, []⟩,
          ⟨some 25, .fad 5 (.tmp 4), some (24, true), [5, 6, 7, 8, 9]⟩,
          ⟨some 26, .load 4 true (.tmp 25), some (24, true), [5, 6, 7, 8, 9]⟩,
          ⟨some 27, .mov (.tmp 2), some (24, true), [3, 4, 6]⟩,
          ⟨some 28, .mov (.tmp 5), some (24, true), [3, 4, 5]⟩,
          ⟨some 29, .iad 10 (.tmp 27) (.tmp 28), some (24, true), [3, 4]⟩,
          ⟨some 30, .load 10 true (.tmp 29), some (24, true), [3, 4]⟩,
          ⟨some 31, .call (.func 72) [(.tmp 30)], some (24, true), [3, 4]⟩,
          ⟨some 32, .pur (mkO (.binOp .eql 34 (.tmp 26) (.tmp 31) 34) 4), some (24, true), []⟩,
          ⟨some 33, .pick (.tmp 24) (.tmp 32) (.const (.bool false)), none, []⟩,
          ⟨some 34, .mov (.tmp 33), none, []⟩,
          ⟨some 35, .fad 0 (.tmp 4), some (34, true), [16, 17, 18, 19, 20, 21, 22, 23]⟩,
          ⟨some 36, .fad 0 (.tmp 35), some (34, true), [16, 17, 18, 19, 20, 21, 22, 23]⟩,
          ⟨some 37, .load 4 true (.tmp 36), some (34, true), [16, 17, 18, 19, 20, 21, 22, 23]⟩,
          ⟨some 38, .fad 5 (.tmp 4), some (34, true), [13, 14, 15, 19, 20, 21, 22]⟩,
          ⟨some 39, .fad 0 (.tmp 38), some (34, true), [13, 14, 15, 19, 20, 21, 22]⟩,
          ⟨some 40, .load 3 true (.tmp 39), some (34, true), [13, 14, 15, 19, 20, 21, 22]⟩,
          ⟨some 41, .fad 5 (.tmp 4), some (34, true), [13, 14, 15, 16, 17, 18]⟩,
          ⟨some 42, .fad 3 (.tmp 41), some (34, true), [13, 14, 15, 16, 17, 18]⟩,
          ⟨some 43, .load 1 false (.tmp 42), some (34, true), [13, 14, 15, 16, 17, 18]⟩,
          ⟨some 44, .pur (mkO (.binOp .add 3 (.tmp 43) (.const (.int .i64 1)) 3) 3), some (34, true), [13, 14, 15, 16, 17, 18]⟩,
          ⟨some 45, .build (.agg #[(.int .u8 0), (.int .u32 0), (.int .u8 0), (.int .i64 0)]) [(0, 3, (.tmp 40)), (3, 1, (.tmp 44))], some (34, true), [13, 14, 15]⟩,
          ⟨some 46, .pur (mkO (.binOp .eql 34 (.tmp 37) (.tmp 45) 34) 4), some (34, true), []⟩,
          ⟨some 47, .pick (.tmp 34) (.tmp 46) (.const (.bool false)), none, []⟩,
          ⟨some 6, .mov (.tmp 47), none, []⟩] true)
        (.seq (.seq (.region [⟨some 48, .mov (.tmp 6), none, []⟩] false)
        (.cond (.tmp 48)
          (.seq (.region [⟨some 49, .mov (.tmp 2), none, [1]⟩,
            ⟨some 50, .mov (.tmp 5), none, [0]⟩,
            ⟨some 51, .iad 10 (.tmp 49) (.tmp 50), none, []⟩,
            ⟨some 52, .fad 0 (.tmp 51), none, []⟩,
            ⟨some 53, .fad 4 (.tmp 52), none, []⟩,
            ⟨some 54, .load 1 false (.tmp 53), none, []⟩,
            ⟨some 55, .pur (mkO (.binOp .sub 3 (.const (.int .i64 64)) (.tmp 54) 3) 3), none, []⟩,
            ⟨some 7, .mov (.tmp 55), none, []⟩] false)
          (.seq (.region [⟨some 57, .load 10 true (.tmp 4), none, [1, 7, 8]⟩,
            ⟨some 58, .mov (.tmp 7), none, [0, 7, 8]⟩,
            ⟨some 59, .call (.func 69) [(.tmp 57), (.tmp 58)], none, [7, 8]⟩,
            ⟨some 56, .mov (.tmp 59), none, [7, 8]⟩,
            ⟨some 60, .ext (.tmp 56) 0, none, [5, 6, 7, 8]⟩,
            ⟨some 61, .ext (.tmp 56) 1, none, [4, 6, 7, 8, 9]⟩,
            ⟨some 62, .ext (.tmp 56) 2, none, [4, 5, 7, 8, 9, 10]⟩,
            ⟨some 8, .alloc 78 (.agg #[(.int .u8 0), (.int .u32 0), (.int .u8 0), (.int .i64 0), (.int .i64 0), (.int .u8 0), (.int .u32 0), (.int .u8 0), (.int .i64 0), (.slice none 0 0)]), none, [0, 1, 2, 3, 4, 5, 6, 8]⟩,
            ⟨some 9, .alloc 78 (.agg #[(.int .u8 0), (.int .u32 0), (.int .u8 0), (.int .i64 0), (.int .i64 0), (.int .u8 0), (.int .u32 0), (.int .u8 0), (.int .i64 0), (.slice none 0 0)]), none, [0, 1, 2, 3, 4, 5, 6, 7]⟩,
            ⟨none, .store 10 (.tmp 8) (.tmp 60), none, [5, 6]⟩,
            ⟨none, .store 10 (.tmp 9) (.tmp 61), none, [6]⟩,
            ⟨some 10, .mov (.tmp 62), none, []⟩] false)
          (.seq (.region [⟨some 63, .mov (.tmp 10), none, []⟩,
            ⟨some 64, .pur (mkO (.binOp .eql 22 (.tmp 63) (.const (.int .i64 0)) 22) 4), none, []⟩] false)
          (.cond (.tmp 64)
            (.seq (.region [⟨some 66, .mov (.tmp 2), none, [1, 2, 3, 4, 5, 6, 7, 8, 9, 10]⟩,
              ⟨some 67, .mov (.tmp 5), none, [0, 2, 3, 4, 5, 6, 7, 8, 9, 10]⟩,
              ⟨some 68, .mov (.tmp 2), none, [0, 1, 3, 6]⟩,
              ⟨some 69, .mov (.tmp 5), none, [0, 1, 2, 6]⟩,
              ⟨some 70, .iad 10 (.tmp 68) (.tmp 69), none, [0, 1, 6]⟩,
              ⟨some 71, .load 10 true (.tmp 70), none, [0, 1, 6]⟩,
              ⟨some 72, .load 10 true (.tmp 8), none, [0, 1, 2, 3, 4, 5]⟩,
              ⟨some 73, .call (.func 73) [(.tmp 71), (.tmp 72)], none, [0, 1]⟩,
              ⟨some 65, .mov (.tmp 73), none, [0, 1]⟩,
              ⟨some 74, .ext (.tmp 65) 0, none, [0, 1, 10]⟩,
              ⟨some 75, .ext (.tmp 65) 1, none, [0, 1, 9, 11, 12]⟩,
              ⟨some 76, .iad 10 (.tmp 66) (.tmp 67), none, [10]⟩,
              ⟨none, .store 10 (.tmp 76) (.tmp 74), none, [10]⟩] true)
            (.region [⟨some 77, .load 10 true (.tmp 9), none, []⟩,
              ⟨none, .store 10 (.tmp 4) (.tmp 77), none, []⟩] false))
            (.seq (.region [⟨some 79, .mov (.tmp 2), none, [1, 4, 9]⟩,
              ⟨some 80, .mov (.tmp 5), none, [0, 4, 9]⟩,
              ⟨some 81, .iad 10 (.tmp 79) (.tmp 80), none, [4, 9]⟩,
              ⟨some 82, .load 10 true (.tmp 81), none, [4, 9]⟩,
              ⟨some 83, .load 10 true (.tmp 4), none, [0, 1, 2, 3, 9]⟩,
              ⟨some 84, .call (.func 73) [(.tmp 82), (.tmp 83)], none, [9]⟩,
              ⟨some 78, .mov (.tmp 84), none, [9]⟩,
              ⟨some 85, .ext (.tmp 78) 0, none, [8, 9]⟩,
              ⟨some 86, .ext (.tmp 78) 1, none, [7, 9, 10]⟩,
              ⟨some 11, .alloc 78 (.agg #[(.int .u8 0), (.int .u32 0), (.int .u8 0), (.int .i64 0), (.int .i64 0), (.int .u8 0), (.int .u32 0), (.int .u8 0), (.int .i64 0), (.slice none 0 0)]), none, [0, 1, 2, 3, 4, 5, 6, 7, 8]⟩,
              ⟨none, .store 10 (.tmp 11) (.tmp 85), none, [8]⟩,
              ⟨some 12, .mov (.tmp 86), none, []⟩] true)
            (.seq (.region [⟨some 87, .mov (.tmp 12), none, []⟩,
              ⟨some 88, .pur (mkO (.binOp .eql 22 (.tmp 87) (.const (.int .i64 0)) 22) 4), none, []⟩] false)
            (.cond (.tmp 88)
              (.seq (.region [⟨some 89, .mov (.tmp 2), none, [1, 2]⟩,
                ⟨some 90, .mov (.tmp 5), none, [0, 2]⟩,
                ⟨some 91, .load 10 true (.tmp 11), none, [0, 1]⟩,
                ⟨some 92, .iad 10 (.tmp 89) (.tmp 90), none, []⟩,
                ⟨none, .store 10 (.tmp 92) (.tmp 91), none, []⟩] false)
              (.exit 1))
              .skip)))))))
          .skip))
        (.region [⟨some 93, .mov (.tmp 2), none, [1, 2, 3]⟩,
          ⟨some 94, .load 10 true (.tmp 4), none, [0]⟩,
          ⟨some 95, .call (.func 74) [(.tmp 94)], none, [0]⟩,
          ⟨some 96, .bsl 78 10 (.agg #[(.int .u8 0), (.int .u32 0), (.int .u8 0), (.int .i64 0), (.int .i64 0), (.int .u8 0), (.int .u32 0), (.int .u8 0), (.int .i64 0), (.slice none 0 0)]) 1 [(0, 10, (.tmp 95))], none, [0]⟩,
          ⟨some 97, .app 78 10 80 (.agg #[(.int .u8 0), (.int .u32 0), (.int .u8 0), (.int .i64 0), (.int .i64 0), (.int .u8 0), (.int .u32 0), (.int .u8 0), (.int .i64 0), (.slice none 0 0)]) (.tmp 93) (.tmp 96), none, []⟩,
          ⟨some 2, .mov (.tmp 97), none, []⟩] false))))))
      (.region [⟨some 98, .pur (mkO (.binOp .add 3 (.tmp 15) (.const (.int .i64 1)) 3) 3), none, []⟩,
        ⟨some 15, .mov (.tmp 98), none, []⟩] false)))))))
  (.seq (.region [⟨some 99, .mov (.tmp 2), none, []⟩,
    ⟨some 2, .mov (.tmp 99), none, []⟩] false)
  .ret)))
def a53 : AFunc := ⟨100, c53, [.tmp 2]⟩

def c54 : ACode :=
  (.seq (.region [⟨some 6, .mov (.const (.slice none 0 0)), none, []⟩] false)
  (.seq (.region [⟨some 10, .mov (.tmp 0), none, [1]⟩,
    ⟨some 11, .mov (.tmp 1), none, [0]⟩,
    ⟨some 12, .slc 10 (.tmp 10) (some (.tmp 11)) none none, none, []⟩] false)
  (.seq (.region [⟨some 13, .mov (.tmp 2), none, []⟩,
    ⟨some 14, .len (.tmp 13), none, []⟩,
    ⟨some 7, .mov (.tmp 14), none, []⟩] false)
  (.seq (.seq (.region [⟨some 15, .mov (.tmp 7), none, []⟩,
    ⟨some 16, .pur (mkO (.binOp .eql 3 (.tmp 15) (.const (.int .i64 0)) 3) 4), none, []⟩] false)
  (.cond (.tmp 16)
    (.seq (.region [⟨some 17, .mov (.tmp 0), none, []⟩,
      ⟨some 6, .mov (.tmp 17), none, []⟩] false)
    .ret)
    .skip))
  (.seq (.region [⟨some 18, .mov (.tmp 0), none, []⟩,
    ⟨some 19, .len (.tmp 18), none, []⟩,
    ⟨some 8, .mov (.tmp 19), none, []⟩] false)
  (.seq (.seq (.region [⟨some 20, .mov (.tmp 1), none, [1]⟩,
    ⟨some 21, .mov (.tmp 8), none, [0]⟩,
    ⟨some 22, .pur (mkO (.binOp .eql 3 (.tmp 20) (.tmp 21) 3) 4), none, []⟩] false)
  (.cond (.tmp 22)
    (.seq (.region [⟨some 23, .mov (.tmp 0), none, [1]⟩,
      ⟨some 24, .mov (.tmp 2), none, [0]⟩,
      ⟨some 25, .app 78 10 80 (.agg #[(.int .u8 0), (.int .u32 0), (.int .u8 0), (.int .i64 0), (.int .i64 0), (.int .u8 0), (.int .u32 0), (.int .u8 0), (.int .i64 0), (.slice none 0 0)]) (.tmp 23) (.tmp 24), none, []⟩,
      ⟨some 6, .mov (.tmp 25), none, []⟩] false)
    .ret)
    .skip))
  (.seq (.seq (.region [⟨some 26, .mov (.tmp 8), none, [1, 3, 4]⟩,
    ⟨some 27, .mov (.tmp 7), none, [0, 3, 4]⟩,
    ⟨some 28, .pur (mkO (.binOp .add 3 (.tmp 26) (.tmp 27) 3) 3), none, [3, 4]⟩,
    ⟨some 29, .mov (.tmp 0), none, [0, 1, 2]⟩,
    ⟨some 30, .cap (.tmp 29), none, [0, 1, 2]⟩,
    ⟨some 31, .pur (mkO (.binOp .gtr 3 (.tmp 28) (.tmp 30) 3) 4), none, []⟩] false)
  (.cond (.tmp 31)
    (.seq (.region [⟨some 32, .mov (.tmp 0), none, [1, 3, 4, 5, 6, 7]⟩,
      ⟨some 33, .mov (.tmp 1), none, [0, 3, 4, 5, 6, 7]⟩,
      ⟨some 34, .slc 10 (.tmp 32) none (some (.tmp 33)) none, none, [3, 4, 5, 6, 7]⟩,
      ⟨some 35, .mov (.tmp 8), none, [0, 1, 2, 4, 6]⟩,
      ⟨some 36, .mov (.tmp 7), none, [0, 1, 2, 3, 6]⟩,
      ⟨some 37, .pur (mkO (.binOp .add 3 (.tmp 35) (.tmp 36) 3) 3), none, [0, 1, 2, 6]⟩,
      ⟨some 38, .mov (.tmp 1), none, [0, 1, 2, 3, 4, 5]⟩,
      ⟨some 39, .pur (mkO (.binOp .sub 3 (.tmp 37) (.tmp 38) 3) 3), none, [0, 1, 2]⟩,
      ⟨some 40, .appz 78 10 80 (.agg #[(.int .u8 0), (.int .u32 0), (.int .u8 0), (.int .i64 0), (.int .i64 0), (.int .u8 0), (.int .u32 0), (.int .u8 0), (.int .i64 0), (.slice none 0 0)]) (.tmp 34) (.tmp 39), none, []⟩,
      ⟨some 9, .mov (.tmp 40), none, []⟩] false)
    (.seq (.region [⟨some 41, .mov (.tmp 9), none, [1, 3]⟩,
      ⟨some 42, .mov (.tmp 1), none, [0, 3]⟩,
      ⟨some 43, .slc 10 (.tmp 41) (some (.tmp 42)) none none, none, [3]⟩,
      ⟨some 44, .mov (.tmp 2), none, [0, 1, 2]⟩,
      ⟨some 45, .cpy 10 (.tmp 43) (.tmp 44), none, []⟩] false)
    (.seq (.region [⟨some 46, .mov (.tmp 9), none, [1, 2, 3, 5, 6, 7]⟩,
      ⟨some 47, .mov (.tmp 1), none, [0, 2, 5, 6, 7]⟩,
      ⟨some 48, .mov (.tmp 7), none, [0, 1, 5, 6, 7]⟩,
      ⟨some 49, .pur (mkO (.binOp .add 3 (.tmp 47) (.tmp 48) 3) 3), none, [0, 5, 6, 7]⟩,
      ⟨some 50, .slc 10 (.tmp 46) (some (.tmp 49)) none none, none, [5, 6, 7]⟩,
      ⟨some 51, .mov (.tmp 0), none, [0, 1, 2, 3, 4, 6]⟩,
      ⟨some 52, .mov (.tmp 1), none, [0, 1, 2, 3, 4, 5]⟩,
      ⟨some 53, .slc 10 (.tmp 51) (some (.tmp 52)) none none, none, [0, 1, 2, 3, 4]⟩,
      ⟨some 54, .cpy 10 (.tmp 50) (.tmp 53), none, []⟩] true)
    (.seq (.region [⟨some 55, .mov (.tmp 9), none, []⟩,
      ⟨some 6, .mov (.tmp 55), none, []⟩] false)
    .ret))))
    .skip))
  (.seq (.region [⟨some 56, .mov (.tmp 0), none, [1, 2, 3]⟩,
    ⟨some 57, .mov (.tmp 8), none, [0, 2]⟩,
    ⟨some 58, .mov (.tmp 7), none, [0, 1]⟩,
    ⟨some 59, .pur (mkO (.binOp .add 3 (.tmp 57) (.tmp 58) 3) 3), none, [0]⟩,
    ⟨some 60, .slc 10 (.tmp 56) none (some (.tmp 59)) none, none, []⟩,
    ⟨some 0, .mov (.tmp 60), none, []⟩] false)
  (.seq (.seq (.region [⟨some 61, .mov (.tmp 2), none, [1, 2, 3, 4, 5]⟩,
    ⟨some 62, .mov (.tmp 0), none, [0, 2, 3, 4]⟩,
    ⟨some 63, .mov (.tmp 1), none, [0, 1, 3]⟩,
    ⟨some 64, .mov (.tmp 7), none, [0, 1, 2]⟩,
    ⟨some 65, .pur (mkO (.binOp .add 3 (.tmp 63) (.tmp 64) 3) 3), none, [0, 1]⟩,
    ⟨some 66, .slc 10 (.tmp 62) (some (.tmp 65)) none none, none, [0]⟩,
    ⟨some 67, .ovl 10 (.tmp 61) (.tmp 66), none, []⟩,
    ⟨some 68, .pur (mkO (.unOp .not 4 (.tmp 67)) 4), none, []⟩] false)
  (.cond (.tmp 68)
    (.seq (.region [⟨some 69, .mov (.tmp 0), none, [1, 2, 3, 5, 6, 7]⟩,
      ⟨some 70, .mov (.tmp 1), none, [0, 2, 5, 6, 7]⟩,
      ⟨some 71, .mov (.tmp 7), none, [0, 1, 5, 6, 7]⟩,
      ⟨some 72, .pur (mkO (.binOp .add 3 (.tmp 70) (.tmp 71) 3) 3), none, [0, 5, 6, 7]⟩,
      ⟨some 73, .slc 10 (.tmp 69) (some (.tmp 72)) none none, none, [5, 6, 7]⟩,
      ⟨some 74, .mov (.tmp 0), none, [0, 1, 2, 3, 4, 6]⟩,
      ⟨some 75, .mov (.tmp 1), none, [0, 1, 2, 3, 4, 5]⟩,
      ⟨some 76, .slc 10 (.tmp 74) (some (.tmp 75)) none none, none, [0, 1, 2, 3, 4]⟩,
      ⟨some 77, .cpy 10 (.tmp 73) (.tmp 76), none, []⟩] true)
    (.seq (.region [⟨some 78, .mov (.tmp 0), none, [1, 3]⟩,
      ⟨some 79, .mov (.tmp 1), none, [0, 3]⟩,
      ⟨some 80, .slc 10 (.tmp 78) (some (.tmp 79)) none none, none, [3]⟩,
      ⟨some 81, .mov (.tmp 2), none, [0, 1, 2]⟩,
      ⟨some 82, .cpy 10 (.tmp 80) (.tmp 81), none, []⟩] false)
    (.seq (.region [⟨some 83, .mov (.tmp 0), none, []⟩,
      ⟨some 6, .mov (.tmp 83), none, []⟩] false)
    .ret)))
    .skip))
  (.seq (.region [⟨some 84, .mov (.tmp 0), none, [1, 3]⟩,
    ⟨some 85, .mov (.tmp 8), none, [0, 3]⟩,
    ⟨some 86, .slc 10 (.tmp 84) (some (.tmp 85)) none none, none, [3]⟩,
    ⟨some 87, .mov (.tmp 2), none, [0, 1, 2]⟩,
    ⟨some 88, .cpy 10 (.tmp 86) (.tmp 87), none, []⟩] false)
  (.seq (.region [⟨some 89, .mov (.tmp 0), none, [1, 3]⟩,
    ⟨some 90, .mov (.tmp 1), none, [0, 3]⟩,
    ⟨some 91, .slc 10 (.tmp 89) (some (.tmp 90)) none none, none, [3]⟩,
    ⟨some 92, .mov (.tmp 7), none, [0, 1, 2]⟩,
    ⟨some 93, .call (.func 76) [(.tmp 91), (.tmp 92)], none, []⟩] false)
  (.seq (.region [⟨some 94, .mov (.tmp 0), none, []⟩,
    ⟨some 6, .mov (.tmp 94), none, []⟩] false)
  .ret))))))))))))
def a54 : AFunc := ⟨95, c54, [.tmp 6]⟩

def c55 : ACode :=
  (.seq (.region [⟨some 2, .mov (.const (.slice none 0 0)), none, []⟩] false)
  (.seq (.seq (.region [⟨some 3, .mov (.tmp 0), none, []⟩,
    ⟨some 4, .eqnil false 1 (.tmp 3) (mkO (.binOp .eql 60 (.tmp 3) (.const (.slice none 0 0)) 60) 4), none, []⟩] false)
  (.cond (.tmp 4)
    (.seq (.region [⟨some 2, .mov (.const (.slice none 0 0)), none, []⟩] false)
    .ret)
    .skip))
  (.seq (.region [⟨some 5, .bsl 78 10 (.agg #[(.int .u8 0), (.int .u32 0), (.int .u8 0), (.int .i64 0), (.int .i64 0), (.int .u8 0), (.int .u32 0), (.int .u8 0), (.int .i64 0), (.slice none 0 0)]) 0 [], none, [1]⟩,
    ⟨some 6, .mov (.tmp 0), none, [0]⟩,
    ⟨some 7, .app 78 10 80 (.agg #[(.int .u8 0), (.int .u32 0), (.int .u8 0), (.int .i64 0), (.int .i64 0), (.int .u8 0), (.int .u32 0), (.int .u8 0), (.int .i64 0), (.slice none 0 0)]) (.tmp 5) (.tmp 6), none, []⟩,
    ⟨some 2, .mov (.tmp 7), none, []⟩] false)
  .ret)))
def a55 : AFunc := ⟨8, c55, [.tmp 2]⟩

def c56 : ACode :=
  (.seq (.region [⟨some 4, .mov (.const (.int .i64 0)), none, []⟩] false)
  (.seq (.seq (.region [⟨some 6, .mov (.tmp 0), none, [2]⟩,
    ⟨some 7, .len (.tmp 6), none, [2]⟩,
    ⟨some 8, .mov (.const (.int .i64 0)), none, [0, 1]⟩] false)
  (.block 0 (.loop (.seq (.region [⟨some 9, .pur (mkO (.binOp .lss 3 (.tmp 8) (.tmp 7) 3) 0), none, []⟩] false)
      (.seq (.cond (.tmp 9)
        .skip
        (.exit 0))
      (.seq (.block 1 (.seq (.region [⟨some 10, .mov (.tmp 8), none, []⟩,
          ⟨some 5, .mov (.tmp 10), none, []⟩] false)
        (.seq (.region [⟨some 11, .mov (.tmp 1), none, [1, 2, 3, 4]⟩,
          ⟨some 12, .mov (.tmp 0), none, [0, 2]⟩,
          ⟨some 13, .mov (.tmp 5), none, [0, 1]⟩,
          ⟨some 14, .iad 17 (.tmp 12) (.tmp 13), none, [0]⟩,
          ⟨some 15, .load 17 true (.tmp 14), none, [0]⟩,
          ⟨some 16, .call (.tmp 11) [(.tmp 15)], none, []⟩] false)
        (.cond (.tmp 16)
          (.seq (.region [⟨some 17, .mov (.tmp 5), none, []⟩,
            ⟨some 4, .mov (.tmp 17), none, []⟩] false)
          .ret)
          .skip))))
      (.region [⟨some 18, .pur (mkO (.binOp .add 3 (.tmp 8) (.const (.int .i64 1)) 3) 3), none, []⟩,
        ⟨some 8, .mov (.tmp 18), none, []⟩] false)))))))
  (.seq (.region [⟨some 4, .mov (.const (.int .i64 (-1))), none, []⟩] false)
  .ret)))
def a56 : AFunc := ⟨19, c56, [.tmp 4]⟩

def c57 : ACode :=
  (.seq (.region [⟨some 2, .mov (.const (.int .i64 0)), none, []⟩] false)
  (.seq (.seq (.region [⟨some 5, .mov (.tmp 0), none, []⟩,
    ⟨some 6, .len (.tmp 5), none, []⟩,
    ⟨some 7, .pur (mkO (.binOp .gtr 3 (.tmp 6) (.const (.int .i64 2048)) 3) 4), none, []⟩] false)
  (.cond (.tmp 7)
    (.seq (.region [⟨some 2, .mov (.const (.int .i64 4)), none, []⟩] false)
    .ret)
    .skip))
  (.seq (.seq (.region [⟨some 8, .mov (.tmp 0), none, [2]⟩,
    ⟨some 9, .len (.tmp 8), none, [2]⟩,
    ⟨some 10, .mov (.const (.int .i64 0)), none, [0, 1]⟩] false)
  (.block 0 (.loop (.seq (.region [⟨some 11, .pur (mkO (.binOp .lss 3 (.tmp 10) (.tmp 9) 3) 0), none, []⟩] false)
      (.seq (.cond (.tmp 11)
        .skip
        (.exit 0))
      (.seq (.block 1 (.seq (.region [⟨some 12, .mov (.tmp 10), none, [1, 2, 3]⟩,
          ⟨some 13, .iad 17 (.tmp 8) (.tmp 10), none, [0, 3]⟩,
          ⟨some 14, .load 17 true (.tmp 13), none, [0, 3]⟩,
          ⟨some 4, .alloc 47 (.agg #[(.int .u8 0), (.int .u8 0), (.int .u32 0), (.int .u8 0), (.int .i64 0), (.int .u8 0), (.int .u32 0), (.int .u8 0), (.int .i64 0), (.int .i64 0), (.int .u8 0), (.int .u32 0), (.int .u8 0), (.int .i64 0), (.int .u8 0), (.int .u32 0), (.slice none 0 0)]), none, [0, 1, 2]⟩,
          ⟨some 3, .mov (.tmp 12), none, []⟩,
          ⟨none, .store 17 (.tmp 4) (.tmp 14), none, []⟩] false)
        (.seq (.region [⟨some 15, .load 17 true (.tmp 4), none, []⟩,
          ⟨some 16, .call (.func 44) [(.tmp 15)], none, []⟩,
          ⟨some 17, .pur (mkO (.binOp .neq 22 (.tmp 16) (.const (.int .i64 0)) 22) 4), none, []⟩,
          ⟨some 18, .mov (.tmp 17), none, []⟩,
          ⟨some 19, .mov (.tmp 0), some (18, false), [5, 7]⟩,
          ⟨some 20, .mov (.tmp 3), some (18, false), [4, 7]⟩,
          ⟨some 21, .slc 17 (.tmp 19) none (some (.tmp 20)) none, some (18, false), [7]⟩,
          ⟨some 22, .load 17 true (.tmp 4), some (18, false), [4, 5, 6]⟩,
          ⟨some 23, .call (.func 77) [(.tmp 21), (.tmp 22)], some (18, false), []⟩,
          ⟨some 24, .pur (mkO (.unOp .not 4 (.tmp 23)) 4), some (18, false), []⟩,
          ⟨some 25, .pick (.tmp 18) (.const (.bool true)) (.tmp 24), none, []⟩] true)
        (.cond (.tmp 25)
          (.seq (.region [⟨some 2, .mov (.const (.int .i64 8)), none, []⟩] false)
          .ret)
          .skip))))
      (.region [⟨some 26, .pur (mkO (.binOp .add 3 (.tmp 10) (.const (.int .i64 1)) 3) 3), none, []⟩,
        ⟨some 10, .mov (.tmp 26), none, []⟩] false)))))))
  (.seq (.region [⟨some 2, .mov (.const (.int .i64 0)), none, []⟩] false)
  .ret))))
def a57 : AFunc := ⟨27, c57, [.tmp 2]⟩

end Go.Proofs.YtipmhbfneciojaaGreat
