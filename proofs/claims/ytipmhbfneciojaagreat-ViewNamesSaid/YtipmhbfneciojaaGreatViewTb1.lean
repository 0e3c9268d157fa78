/-
  The program's functions, as the executor has them, part 2.
-/
import Derived.Test.YtipmhbfneciojaaGreatEe
set_option maxRecDepth 100000
namespace Go.Proofs.YtipmhbfneciojaaGreat
open Go Go.Ax
def c58 : ACode :=
  (.seq (.region [⟨some 4, .mov (.const (.int .i64 0)), none, []⟩] false)
  (.seq (.seq (.region [⟨some 6, .mov (.tmp 0), none, [2]⟩,
    ⟨some 7, .len (.tmp 6), none, [2]⟩,
    ⟨some 8, .mov (.const (.int .i64 0)), none, [0, 1]⟩] false)
  (.block 0 (.loop (.seq (.region [⟨some 9, .pur (mkO (.binOp .lss 3 (.tmp 8) (.tmp 7) 3) 0), none, []⟩] false)
      (.seq (.cond (.tmp 9)
        .skip
        (.exit 0))
      (.seq (.block 1 (.seq (.region [⟨some 10, .mov (.tmp 8), none, []⟩,
          ⟨some 5, .mov (.tmp 10), none, []⟩] false)
        (.seq (.region [⟨some 11, .mov (.tmp 1), none, [1, 2, 3, 4]⟩,
          ⟨some 12, .mov (.tmp 0), none, [0, 2]⟩,
          ⟨some 13, .mov (.tmp 5), none, [0, 1]⟩,
          ⟨some 14, .iad 2 (.tmp 12) (.tmp 13), none, [0]⟩,
          ⟨some 15, .load 2 true (.tmp 14), none, [0]⟩,
          ⟨some 16, .call (.tmp 11) [(.tmp 15)], none, []⟩] false)
        (.cond (.tmp 16)
          (.seq (.region [⟨some 17, .mov (.tmp 5), none, []⟩,
            ⟨some 4, .mov (.tmp 17), none, []⟩] false)
          .ret)
          .skip))))
      (.region [⟨some 18, .pur (mkO (.binOp .add 3 (.tmp 8) (.const (.int .i64 1)) 3) 3), none, []⟩,
        ⟨some 8, .mov (.tmp 18), none, []⟩] false)))))))
  (.seq (.region [⟨some 4, .mov (.const (.int .i64 (-1))), none, []⟩] false)
  .ret)))
def a58 : AFunc := ⟨19, c58, [.tmp 4]⟩

def c59 : ACode :=
  (.seq (.region [⟨some 3, .box 25 (.tmp 0), none, [1, 2, 3]⟩,
    ⟨some 4, .box 34 (.tmp 1), none, [0, 2, 3]⟩,
    ⟨some 5, .box 29 (.tmp 2), none, [0, 1, 3]⟩,
    ⟨some 6, .mov (.const .nilFunc), none, [0, 1, 2]⟩] false)
  (.seq (.region [⟨some 7, .mkfn 78 [] [(.tmp 3), (.tmp 4), (.tmp 5)], none, []⟩,
    ⟨some 6, .mov (.tmp 7), none, []⟩] false)
  .ret))
def a59 : AFunc := ⟨8, c59, [.tmp 6]⟩

def c60 : ACode :=
  (.seq (.region [⟨some 3, .box 29 (.tmp 1), none, [1]⟩,
    ⟨some 4, .mov (.const (.bool false)), none, [0]⟩] false)
  (.seq (.region [⟨some 5, .mov (.tmp 0), none, [1]⟩,
    ⟨some 6, .load 2 true (.tmp 3), none, [0]⟩,
    ⟨some 7, .call (.func 79) [(.tmp 5), (.tmp 6)], none, []⟩,
    ⟨some 8, .pur (mkO (.binOp .geq 3 (.tmp 7) (.const (.int .i64 0)) 3) 4), none, []⟩,
    ⟨some 4, .mov (.tmp 8), none, []⟩] false)
  .ret))
def a60 : AFunc := ⟨9, c60, [.tmp 4]⟩

def c61 : ACode :=
  (.seq (.region [⟨some 3, .box 47 (.tmp 1), none, [1]⟩,
    ⟨some 4, .mov (.const (.int .i64 0)), none, [0]⟩] false)
  (.seq (.region [⟨some 6, .build (.agg #[.nilFunc, .nilFunc, .nilFunc, .nilFunc]) [(1, 1, (.func 80)), (2, 1, (.func 81)), (3, 1, (.func 82))], none, [1, 2, 4, 5]⟩,
    ⟨some 7, .fad 0 (.tmp 3), none, [0, 4, 5]⟩,
    ⟨some 8, .load 1 false (.tmp 7), none, [0, 4, 5]⟩,
    ⟨some 9, .idx 4 1 false (.tmp 6) (.tmp 8), none, [4, 5]⟩,
    ⟨some 10, .mov (.tmp 0), none, [0, 1, 2, 3, 5]⟩,
    ⟨some 11, .load 17 true (.tmp 3), none, [0, 1, 2, 3, 4]⟩,
    ⟨some 12, .call (.tmp 9) [(.tmp 10), (.tmp 11)], none, []⟩,
    ⟨some 5, .mov (.tmp 12), none, []⟩] true)
  (.seq (.seq (.region [⟨some 13, .mov (.tmp 5), none, []⟩,
    ⟨some 14, .pur (mkO (.binOp .eql 22 (.tmp 13) (.const (.int .i64 0)) 22) 4), none, []⟩,
    ⟨some 15, .mov (.tmp 14), none, []⟩,
    ⟨some 16, .mov (.tmp 0), some (15, true), []⟩,
    ⟨some 17, .nilck (.tmp 16), some (15, true), []⟩,
    ⟨some 18, .fad 0 (.tmp 17), some (15, true), []⟩,
    ⟨some 19, .load 1 false (.tmp 18), some (15, true), []⟩,
    ⟨some 20, .len (.tmp 19), some (15, true), []⟩,
    ⟨some 21, .pur (mkO (.binOp .geq 3 (.tmp 20) (.const (.int .i64 2048)) 3) 4), some (15, true), []⟩,
    ⟨some 22, .pick (.tmp 15) (.tmp 21) (.const (.bool false)), none, []⟩] false)
  (.cond (.tmp 22)
    (.region [⟨some 5, .mov (.const (.int .i64 4)), none, []⟩] false)
    .skip))
  (.seq (.region [⟨some 23, .mov (.tmp 5), none, []⟩,
    ⟨some 4, .mov (.tmp 23), none, []⟩] false)
  .ret))))
def a61 : AFunc := ⟨24, c61, [.tmp 4]⟩

def c62 : ACode :=
  (.seq (.region [⟨some 1, .box 44 (.tmp 0), none, [1]⟩,
    ⟨some 2, .mov (.const (.slice none 0 0)), none, [0]⟩] false)
  (.seq (.seq (.region [⟨some 6, .fad 4 (.tmp 1), none, [2]⟩,
    ⟨some 7, .load 1 false (.tmp 6), none, [2]⟩,
    ⟨some 8, .mov (.const (.int .i64 0)), none, [0, 1]⟩] false)
  (.block 0 (.loop (.seq (.region [⟨some 9, .pur (mkO (.binOp .lss 3 (.tmp 8) (.tmp 7) 3) 4), none, []⟩] false)
      (.seq (.cond (.tmp 9)
        .skip
        (.exit 0))
      (.seq (.block 1 (.seq (.region [⟨some 10, .mov (.tmp 8), none, []⟩,
          ⟨some 3, .mov (.tmp 10), none, []⟩] false)
        (.seq (.region [⟨some 12, .load 5 true (.tmp 1), none, [1, 6]⟩,
          ⟨some 13, .mov (.tmp 3), none, [0, 6]⟩,
          ⟨some 14, .call (.func 49) [(.tmp 12), (.tmp 13)], none, [6]⟩,
          ⟨some 11, .mov (.tmp 14), none, [6]⟩,
          ⟨some 15, .ext (.tmp 11) 0, none, [5, 6]⟩,
          ⟨some 16, .ext (.tmp 11) 1, none, [4, 6, 7]⟩,
          ⟨some 4, .alloc 34 (.agg #[(.int .u8 0), (.int .u32 0), (.int .u8 0), (.int .i64 0)]), none, [0, 1, 2, 3, 4, 5]⟩,
          ⟨none, .store 4 (.tmp 4) (.tmp 15), none, [5]⟩,
          ⟨some 5, .mov (.tmp 16), none, []⟩] false)
        (.region [⟨some 17, .mov (.tmp 2), none, [1, 2]⟩,
          ⟨some 18, .load 4 true (.tmp 4), none, [0]⟩,
          ⟨some 19, .bsl 34 4 (.agg #[(.int .u8 0), (.int .u32 0), (.int .u8 0), (.int .i64 0)]) 1 [(0, 4, (.tmp 18))], none, [0]⟩,
          ⟨some 20, .app 34 4 24 (.agg #[(.int .u8 0), (.int .u32 0), (.int .u8 0), (.int .i64 0)]) (.tmp 17) (.tmp 19), none, []⟩,
          ⟨some 2, .mov (.tmp 20), none, []⟩] false))))
      (.region [⟨some 21, .pur (mkO (.binOp .add 3 (.tmp 8) (.const (.int .i64 1)) 3) 3), none, []⟩,
        ⟨some 8, .mov (.tmp 21), none, []⟩] false)))))))
  (.seq (.region [⟨some 22, .mov (.tmp 2), none, []⟩,
    ⟨some 2, .mov (.tmp 22), none, []⟩] false)
  .ret)))
def a62 : AFunc := ⟨23, c62, [.tmp 2]⟩

def c63 : ACode :=
  (.seq (.region [⟨some 0, .alloc 126 (.agg #[.nilFunc, .nilFunc, .nilFunc, .nilFunc, .nilFunc, .nilFunc, .nilFunc, .nilFunc]), none, []⟩] false)
  (.seq (.region [⟨some 1, .alloc 89 .nilFunc, none, []⟩,
    ⟨none, .store 1 (.tmp 1) (.func 83), none, []⟩] false)
  (.seq (.region [⟨some 2, .alloc 89 .nilFunc, none, []⟩,
    ⟨none, .store 1 (.tmp 2) (.func 84), none, []⟩] false)
  (.seq (.region [⟨some 3, .mkfn 86 [] [(.tmp 2)], none, [2, 3, 4, 5]⟩,
    ⟨some 4, .build (.agg #[.nilFunc, .nilFunc]) [(0, 1, (.tmp 3)), (1, 1, (.func 87))], none, [2, 3, 4, 5]⟩,
    ⟨some 5, .mkfn 88 [] [(.tmp 2), (.tmp 1)], none, [0, 1, 4, 5]⟩,
    ⟨some 6, .build (.agg #[.nilFunc, .nilFunc]) [(0, 1, (.tmp 5)), (1, 1, (.func 89))], none, [0, 1, 4, 5]⟩,
    ⟨some 7, .mkfn 90 [] [(.tmp 1)], none, [0, 1, 2, 3]⟩,
    ⟨some 8, .build (.agg #[.nilFunc, .nilFunc]) [(0, 1, (.tmp 7)), (1, 1, (.func 91))], none, [0, 1, 2, 3]⟩,
    ⟨some 9, .build (.agg #[.nilFunc, .nilFunc, .nilFunc, .nilFunc, .nilFunc, .nilFunc, .nilFunc, .nilFunc]) [(2, 2, (.tmp 4)), (4, 2, (.tmp 6)), (6, 2, (.tmp 8))], none, []⟩,
    ⟨none, .store 8 (.tmp 0) (.tmp 9), none, []⟩] false)
  .ret))))
def a63 : AFunc := ⟨10, c63, [.cell 0 8 true]⟩

def c64 : ACode :=
  (.seq (.region [⟨some 2, .mov (.const (.int .i64 0)), none, []⟩] false)
  (.seq (.region [⟨some 3, .mov (.func 92), none, []⟩] false)
  (.seq (.block 0 (.seq (.region [⟨some 5, .mov (.tmp 0), none, []⟩,
      ⟨some 6, .len (.tmp 5), none, []⟩,
      ⟨some 7, .pur (mkO (.binOp .gtr 3 (.tmp 6) (.const (.int .i64 64)) 3) 4), none, []⟩,
      ⟨some 4, .mov (.tmp 7), none, []⟩] false)
    (.cond (.tmp 4)
      (.seq (.region [⟨some 2, .mov (.const (.int .i64 4)), none, []⟩] false)
      .ret)
      (.seq (.region [⟨some 9, .mov (.tmp 0), none, [1]⟩,
        ⟨some 10, .mov (.tmp 3), none, [0]⟩,
        ⟨some 11, .call (.func 94) [(.tmp 9), (.tmp 10)], none, []⟩,
        ⟨some 8, .mov (.tmp 11), none, []⟩] false)
      (.cond (.tmp 8)
        (.seq (.region [⟨some 2, .mov (.const (.int .i64 8)), none, []⟩] false)
        .ret)
        .skip)))))
  (.seq (.region [⟨some 2, .mov (.const (.int .i64 0)), none, []⟩] false)
  .ret))))
def a64 : AFunc := ⟨12, c64, [.tmp 2]⟩

def c65 : ACode :=
  (.seq (.region [⟨some 4, .mov (.const (.bool false)), none, []⟩] false)
  (.seq (.region [⟨some 5, .mov (.tmp 0), none, [1]⟩,
    ⟨some 6, .mov (.tmp 1), none, [0]⟩,
    ⟨some 7, .call (.func 95) [(.tmp 5), (.tmp 6)], none, []⟩,
    ⟨some 8, .pur (mkO (.binOp .geq 3 (.tmp 7) (.const (.int .i64 0)) 3) 4), none, []⟩,
    ⟨some 4, .mov (.tmp 8), none, []⟩] false)
  .ret))
def a65 : AFunc := ⟨9, c65, [.tmp 4]⟩

def c66 : ACode :=
  (.seq (.region [⟨some 1, .box 78 (.tmp 0), none, [1]⟩,
    ⟨some 2, .mov (.const (.bool false)), none, [0]⟩] false)
  (.seq (.region [⟨some 3, .load 10 true (.tmp 1), none, []⟩,
    ⟨some 4, .call (.func 46) [(.tmp 3)], none, []⟩,
    ⟨some 5, .pur (mkO (.binOp .neq 22 (.tmp 4) (.const (.int .i64 0)) 22) 4), none, []⟩,
    ⟨some 2, .mov (.tmp 5), none, []⟩] false)
  .ret))
def a66 : AFunc := ⟨6, c66, [.tmp 2]⟩

def c67 : ACode :=
  (.seq (.region [⟨some 2, .alloc 4 (.bool false), none, []⟩] false)
  (.seq (.region [⟨some 3, .alloc 121 (.slice none 0 0), none, []⟩] false)
  (.seq (.region [⟨some 9, .mkmap, none, [1]⟩,
    ⟨some 4, .alloc 148 (.map none), none, [0]⟩,
    ⟨none, .store 1 (.tmp 4) (.tmp 9), none, []⟩] false)
  (.seq (.seq (.region [⟨some 10, .mov (.tmp 0), none, []⟩,
    ⟨some 11, .call (.func 96) [(.tmp 10)], none, []⟩] false)
  (.block 0 (.rangeFunc (.tmp 11) [12, 13] (.seq (.region [⟨some 5, .alloc 34 (.agg #[(.int .u8 0), (.int .u32 0), (.int .u8 0), (.int .i64 0)]), none, []⟩,
        ⟨none, .store 4 (.tmp 5) (.tmp 12), none, []⟩] false)
      (.region [⟨some 6, .alloc 34 (.agg #[(.int .u8 0), (.int .u32 0), (.int .u8 0), (.int .i64 0)]), none, []⟩,
        ⟨none, .store 4 (.tmp 6) (.tmp 13), none, []⟩] false)) (.block 1 (.scope (.seq (.region [⟨some 7, .alloc 34 (.agg #[(.int .u8 0), (.int .u32 0), (.int .u8 0), (.int .i64 0)]), none, []⟩] false)
        (.seq .label
        (.seq (.block 2 (.loop (.seq (.seq (.region [⟨some 14, .load 1 false (.tmp 3), none, []⟩,
              ⟨some 15, .len (.tmp 14), none, []⟩,
              ⟨some 16, .pur (mkO (.binOp .gtr 3 (.tmp 15) (.const (.int .i64 0)) 3) 4), none, []⟩] false)
            (.cond (.tmp 16)
              .skip
              (.exit 2)))
            (.block 3 (.seq (.region [⟨some 17, .load 1 false (.tmp 3), none, [1, 2, 3, 6]⟩,
                ⟨some 18, .load 1 false (.tmp 3), none, [0, 6]⟩,
                ⟨some 19, .len (.tmp 18), none, [0, 6]⟩,
                ⟨some 20, .pur (mkO (.binOp .sub 3 (.tmp 19) (.const (.int .i64 1)) 3) 3), none, [0, 6]⟩,
                ⟨some 21, .iad 4 (.tmp 17) (.tmp 20), none, [6]⟩,
                ⟨some 22, .load 4 true (.tmp 21), none, [6]⟩,
                ⟨some 8, .alloc 34 (.agg #[(.int .u8 0), (.int .u32 0), (.int .u8 0), (.int .i64 0)]), none, [0, 1, 2, 3, 4, 5]⟩,
                ⟨none, .store 4 (.tmp 8) (.tmp 22), none, []⟩] false)
              (.seq (.seq (.region [⟨some 23, .load 4 true (.tmp 8), none, [1]⟩,
                ⟨some 24, .load 4 true (.tmp 6), none, [0]⟩,
                ⟨some 25, .pur (mkO (.binOp .eql 34 (.tmp 23) (.tmp 24) 34) 4), none, []⟩] false)
              (.cond (.tmp 25)
                (.exit 2)
                .skip))
              (.region [⟨some 26, .load 4 true (.tmp 8), none, [1, 2, 3, 4, 5]⟩,
                ⟨some 27, .load 1 false (.tmp 3), none, [0, 2, 3, 4, 6]⟩,
                ⟨some 28, .load 1 false (.tmp 3), none, [0, 1, 6]⟩,
                ⟨some 29, .len (.tmp 28), none, [0, 1, 6]⟩,
                ⟨some 30, .pur (mkO (.binOp .sub 3 (.tmp 29) (.const (.int .i64 1)) 3) 3), none, [0, 1, 6]⟩,
                ⟨some 31, .slc 4 (.tmp 27) none (some (.tmp 30)) none, none, [0, 6]⟩,
                ⟨none, .store 4 (.tmp 7) (.tmp 26), none, [1, 2, 3, 4, 5]⟩,
                ⟨none, .store 1 (.tmp 3) (.tmp 31), none, []⟩] true)))))))
        (.seq (.seq (.region [⟨some 32, .load 1 false (.tmp 3), none, []⟩,
          ⟨some 33, .len (.tmp 32), none, []⟩,
          ⟨some 34, .pur (mkO (.binOp .eql 3 (.tmp 33) (.const (.int .i64 0)) 3) 4), none, []⟩,
          ⟨some 35, .mov (.tmp 34), none, []⟩,
          ⟨some 36, .load 4 true (.tmp 6), some (35, true), [5]⟩,
          ⟨some 37, .build (.agg #[(.int .u8 0), (.int .u32 0), (.int .u8 0), (.int .i64 0)]) [], some (35, true), [4]⟩,
          ⟨some 38, .pur (mkO (.binOp .neq 34 (.tmp 36) (.tmp 37) 34) 4), some (35, true), []⟩,
          ⟨some 39, .pick (.tmp 35) (.tmp 38) (.const (.bool false)), none, []⟩,
          ⟨some 40, .mov (.tmp 39), none, []⟩,
          ⟨some 41, .load 4 true (.tmp 7), some (40, false), [10]⟩,
          ⟨some 42, .build (.agg #[(.int .u8 0), (.int .u32 0), (.int .u8 0), (.int .i64 0)]) [], some (40, false), [9]⟩,
          ⟨some 43, .pur (mkO (.binOp .neq 34 (.tmp 41) (.tmp 42) 34) 4), some (40, false), []⟩,
          ⟨some 44, .mov (.tmp 43), some (40, false), []⟩,
          ⟨some 45, .load 4 true (.tmp 5), some (44, true), [14]⟩,
          ⟨some 46, .load 4 true (.tmp 7), some (44, true), [13]⟩,
          ⟨some 47, .call (.func 52) [(.tmp 45), (.tmp 46)], some (44, true), []⟩,
          ⟨some 48, .pur (mkO (.unOp .not 4 (.tmp 47)) 4), some (44, true), []⟩,
          ⟨some 49, .pick (.tmp 44) (.tmp 48) (.const (.bool false)), some (40, false), []⟩,
          ⟨some 50, .pick (.tmp 40) (.const (.bool true)) (.tmp 49), none, []⟩,
          ⟨some 51, .mov (.tmp 50), none, []⟩,
          ⟨some 52, .load 1 false (.tmp 4), some (51, false), [21]⟩,
          ⟨some 53, .load 4 true (.tmp 5), some (51, false), [20]⟩,
          ⟨some 54, .lookup 34 (.int .i64 0) (.tmp 52) (.tmp 53) false, some (51, false), []⟩,
          ⟨some 55, .pur (mkO (.binOp .gtr 3 (.tmp 54) (.const (.int .i64 0)) 3) 4), some (51, false), []⟩,
          ⟨some 56, .pick (.tmp 51) (.const (.bool true)) (.tmp 55), none, []⟩] false)
        (.cond (.tmp 56)
          (.seq (.region [⟨none, .store 1 (.tmp 2) (.const (.bool false)), none, []⟩] false)
          .ret)
          .skip))
        (.seq (.region [⟨some 57, .load 1 false (.tmp 4), none, [1]⟩,
          ⟨some 58, .load 4 true (.tmp 5), none, [0]⟩,
          ⟨none, .mupd 34 (.tmp 57) (.tmp 58) (.const (.int .i64 1)), none, []⟩] false)
        (.region [⟨some 59, .load 1 false (.tmp 3), none, [1, 2]⟩,
          ⟨some 60, .load 4 true (.tmp 5), none, [0]⟩,
          ⟨some 61, .bsl 34 4 (.agg #[(.int .u8 0), (.int .u32 0), (.int .u8 0), (.int .i64 0)]) 1 [(0, 4, (.tmp 60))], none, [0]⟩,
          ⟨some 62, .app 34 4 24 (.agg #[(.int .u8 0), (.int .u32 0), (.int .u8 0), (.int .i64 0)]) (.tmp 59) (.tmp 61), none, []⟩,
          ⟨none, .store 1 (.tmp 3) (.tmp 62), none, []⟩] false)))))))))))
  (.seq (.region [⟨none, .store 1 (.tmp 2) (.const (.bool true)), none, []⟩] false)
  .ret)))))
def a67 : AFunc := ⟨63, c67, [.cell 2 1 false]⟩

def c68 : ACode :=
  (.seq (.region [⟨some 4, .mov (.const (.bool false)), none, []⟩] false)
  (.seq (.region [⟨some 5, .mov (.tmp 0), none, [1]⟩,
    ⟨some 6, .mov (.tmp 1), none, [0]⟩,
    ⟨some 7, .call (.func 97) [(.tmp 5), (.tmp 6), (.func 98)], none, []⟩,
    ⟨some 4, .mov (.tmp 7), none, []⟩] false)
  .ret))
def a68 : AFunc := ⟨8, c68, [.tmp 4]⟩

def c69 : ACode :=
  (.seq (.region [⟨some 2, .box 78 (.tmp 0), none, [1, 2, 3]⟩,
    ⟨some 4, .alloc 78 (.agg #[(.int .u8 0), (.int .u32 0), (.int .u8 0), (.int .i64 0), (.int .i64 0), (.int .u8 0), (.int .u32 0), (.int .u8 0), (.int .i64 0), (.slice none 0 0)]), none, [0, 2, 3]⟩,
    ⟨some 5, .alloc 78 (.agg #[(.int .u8 0), (.int .u32 0), (.int .u8 0), (.int .i64 0), (.int .i64 0), (.int .u8 0), (.int .u32 0), (.int .u8 0), (.int .i64 0), (.slice none 0 0)]), none, [0, 1, 3]⟩,
    ⟨some 6, .mov (.const (.int .i64 0)), none, [0, 1, 2]⟩] false)
  (.seq (.seq (.region [⟨some 11, .load 10 true (.tmp 2), none, []⟩,
    ⟨some 12, .call (.func 46) [(.tmp 11)], none, []⟩,
    ⟨some 7, .mov (.tmp 12), none, []⟩] false)
  (.seq (.region [⟨some 13, .mov (.tmp 7), none, []⟩,
    ⟨some 14, .pur (mkO (.binOp .neq 22 (.tmp 13) (.const (.int .i64 0)) 22) 4), none, []⟩] false)
  (.cond (.tmp 14)
    (.seq (.region [⟨some 15, .load 10 true (.tmp 4), none, [1, 2]⟩,
      ⟨some 16, .load 10 true (.tmp 5), none, [0, 2, 3]⟩,
      ⟨some 17, .mov (.tmp 7), none, [0, 1, 3, 4]⟩,
      ⟨none, .store 10 (.tmp 4) (.tmp 15), none, [1, 2]⟩,
      ⟨none, .store 10 (.tmp 5) (.tmp 16), none, [2]⟩,
      ⟨some 6, .mov (.tmp 17), none, []⟩] true)
    .ret)
    .skip)))
  (.seq (.region [⟨some 19, .fad 0 (.tmp 2), none, [2, 8, 9]⟩,
    ⟨some 20, .load 5 true (.tmp 19), none, [2, 8, 9]⟩,
    ⟨some 21, .mov (.tmp 1), none, [0, 1, 8, 9]⟩,
    ⟨some 22, .call (.func 99) [(.tmp 20), (.tmp 21)], none, [8, 9]⟩,
    ⟨some 18, .mov (.tmp 22), none, [8, 9]⟩,
    ⟨some 23, .ext (.tmp 18) 0, none, [6, 7, 8, 9]⟩,
    ⟨some 24, .ext (.tmp 18) 1, none, [5, 7, 8, 9, 10]⟩,
    ⟨some 25, .ext (.tmp 18) 2, none, [5, 6, 8, 9, 10, 11]⟩,
    ⟨some 8, .alloc 44 (.agg #[(.int .u8 0), (.int .u32 0), (.int .u8 0), (.int .i64 0), (.int .i64 0)]), none, [0, 1, 2, 3, 4, 5, 6, 7, 9]⟩,
    ⟨some 9, .alloc 44 (.agg #[(.int .u8 0), (.int .u32 0), (.int .u8 0), (.int .i64 0), (.int .i64 0)]), none, [0, 1, 2, 3, 4, 5, 6, 7, 8]⟩,
    ⟨none, .store 5 (.tmp 8) (.tmp 23), none, [6, 7]⟩,
    ⟨none, .store 5 (.tmp 9) (.tmp 24), none, [7]⟩,
    ⟨some 6, .mov (.tmp 25), none, []⟩] false)
  (.seq (.seq (.region [⟨some 26, .mov (.tmp 6), none, []⟩,
    ⟨some 27, .pur (mkO (.binOp .neq 22 (.tmp 26) (.const (.int .i64 0)) 22) 4), none, []⟩] false)
  (.cond (.tmp 27)
    (.seq (.region [⟨some 28, .load 10 true (.tmp 4), none, [1, 2]⟩,
      ⟨some 29, .load 10 true (.tmp 5), none, [0, 2, 3]⟩,
      ⟨some 30, .mov (.tmp 6), none, [0, 1, 3, 4]⟩,
      ⟨none, .store 10 (.tmp 4) (.tmp 28), none, [1, 2]⟩,
      ⟨none, .store 10 (.tmp 5) (.tmp 29), none, [2]⟩,
      ⟨some 6, .mov (.tmp 30), none, []⟩] true)
    .ret)
    .skip))
  (.seq (.region [⟨some 32, .load 5 true (.tmp 8), none, [1, 2, 7]⟩,
    ⟨some 33, .mov (.tmp 1), none, [0, 7]⟩,
    ⟨some 34, .pur (mkO (.binOp .sub 3 (.tmp 33) (.const (.int .i64 1)) 3) 3), none, [0, 7]⟩,
    ⟨some 35, .call (.func 49) [(.tmp 32), (.tmp 34)], none, [7]⟩,
    ⟨some 31, .mov (.tmp 35), none, [7]⟩,
    ⟨some 36, .ext (.tmp 31) 0, none, [6, 7]⟩,
    ⟨some 37, .ext (.tmp 31) 1, none, [5, 7, 8]⟩,
    ⟨some 10, .alloc 34 (.agg #[(.int .u8 0), (.int .u32 0), (.int .u8 0), (.int .i64 0)]), none, [0, 1, 2, 3, 4, 5, 6]⟩,
    ⟨none, .store 4 (.tmp 10) (.tmp 36), none, [6]⟩,
    ⟨some 6, .mov (.tmp 37), none, []⟩] false)
  (.seq (.region [⟨some 38, .load 5 true (.tmp 8), none, [1, 2, 3, 4, 5, 6, 9, 10, 11, 12, 13, 14, 15, 17]⟩,
    ⟨some 39, .fad 5 (.tmp 2), none, [0, 3, 4, 5, 6, 9, 10, 11, 12, 13, 14, 15, 17]⟩,
    ⟨some 40, .load 4 true (.tmp 39), none, [0, 3, 4, 5, 6, 9, 10, 11, 12, 13, 14, 15, 17]⟩,
    ⟨some 41, .fad 9 (.tmp 2), none, [0, 1, 2, 5, 9, 10, 11, 12, 13, 14, 15, 17]⟩,
    ⟨some 42, .load 1 false (.tmp 41), none, [0, 1, 2, 5, 9, 10, 11, 12, 13, 14, 15, 17]⟩,
    ⟨some 43, .mov (.tmp 1), none, [0, 1, 2, 3, 4, 9, 10, 11, 12, 13, 14, 15, 17]⟩,
    ⟨some 44, .slc 1 (.tmp 42) none (some (.tmp 43)) none, none, [0, 1, 2, 9, 10, 11, 12, 13, 14, 15, 17]⟩,
    ⟨some 45, .build (.agg #[(.int .u8 0), (.int .u32 0), (.int .u8 0), (.int .i64 0), (.int .i64 0), (.int .u8 0), (.int .u32 0), (.int .u8 0), (.int .i64 0), (.slice none 0 0)]) [(0, 5, (.tmp 38)), (5, 4, (.tmp 40)), (9, 1, (.tmp 44))], none, [9, 10, 11, 12, 13, 14, 15, 17]⟩,
    ⟨some 46, .call (.func 100) [(.tmp 45)], none, [9, 10, 11, 12, 13, 14, 15, 17]⟩,
    ⟨some 47, .load 5 true (.tmp 9), none, [0, 1, 2, 3, 4, 5, 6, 7, 8, 10, 11, 12, 13, 14, 17]⟩,
    ⟨some 48, .load 4 true (.tmp 10), none, [0, 1, 2, 3, 4, 5, 6, 7, 8, 9, 11, 12, 13, 14, 17]⟩,
    ⟨some 49, .fad 9 (.tmp 2), none, [0, 1, 2, 3, 4, 5, 6, 7, 8, 9, 10, 13, 17]⟩,
    ⟨some 50, .load 1 false (.tmp 49), none, [0, 1, 2, 3, 4, 5, 6, 7, 8, 9, 10, 13, 17]⟩,
    ⟨some 51, .mov (.tmp 1), none, [0, 1, 2, 3, 4, 5, 6, 7, 8, 9, 10, 11, 12, 17]⟩,
    ⟨some 52, .slc 1 (.tmp 50) (some (.tmp 51)) none none, none, [0, 1, 2, 3, 4, 5, 6, 7, 8, 9, 10, 17]⟩,
    ⟨some 53, .build (.agg #[(.int .u8 0), (.int .u32 0), (.int .u8 0), (.int .i64 0), (.int .i64 0), (.int .u8 0), (.int .u32 0), (.int .u8 0), (.int .i64 0), (.slice none 0 0)]) [(0, 5, (.tmp 47)), (5, 4, (.tmp 48)), (9, 1, (.tmp 52))], none, [0, 1, 2, 3, 4, 5, 6, 7, 8, 17]⟩,
    ⟨some 54, .call (.func 100) [(.tmp 53)], none, [17]⟩,
    ⟨some 55, .mov (.tmp 6), none, [0, 1, 2, 3, 4, 5, 6, 7, 8, 9, 10, 11, 12, 13, 14, 15, 16, 18, 19]⟩,
    ⟨none, .store 10 (.tmp 4) (.tmp 46), none, [17]⟩,
    ⟨none, .store 10 (.tmp 5) (.tmp 54), none, [17]⟩,
    ⟨some 6, .mov (.tmp 55), none, []⟩] true)
  .ret))))))
def a69 : AFunc := ⟨56, c69, [.cell 4 10 true, .cell 5 10 true, .tmp 6]⟩

def c70 : ACode :=
  (.seq (.region [⟨some 2, .mov (.const (.slice none 0 0)), none, []⟩] false)
  (.seq (.region [⟨some 3, .mov (.const (.int .i64 0)), none, []⟩] false)
  (.seq (.seq (.region [⟨some 9, .mov (.tmp 0), none, [2]⟩,
    ⟨some 10, .len (.tmp 9), none, [2]⟩,
    ⟨some 11, .mov (.const (.int .i64 0)), none, [0, 1]⟩] false)
  (.block 0 (.loop (.seq (.region [⟨some 12, .pur (mkO (.binOp .lss 3 (.tmp 11) (.tmp 10) 3) 0), none, []⟩] false)
      (.seq (.cond (.tmp 12)
        .skip
        (.exit 0))
      (.seq (.block 1 (.seq (.region [⟨some 13, .iad 1 (.tmp 9) (.tmp 11), none, []⟩,
          ⟨some 14, .load 1 false (.tmp 13), none, []⟩,
          ⟨some 5, .mov (.tmp 14), none, []⟩] false)
        (.seq (.region [⟨some 15, .mov (.tmp 3), none, [1, 2]⟩,
          ⟨some 16, .mov (.tmp 5), none, [0]⟩,
          ⟨some 17, .len (.tmp 16), none, [0]⟩,
          ⟨some 18, .pur (mkO (.binOp .add 3 (.tmp 15) (.tmp 17) 3) 3), none, []⟩,
          ⟨some 3, .mov (.tmp 18), none, []⟩] false)
        (.seq (.region [⟨some 19, .mov (.tmp 3), none, []⟩,
          ⟨some 20, .pur (mkO (.binOp .lss 3 (.tmp 19) (.const (.int .i64 0)) 3) 4), none, []⟩] false)
        (.cond (.tmp 20)
          (.region [⟨some 21, .bad "op", none, []⟩,
            ⟨none, .bad "op", none, []⟩] false)
          .skip)))))
      (.region [⟨some 22, .pur (mkO (.binOp .add 3 (.tmp 11) (.const (.int .i64 1)) 3) 3), none, []⟩,
        ⟨some 11, .mov (.tmp 22), none, []⟩] false)))))))
  (.seq (.region [⟨some 23, .mov (.tmp 3), none, []⟩,
    ⟨some 24, .call (.func 101) [(.const (.slice none 0 0)), (.tmp 23)], none, []⟩,
    ⟨some 6, .mov (.tmp 24), none, []⟩] false)
  (.seq (.seq (.region [⟨some 25, .mov (.tmp 0), none, [2]⟩,
    ⟨some 26, .len (.tmp 25), none, [2]⟩,
    ⟨some 27, .mov (.const (.int .i64 0)), none, [0, 1]⟩] false)
  (.block 2 (.loop (.seq (.region [⟨some 28, .pur (mkO (.binOp .lss 3 (.tmp 27) (.tmp 26) 3) 0), none, []⟩] false)
      (.seq (.cond (.tmp 28)
        .skip
        (.exit 2))
      (.seq (.block 3 (.seq (.region [⟨some 29, .iad 1 (.tmp 25) (.tmp 27), none, []⟩,
          ⟨some 30, .load 1 false (.tmp 29), none, []⟩,
          ⟨some 8, .mov (.tmp 30), none, []⟩] false)
        (.region [⟨some 31, .mov (.tmp 6), none, [1]⟩,
          ⟨some 32, .mov (.tmp 8), none, [0]⟩,
          ⟨some 33, .app 78 10 80 (.agg #[(.int .u8 0), (.int .u32 0), (.int .u8 0), (.int .i64 0), (.int .i64 0), (.int .u8 0), (.int .u32 0), (.int .u8 0), (.int .i64 0), (.slice none 0 0)]) (.tmp 31) (.tmp 32), none, []⟩,
          ⟨some 6, .mov (.tmp 33), none, []⟩] false)))
      (.region [⟨some 34, .pur (mkO (.binOp .add 3 (.tmp 27) (.const (.int .i64 1)) 3) 3), none, []⟩,
        ⟨some 27, .mov (.tmp 34), none, []⟩] false)))))))
  (.seq (.region [⟨some 35, .mov (.tmp 6), none, []⟩,
    ⟨some 2, .mov (.tmp 35), none, []⟩] false)
  .ret))))))
def a70 : AFunc := ⟨36, c70, [.tmp 2]⟩

def c71 : ACode :=
  (.seq (.region [⟨some 2, .box 29 (.tmp 0), none, [1, 2]⟩,
    ⟨some 3, .box 29 (.tmp 1), none, [0, 2]⟩,
    ⟨some 4, .mov (.const (.bool false)), none, [0, 1]⟩] false)
  (.seq (.region [⟨some 6, .fad 0 (.tmp 3), none, [2, 3, 5]⟩,
    ⟨some 7, .load 1 false (.tmp 6), none, [2, 3, 5]⟩,
    ⟨some 8, .fad 1 (.tmp 2), none, [0, 1, 5]⟩,
    ⟨some 9, .load 1 false (.tmp 8), none, [0, 1, 5]⟩,
    ⟨some 10, .build (.agg #[(.int .u8 0), (.int .u32 0)]) [(0, 1, (.tmp 7)), (1, 1, (.tmp 9))], none, [5]⟩,
    ⟨some 5, .alloc 29 (.agg #[(.int .u8 0), (.int .u32 0)]), none, [0, 1, 2, 3, 4]⟩,
    ⟨none, .store 2 (.tmp 5) (.tmp 10), none, []⟩] false)
  (.seq (.region [⟨some 11, .fad 0 (.tmp 2), none, [2, 3]⟩,
    ⟨some 12, .load 1 false (.tmp 11), none, [2, 3]⟩,
    ⟨some 13, .fad 0 (.tmp 3), none, [0, 1]⟩,
    ⟨some 14, .load 1 false (.tmp 13), none, [0, 1]⟩,
    ⟨some 15, .pur (mkO (.binOp .lss 5 (.tmp 12) (.tmp 14) 5) 4), none, []⟩,
    ⟨some 16, .mov (.tmp 15), none, []⟩,
    ⟨some 17, .load 2 true (.tmp 2), some (16, false), [7]⟩,
    ⟨some 18, .load 2 true (.tmp 5), some (16, false), [6]⟩,
    ⟨some 19, .pur (mkO (.binOp .eql 29 (.tmp 17) (.tmp 18) 29) 4), some (16, false), []⟩,
    ⟨some 20, .mov (.tmp 19), some (16, false), []⟩,
    ⟨some 21, .fad 1 (.tmp 2), some (20, true), [12, 13]⟩,
    ⟨some 22, .load 1 false (.tmp 21), some (20, true), [12, 13]⟩,
    ⟨some 23, .fad 1 (.tmp 3), some (20, true), [10, 11]⟩,
    ⟨some 24, .load 1 false (.tmp 23), some (20, true), [10, 11]⟩,
    ⟨some 25, .pur (mkO (.binOp .lss 27 (.tmp 22) (.tmp 24) 27) 4), some (20, true), []⟩,
    ⟨some 26, .pick (.tmp 20) (.tmp 25) (.const (.bool false)), some (16, false), []⟩,
    ⟨some 27, .pick (.tmp 16) (.const (.bool true)) (.tmp 26), none, []⟩,
    ⟨some 4, .mov (.tmp 27), none, []⟩] false)
  .ret)))
def a71 : AFunc := ⟨28, c71, [.tmp 4]⟩

def c72 : ACode :=
  (.seq (.region [⟨some 1, .box 78 (.tmp 0), none, [1]⟩,
    ⟨some 2, .alloc 34 (.agg #[(.int .u8 0), (.int .u32 0), (.int .u8 0), (.int .i64 0)]), none, [0]⟩] false)
  (.seq (.region [⟨some 6, .fad 0 (.tmp 1), none, [2, 3, 4, 5, 10]⟩,
    ⟨some 7, .load 5 true (.tmp 6), none, [2, 3, 4, 5, 10]⟩,
    ⟨some 8, .fad 0 (.tmp 1), none, [0, 1, 10]⟩,
    ⟨some 9, .fad 4 (.tmp 8), none, [0, 1, 10]⟩,
    ⟨some 10, .load 1 false (.tmp 9), none, [0, 1, 10]⟩,
    ⟨some 11, .pur (mkO (.binOp .sub 3 (.tmp 10) (.const (.int .i64 1)) 3) 3), none, [0, 1, 10]⟩,
    ⟨some 12, .call (.func 49) [(.tmp 7), (.tmp 11)], none, [10]⟩,
    ⟨some 5, .mov (.tmp 12), none, [10]⟩,
    ⟨some 13, .ext (.tmp 5) 0, none, [9, 10]⟩,
    ⟨some 14, .ext (.tmp 5) 1, none, [8, 10, 11]⟩,
    ⟨some 3, .alloc 34 (.agg #[(.int .u8 0), (.int .u32 0), (.int .u8 0), (.int .i64 0)]), none, [0, 1, 2, 3, 4, 5, 6, 7, 8, 9]⟩,
    ⟨none, .store 4 (.tmp 3) (.tmp 13), none, [9]⟩,
    ⟨some 4, .mov (.tmp 14), none, []⟩] false)
  (.seq (.region [⟨some 15, .load 4 true (.tmp 3), none, []⟩,
    ⟨none, .store 4 (.tmp 2) (.tmp 15), none, []⟩] false)
  .ret)))
def a72 : AFunc := ⟨16, c72, [.cell 2 4 true]⟩

def c73 : ACode :=
  (.seq (.region [⟨some 2, .box 78 (.tmp 0), none, [1, 2, 3]⟩,
    ⟨some 3, .box 78 (.tmp 1), none, [0, 2, 3]⟩,
    ⟨some 4, .alloc 78 (.agg #[(.int .u8 0), (.int .u32 0), (.int .u8 0), (.int .i64 0), (.int .i64 0), (.int .u8 0), (.int .u32 0), (.int .u8 0), (.int .i64 0), (.slice none 0 0)]), none, [0, 1, 3]⟩,
    ⟨some 5, .mov (.const (.int .i64 0)), none, [0, 1, 2]⟩] false)
  (.seq (.seq (.region [⟨some 11, .load 10 true (.tmp 2), none, [2]⟩,
    ⟨some 12, .call (.func 46) [(.tmp 11)], none, [2]⟩,
    ⟨some 13, .load 10 true (.tmp 3), none, [0, 1]⟩,
    ⟨some 14, .call (.func 46) [(.tmp 13)], none, []⟩,
    ⟨some 15, .pur (mkO (.call ⟨.builtin .max, #[(.tmp 12), (.tmp 14)], #[22, 22]⟩) 22), none, []⟩,
    ⟨some 6, .mov (.tmp 15), none, []⟩] true)
  (.seq (.region [⟨some 16, .mov (.tmp 6), none, []⟩,
    ⟨some 17, .pur (mkO (.binOp .neq 22 (.tmp 16) (.const (.int .i64 0)) 22) 4), none, []⟩] false)
  (.cond (.tmp 17)
    (.seq (.region [⟨some 18, .build (.agg #[(.int .u8 0), (.int .u32 0), (.int .u8 0), (.int .i64 0), (.int .i64 0), (.int .u8 0), (.int .u32 0), (.int .u8 0), (.int .i64 0), (.slice none 0 0)]) [], none, [1]⟩,
      ⟨some 19, .mov (.tmp 6), none, [0, 2]⟩,
      ⟨none, .store 10 (.tmp 4) (.tmp 18), none, [1]⟩,
      ⟨some 5, .mov (.tmp 19), none, []⟩] false)
    .ret)
    .skip)))
  (.seq (.region [⟨some 20, .fad 0 (.tmp 2), none, [3, 4, 5, 6, 7, 8, 9, 11, 12, 13, 14, 15, 16, 18]⟩,
    ⟨some 21, .fad 0 (.tmp 20), none, [3, 4, 5, 6, 7, 8, 9, 11, 12, 13, 14, 15, 16, 18]⟩,
    ⟨some 22, .load 4 true (.tmp 21), none, [3, 4, 5, 6, 7, 8, 9, 11, 12, 13, 14, 15, 16, 18]⟩,
    ⟨some 23, .fad 0 (.tmp 2), none, [0, 1, 2, 6, 7, 8, 11, 12, 13, 14, 15, 16, 18]⟩,
    ⟨some 24, .fad 4 (.tmp 23), none, [0, 1, 2, 6, 7, 8, 11, 12, 13, 14, 15, 16, 18]⟩,
    ⟨some 25, .load 1 false (.tmp 24), none, [0, 1, 2, 6, 7, 8, 11, 12, 13, 14, 15, 16, 18]⟩,
    ⟨some 26, .fad 0 (.tmp 3), none, [0, 1, 2, 3, 4, 5, 11, 12, 13, 14, 15, 16, 18]⟩,
    ⟨some 27, .fad 4 (.tmp 26), none, [0, 1, 2, 3, 4, 5, 11, 12, 13, 14, 15, 16, 18]⟩,
    ⟨some 28, .load 1 false (.tmp 27), none, [0, 1, 2, 3, 4, 5, 11, 12, 13, 14, 15, 16, 18]⟩,
    ⟨some 29, .pur (mkO (.binOp .add 3 (.tmp 25) (.tmp 28) 3) 3), none, [0, 1, 2, 11, 12, 13, 14, 15, 16, 18]⟩,
    ⟨some 30, .build (.agg #[(.int .u8 0), (.int .u32 0), (.int .u8 0), (.int .i64 0), (.int .i64 0)]) [(0, 4, (.tmp 22)), (4, 1, (.tmp 29))], none, [11, 12, 13, 14, 15, 16, 18]⟩,
    ⟨some 31, .fad 5 (.tmp 2), none, [0, 1, 2, 3, 4, 5, 6, 7, 8, 9, 10, 13, 14, 15, 16, 18]⟩,
    ⟨some 32, .load 4 true (.tmp 31), none, [0, 1, 2, 3, 4, 5, 6, 7, 8, 9, 10, 13, 14, 15, 16, 18]⟩,
    ⟨some 33, .load 10 true (.tmp 2), none, [0, 1, 2, 3, 4, 5, 6, 7, 8, 9, 10, 11, 12, 14, 18]⟩,
    ⟨some 34, .load 10 true (.tmp 3), none, [0, 1, 2, 3, 4, 5, 6, 7, 8, 9, 10, 11, 12, 13, 18]⟩,
    ⟨some 35, .bsl 78 10 (.agg #[(.int .u8 0), (.int .u32 0), (.int .u8 0), (.int .i64 0), (.int .i64 0), (.int .u8 0), (.int .u32 0), (.int .u8 0), (.int .i64 0), (.slice none 0 0)]) 2 [(0, 10, (.tmp 33)), (10, 10, (.tmp 34))], none, [0, 1, 2, 3, 4, 5, 6, 7, 8, 9, 10, 11, 12, 18]⟩,
    ⟨some 36, .call (.func 102) [(.tmp 35)], none, [0, 1, 2, 3, 4, 5, 6, 7, 8, 9, 10, 11, 12, 18]⟩,
    ⟨some 37, .build (.agg #[(.int .u8 0), (.int .u32 0), (.int .u8 0), (.int .i64 0), (.int .i64 0), (.int .u8 0), (.int .u32 0), (.int .u8 0), (.int .i64 0), (.slice none 0 0)]) [(0, 5, (.tmp 30)), (5, 4, (.tmp 32)), (9, 1, (.tmp 36))], none, [18]⟩,
    ⟨some 7, .alloc 78 (.agg #[(.int .u8 0), (.int .u32 0), (.int .u8 0), (.int .i64 0), (.int .i64 0), (.int .u8 0), (.int .u32 0), (.int .u8 0), (.int .i64 0), (.slice none 0 0)]), none, [0, 1, 2, 3, 4, 5, 6, 7, 8, 9, 10, 11, 12, 13, 14, 15, 16, 17]⟩,
    ⟨none, .store 10 (.tmp 7) (.tmp 37), none, []⟩] true)
  (.seq (.seq (.region [⟨some 39, .load 10 true (.tmp 7), none, [1, 2, 3, 9, 10]⟩,
    ⟨some 40, .fad 0 (.tmp 2), none, [0, 9, 10]⟩,
    ⟨some 41, .fad 4 (.tmp 40), none, [0, 9, 10]⟩,
    ⟨some 42, .load 1 false (.tmp 41), none, [0, 9, 10]⟩,
    ⟨some 43, .call (.func 69) [(.tmp 39), (.tmp 42)], none, [9, 10]⟩,
    ⟨some 38, .mov (.tmp 43), none, [9, 10]⟩,
    ⟨some 44, .ext (.tmp 38) 0, none, [7, 8, 9, 10]⟩,
    ⟨some 45, .ext (.tmp 38) 1, none, [6, 8, 9, 10, 11]⟩,
    ⟨some 46, .ext (.tmp 38) 2, none, [6, 7, 9, 10, 11, 12]⟩,
    ⟨some 8, .alloc 78 (.agg #[(.int .u8 0), (.int .u32 0), (.int .u8 0), (.int .i64 0), (.int .i64 0), (.int .u8 0), (.int .u32 0), (.int .u8 0), (.int .i64 0), (.slice none 0 0)]), none, [0, 1, 2, 3, 4, 5, 6, 7, 8, 10]⟩,
    ⟨some 9, .alloc 78 (.agg #[(.int .u8 0), (.int .u32 0), (.int .u8 0), (.int .i64 0), (.int .i64 0), (.int .u8 0), (.int .u32 0), (.int .u8 0), (.int .i64 0), (.slice none 0 0)]), none, [0, 1, 2, 3, 4, 5, 6, 7, 8, 9]⟩,
    ⟨none, .store 10 (.tmp 8) (.tmp 44), none, [7, 8]⟩,
    ⟨none, .store 10 (.tmp 9) (.tmp 45), none, [8]⟩,
    ⟨some 10, .mov (.tmp 46), none, []⟩] false)
  (.seq (.region [⟨some 47, .mov (.tmp 10), none, []⟩,
    ⟨some 48, .pur (mkO (.binOp .neq 22 (.tmp 47) (.const (.int .i64 0)) 22) 4), none, []⟩,
    ⟨some 49, .mov (.tmp 48), none, []⟩,
    ⟨some 50, .load 10 true (.tmp 8), some (49, false), [4]⟩,
    ⟨some 51, .load 10 true (.tmp 2), some (49, false), [3]⟩,
    ⟨some 52, .call (.func 98) [(.tmp 50), (.tmp 51)], some (49, false), []⟩,
    ⟨some 53, .pur (mkO (.unOp .not 4 (.tmp 52)) 4), some (49, false), []⟩,
    ⟨some 54, .pick (.tmp 49) (.const (.bool true)) (.tmp 53), none, []⟩,
    ⟨some 55, .mov (.tmp 54), none, []⟩,
    ⟨some 56, .load 10 true (.tmp 9), some (55, false), [10]⟩,
    ⟨some 57, .load 10 true (.tmp 3), some (55, false), [9]⟩,
    ⟨some 58, .call (.func 98) [(.tmp 56), (.tmp 57)], some (55, false), []⟩,
    ⟨some 59, .pur (mkO (.unOp .not 4 (.tmp 58)) 4), some (55, false), []⟩,
    ⟨some 60, .pick (.tmp 55) (.const (.bool true)) (.tmp 59), none, []⟩] false)
  (.cond (.tmp 60)
    (.seq (.region [⟨some 61, .build (.agg #[(.int .u8 0), (.int .u32 0), (.int .u8 0), (.int .i64 0), (.int .i64 0), (.int .u8 0), (.int .u32 0), (.int .u8 0), (.int .i64 0), (.slice none 0 0)]) [], none, []⟩,
      ⟨none, .store 10 (.tmp 4) (.tmp 61), none, []⟩,
      ⟨some 5, .mov (.const (.int .i64 2)), none, []⟩] false)
    .ret)
    .skip)))
  (.seq (.region [⟨some 62, .load 10 true (.tmp 7), none, []⟩,
    ⟨none, .store 10 (.tmp 4) (.tmp 62), none, []⟩,
    ⟨some 5, .mov (.const (.int .i64 0)), none, []⟩] false)
  .ret)))))
def a73 : AFunc := ⟨63, c73, [.cell 4 10 true, .tmp 5]⟩

def c74 : ACode :=
  (.seq (.region [⟨some 1, .box 78 (.tmp 0), none, [1]⟩,
    ⟨some 2, .alloc 78 (.agg #[(.int .u8 0), (.int .u32 0), (.int .u8 0), (.int .i64 0), (.int .i64 0), (.int .u8 0), (.int .u32 0), (.int .u8 0), (.int .i64 0), (.slice none 0 0)]), none, [0]⟩] false)
  (.seq (.region [⟨some 3, .fad 9 (.tmp 1), none, []⟩,
    ⟨some 4, .load 1 false (.tmp 3), none, []⟩,
    ⟨some 5, .call (.func 45) [(.tmp 4)], none, []⟩,
    ⟨some 6, .fad 9 (.tmp 1), none, []⟩,
    ⟨none, .store 1 (.tmp 6) (.tmp 5), none, []⟩] false)
  (.seq (.region [⟨some 7, .load 10 true (.tmp 1), none, []⟩,
    ⟨none, .store 10 (.tmp 2) (.tmp 7), none, []⟩] false)
  .ret)))
def a74 : AFunc := ⟨8, c74, [.cell 2 10 true]⟩

def c76 : ACode :=
  (.region [⟨some 4, .mov (.tmp 0), none, [1, 2, 3, 4]⟩,
    ⟨some 5, .mov (.tmp 0), none, [0, 3]⟩,
    ⟨some 6, .len (.tmp 5), none, [0, 3]⟩,
    ⟨some 7, .mov (.tmp 1), none, [0, 1, 2]⟩,
    ⟨some 8, .pur (mkO (.binOp .sub 3 (.tmp 6) (.tmp 7) 3) 3), none, [0]⟩,
    ⟨some 9, .call (.func 103) [(.tmp 4), (.tmp 8)], none, []⟩] false)
def a76 : AFunc := ⟨10, c76, []⟩

def c77 : ACode :=
  (.seq (.region [⟨some 3, .box 47 (.tmp 1), none, [1]⟩,
    ⟨some 4, .mov (.const (.bool false)), none, [0]⟩] false)
  (.scope (.seq (.seq (.region [⟨some 9, .fad 0 (.tmp 3), none, []⟩,
    ⟨some 10, .load 1 false (.tmp 9), none, []⟩,
    ⟨some 11, .pur (mkO (.binOp .neq 5 (.tmp 10) (.const (.int .u8 3)) 5) 4), none, []⟩] false)
  (.cond (.tmp 11)
    (.seq (.region [⟨some 4, .mov (.const (.bool true)), none, []⟩] false)
    .ret)
    .skip))
  (.seq (.region [⟨some 12, .fad 1 (.tmp 3), none, [3, 4]⟩,
    ⟨some 13, .fad 0 (.tmp 12), none, [3, 4]⟩,
    ⟨some 14, .load 2 true (.tmp 13), none, [3, 4]⟩,
    ⟨some 15, .fad 14 (.tmp 3), none, [0, 1, 2]⟩,
    ⟨some 16, .load 2 true (.tmp 15), none, [0, 1, 2]⟩,
    ⟨some 17, .call (.func 20) [(.tmp 14), (.tmp 16)], none, []⟩,
    ⟨some 5, .mov (.tmp 17), none, []⟩] false)
  (.seq .label
  (.seq (.seq (.region [⟨some 18, .fad 5 (.tmp 3), none, [3]⟩,
    ⟨some 19, .fad 4 (.tmp 18), none, [3]⟩,
    ⟨some 20, .load 1 false (.tmp 19), none, [3]⟩,
    ⟨some 21, .mov (.const (.int .i64 0)), none, [0, 1, 2]⟩] false)
  (.block 0 (.loop (.seq (.region [⟨some 22, .pur (mkO (.binOp .lss 3 (.tmp 21) (.tmp 20) 3) 4), none, []⟩] false)
      (.seq (.cond (.tmp 22)
        .skip
        (.exit 0))
      (.seq (.block 1 (.seq (.region [⟨some 23, .mov (.tmp 21), none, []⟩,
          ⟨some 6, .mov (.tmp 23), none, []⟩] false)
        (.seq (.region [⟨some 25, .fad 5 (.tmp 3), none, [2, 7]⟩,
          ⟨some 26, .load 5 true (.tmp 25), none, [2, 7]⟩,
          ⟨some 27, .mov (.tmp 6), none, [0, 1, 7]⟩,
          ⟨some 28, .call (.func 49) [(.tmp 26), (.tmp 27)], none, [7]⟩,
          ⟨some 24, .mov (.tmp 28), none, [7]⟩,
          ⟨some 29, .ext (.tmp 24) 0, none, [6, 7]⟩,
          ⟨some 30, .ext (.tmp 24) 1, none, [5, 7, 8]⟩,
          ⟨some 7, .alloc 34 (.agg #[(.int .u8 0), (.int .u32 0), (.int .u8 0), (.int .i64 0)]), none, [0, 1, 2, 3, 4, 5, 6]⟩,
          ⟨none, .store 4 (.tmp 7) (.tmp 29), none, [6]⟩,
          ⟨some 8, .mov (.tmp 30), none, []⟩] false)
        (.seq (.region [⟨some 31, .mov (.tmp 5), none, []⟩,
          ⟨some 32, .mov (.tmp 31), none, []⟩,
          ⟨some 33, .mov (.tmp 0), some (32, true), [3, 4, 5, 6, 8, 9, 10]⟩,
          ⟨some 34, .load 4 true (.tmp 7), some (32, true), [2, 4, 5, 6, 8, 9, 10]⟩,
          ⟨some 35, .fad 1 (.tmp 3), some (32, true), [2, 3, 8, 9, 10]⟩,
          ⟨some 36, .fad 0 (.tmp 35), some (32, true), [2, 3, 8, 9, 10]⟩,
          ⟨some 37, .load 2 true (.tmp 36), some (32, true), [2, 3, 8, 9, 10]⟩,
          ⟨some 38, .call (.func 41) [(.tmp 33), (.tmp 34), (.tmp 37)], some (32, true), [8, 9, 10]⟩,
          ⟨some 39, .fad 1 (.tmp 3), some (32, true), [2, 3, 4, 5, 6, 7]⟩,
          ⟨some 40, .fad 0 (.tmp 39), some (32, true), [2, 3, 4, 5, 6, 7]⟩,
          ⟨some 41, .load 2 true (.tmp 40), some (32, true), [2, 3, 4, 5, 6, 7]⟩,
          ⟨some 42, .call (.func 60) [(.tmp 38), (.tmp 41)], some (32, true), []⟩,
          ⟨some 43, .pick (.tmp 32) (.tmp 42) (.const (.bool false)), none, []⟩,
          ⟨some 5, .mov (.tmp 43), none, []⟩] true)
        (.seq (.region [⟨some 44, .mov (.tmp 5), none, []⟩,
          ⟨some 45, .pur (mkO (.unOp .not 4 (.tmp 44)) 4), none, []⟩] false)
        (.cond (.tmp 45)
          (.exit 0)
          .skip))))))
      (.region [⟨some 46, .pur (mkO (.binOp .add 3 (.tmp 21) (.const (.int .i64 1)) 3) 3), none, []⟩,
        ⟨some 21, .mov (.tmp 46), none, []⟩] false)))))))
  (.seq (.region [⟨some 47, .mov (.tmp 5), none, []⟩,
    ⟨some 4, .mov (.tmp 47), none, []⟩] false)
  .ret)))))))
def a77 : AFunc := ⟨48, c77, [.tmp 4]⟩

def c78 : ACode :=
  (.seq (.region [⟨some 9, .load 1 false (.tmp 1), none, [2]⟩,
    ⟨some 10, .len (.tmp 9), none, [2]⟩,
    ⟨some 11, .mov (.const (.int .i64 0)), none, [0, 1]⟩] false)
  (.block 0 (.loop (.seq (.region [⟨some 12, .pur (mkO (.binOp .lss 3 (.tmp 11) (.tmp 10) 3) 0), none, []⟩] false)
      (.seq (.cond (.tmp 12)
        .skip
        (.exit 0))
      (.seq (.block 1 (.seq (.region [⟨some 13, .iad 17 (.tmp 9) (.tmp 11), none, [2]⟩,
          ⟨some 14, .load 17 true (.tmp 13), none, [2]⟩,
          ⟨some 6, .alloc 47 (.agg #[(.int .u8 0), (.int .u8 0), (.int .u32 0), (.int .u8 0), (.int .i64 0), (.int .u8 0), (.int .u32 0), (.int .u8 0), (.int .i64 0), (.int .i64 0), (.int .u8 0), (.int .u32 0), (.int .u8 0), (.int .i64 0), (.int .u8 0), (.int .u32 0), (.slice none 0 0)]), none, [0, 1]⟩,
          ⟨none, .store 17 (.tmp 6) (.tmp 14), none, []⟩] false)
        (.seq (.region [⟨some 16, .fad 5 (.tmp 6), none, [2]⟩,
          ⟨some 17, .load 5 true (.tmp 16), none, [2]⟩,
          ⟨some 18, .load 4 true (.tmp 2), none, [0, 1]⟩,
          ⟨some 19, .call (.func 16) [(.tmp 17), (.tmp 18)], none, []⟩,
          ⟨some 15, .mov (.tmp 19), none, []⟩,
          ⟨some 20, .ext (.tmp 15) 0, none, [6]⟩,
          ⟨some 21, .ext (.tmp 15) 1, none, [5, 7]⟩,
          ⟨some 7, .mov (.tmp 20), none, [6]⟩,
          ⟨some 8, .mov (.tmp 21), none, []⟩] false)
        (.seq (.region [⟨some 22, .fad 0 (.tmp 6), none, []⟩,
          ⟨some 23, .load 1 false (.tmp 22), none, []⟩,
          ⟨some 24, .pur (mkO (.binOp .eql 5 (.tmp 23) (.const (.int .u8 3)) 5) 4), none, []⟩,
          ⟨some 25, .mov (.tmp 24), none, []⟩,
          ⟨some 26, .mov (.tmp 8), some (25, true), []⟩,
          ⟨some 27, .pick (.tmp 25) (.tmp 26) (.const (.bool false)), none, []⟩,
          ⟨some 28, .mov (.tmp 27), none, []⟩,
          ⟨some 29, .fad 1 (.tmp 6), some (28, true), [10]⟩,
          ⟨some 30, .fad 0 (.tmp 29), some (28, true), [10]⟩,
          ⟨some 31, .load 2 true (.tmp 30), some (28, true), [10]⟩,
          ⟨some 32, .load 2 true (.tmp 3), some (28, true), [7, 8, 9]⟩,
          ⟨some 33, .call (.func 20) [(.tmp 31), (.tmp 32)], some (28, true), []⟩,
          ⟨some 34, .pick (.tmp 28) (.tmp 33) (.const (.bool false)), none, []⟩,
          ⟨some 35, .mov (.tmp 34), none, []⟩,
          ⟨some 36, .mov (.tmp 0), some (35, true), [15, 16]⟩,
          ⟨some 37, .fad 14 (.tmp 6), some (35, true), [14]⟩,
          ⟨some 38, .load 2 true (.tmp 37), some (35, true), [14]⟩,
          ⟨some 39, .call (.tmp 36) [(.tmp 38)], some (35, true), []⟩,
          ⟨some 40, .pur (mkO (.unOp .not 4 (.tmp 39)) 4), some (35, true), []⟩,
          ⟨some 41, .pick (.tmp 35) (.tmp 40) (.const (.bool false)), none, []⟩] false)
        (.cond (.tmp 41)
          .ret
          .skip)))))
      (.region [⟨some 42, .pur (mkO (.binOp .add 3 (.tmp 11) (.const (.int .i64 1)) 3) 3), none, []⟩,
        ⟨some 11, .mov (.tmp 42), none, []⟩] false)))))))
def a78 : AFunc := ⟨43, c78, []⟩

def c79 : ACode :=
  (.seq (.region [⟨some 3, .box 29 (.tmp 1), none, [1]⟩,
    ⟨some 4, .mov (.const (.int .i64 0)), none, [0]⟩] false)
  (.seq (.seq (.region [⟨some 6, .mov (.tmp 0), none, [2]⟩,
    ⟨some 7, .len (.tmp 6), none, [2]⟩,
    ⟨some 8, .mov (.const (.int .i64 0)), none, [0, 1]⟩] false)
  (.block 0 (.loop (.seq (.region [⟨some 9, .pur (mkO (.binOp .lss 3 (.tmp 8) (.tmp 7) 3) 0), none, []⟩] false)
      (.seq (.cond (.tmp 9)
        .skip
        (.exit 0))
      (.seq (.block 1 (.seq (.region [⟨some 10, .mov (.tmp 8), none, []⟩,
          ⟨some 5, .mov (.tmp 10), none, []⟩] false)
        (.seq (.region [⟨some 11, .load 2 true (.tmp 3), none, [1, 2, 3, 4]⟩,
          ⟨some 12, .mov (.tmp 0), none, [0, 2]⟩,
          ⟨some 13, .mov (.tmp 5), none, [0, 1]⟩,
          ⟨some 14, .iad 2 (.tmp 12) (.tmp 13), none, [0]⟩,
          ⟨some 15, .load 2 true (.tmp 14), none, [0]⟩,
          ⟨some 16, .pur (mkO (.binOp .eql 29 (.tmp 11) (.tmp 15) 29) 4), none, []⟩] true)
        (.cond (.tmp 16)
          (.seq (.region [⟨some 17, .mov (.tmp 5), none, []⟩,
            ⟨some 4, .mov (.tmp 17), none, []⟩] false)
          .ret)
          .skip))))
      (.region [⟨some 18, .pur (mkO (.binOp .add 3 (.tmp 8) (.const (.int .i64 1)) 3) 3), none, []⟩,
        ⟨some 8, .mov (.tmp 18), none, []⟩] false)))))))
  (.seq (.region [⟨some 4, .mov (.const (.int .i64 (-1))), none, []⟩] false)
  .ret)))
def a79 : AFunc := ⟨19, c79, [.tmp 4]⟩

def c80 : ACode :=
  (.seq (.region [⟨some 2, .box 96 (.tmp 0), none, [1, 2]⟩,
    ⟨some 3, .box 47 (.tmp 1), none, [0, 2]⟩,
    ⟨some 4, .mov (.const (.int .i64 0)), none, [0, 1]⟩] false)
  (.seq (.seq (.region [⟨some 7, .fad 10 (.tmp 3), none, [2]⟩,
    ⟨some 8, .load 4 true (.tmp 7), none, [2]⟩,
    ⟨some 9, .build (.agg #[(.int .u8 0), (.int .u32 0), (.int .u8 0), (.int .i64 0)]) [], none, [0, 1]⟩,
    ⟨some 10, .pur (mkO (.binOp .neq 34 (.tmp 8) (.tmp 9) 34) 4), none, []⟩,
    ⟨some 11, .mov (.tmp 10), none, []⟩,
    ⟨some 12, .load 1 false (.tmp 2), some (11, true), [6, 7, 8]⟩,
    ⟨some 13, .load 17 true (.tmp 3), some (11, true), [5, 7, 8]⟩,
    ⟨some 14, .fad 10 (.tmp 3), some (11, true), [5, 6]⟩,
    ⟨some 15, .load 4 true (.tmp 14), some (11, true), [5, 6]⟩,
    ⟨some 16, .call (.func 104) [(.tmp 12), (.tmp 13), (.tmp 15)], some (11, true), []⟩,
    ⟨some 17, .pur (mkO (.unOp .not 4 (.tmp 16)) 4), some (11, true), []⟩,
    ⟨some 18, .pick (.tmp 11) (.tmp 17) (.const (.bool false)), none, []⟩] false)
  (.cond (.tmp 18)
    (.seq (.region [⟨some 4, .mov (.const (.int .i64 6)), none, []⟩] false)
    .ret)
    .skip))
  (.seq (.seq (.region [⟨some 20, .load 17 true (.tmp 3), none, [5]⟩,
    ⟨some 21, .call (.func 30) [(.tmp 20)], none, [5]⟩,
    ⟨some 19, .mov (.tmp 21), none, [5]⟩,
    ⟨some 22, .ext (.tmp 19) 0, none, [4, 5]⟩,
    ⟨some 23, .ext (.tmp 19) 1, none, [3, 5, 6]⟩,
    ⟨some 5, .alloc 78 (.agg #[(.int .u8 0), (.int .u32 0), (.int .u8 0), (.int .i64 0), (.int .i64 0), (.int .u8 0), (.int .u32 0), (.int .u8 0), (.int .i64 0), (.slice none 0 0)]), none, [0, 1, 2, 3, 4]⟩,
    ⟨none, .store 10 (.tmp 5) (.tmp 22), none, [4]⟩,
    ⟨some 6, .mov (.tmp 23), none, []⟩] false)
  (.seq (.region [⟨some 24, .mov (.tmp 6), none, []⟩,
    ⟨some 25, .pur (mkO (.binOp .neq 22 (.tmp 24) (.const (.int .i64 0)) 22) 4), none, []⟩,
    ⟨some 26, .mov (.tmp 25), none, []⟩,
    ⟨some 27, .fad 5 (.tmp 3), some (26, false), [6]⟩,
    ⟨some 28, .load 5 true (.tmp 27), some (26, false), [6]⟩,
    ⟨some 29, .call (.func 62) [(.tmp 28)], some (26, false), [6]⟩,
    ⟨some 30, .mkfn 106 [] [(.tmp 2)], some (26, false), [3, 4, 5]⟩,
    ⟨some 31, .call (.func 105) [(.tmp 29), (.tmp 30)], some (26, false), []⟩,
    ⟨some 32, .pick (.tmp 26) (.const (.bool true)) (.tmp 31), none, []⟩] false)
  (.cond (.tmp 32)
    (.seq (.region [⟨some 4, .mov (.const (.int .i64 2)), none, []⟩] false)
    .ret)
    .skip)))
  (.seq (.seq (.region [⟨some 33, .load 1 false (.tmp 2), none, [5, 6, 7]⟩,
    ⟨some 34, .nilck (.tmp 33), none, [5, 6, 7]⟩,
    ⟨some 35, .fad 1 (.tmp 34), none, [5, 6, 7]⟩,
    ⟨some 36, .load 1 false (.tmp 35), none, [5, 6, 7]⟩,
    ⟨some 37, .mlen (.tmp 36), none, [5, 6, 7]⟩,
    ⟨some 38, .fad 5 (.tmp 3), none, [0, 1, 2, 3, 4]⟩,
    ⟨some 39, .fad 4 (.tmp 38), none, [0, 1, 2, 3, 4]⟩,
    ⟨some 40, .load 1 false (.tmp 39), none, [0, 1, 2, 3, 4]⟩,
    ⟨some 41, .pur (mkO (.binOp .add 3 (.tmp 37) (.tmp 40) 3) 3), none, []⟩,
    ⟨some 42, .pur (mkO (.binOp .gtr 3 (.tmp 41) (.const (.int .i64 8192)) 3) 4), none, []⟩] true)
  (.cond (.tmp 42)
    (.seq (.region [⟨some 4, .mov (.const (.int .i64 4)), none, []⟩] false)
    .ret)
    .skip))
  (.seq (.region [⟨some 4, .mov (.const (.int .i64 0)), none, []⟩] false)
  .ret)))))
def a80 : AFunc := ⟨43, c80, [.tmp 4]⟩

def c81 : ACode :=
  (.seq (.region [⟨some 3, .box 47 (.tmp 1), none, [1]⟩,
    ⟨some 4, .mov (.const (.int .i64 0)), none, [0]⟩] false)
  (.seq (.block 0 (.seq (.region [⟨some 6, .mov (.tmp 0), none, [1]⟩,
      ⟨some 7, .load 17 true (.tmp 3), none, [0]⟩,
      ⟨some 8, .call (.func 107) [(.tmp 6), (.tmp 7)], none, []⟩,
      ⟨some 9, .pur (mkO (.unOp .not 4 (.tmp 8)) 4), none, []⟩,
      ⟨some 5, .mov (.tmp 9), none, []⟩] false)
    (.cond (.tmp 5)
      (.seq (.region [⟨some 4, .mov (.const (.int .i64 6)), none, []⟩] false)
      .ret)
      (.seq (.region [⟨some 11, .fad 5 (.tmp 3), none, [5, 6, 7]⟩,
        ⟨some 12, .fad 0 (.tmp 11), none, [5, 6, 7]⟩,
        ⟨some 13, .fad 0 (.tmp 12), none, [5, 6, 7]⟩,
        ⟨some 14, .fad 0 (.tmp 13), none, [5, 6, 7]⟩,
        ⟨some 15, .load 2 true (.tmp 14), none, [5, 6, 7]⟩,
        ⟨some 16, .fad 1 (.tmp 3), none, [0, 1, 2, 3, 4]⟩,
        ⟨some 17, .fad 0 (.tmp 16), none, [0, 1, 2, 3, 4]⟩,
        ⟨some 18, .load 2 true (.tmp 17), none, [0, 1, 2, 3, 4]⟩,
        ⟨some 19, .pur (mkO (.binOp .neq 29 (.tmp 15) (.tmp 18) 29) 4), none, []⟩,
        ⟨some 10, .mov (.tmp 19), none, []⟩] false)
      (.cond (.tmp 10)
        (.seq (.region [⟨some 4, .mov (.const (.int .i64 2)), none, []⟩] false)
        .ret)
        .skip)))))
  (.seq (.region [⟨some 4, .mov (.const (.int .i64 0)), none, []⟩] false)
  .ret)))
def a81 : AFunc := ⟨20, c81, [.tmp 4]⟩

def c82 : ACode :=
  (.seq (.region [⟨some 3, .box 47 (.tmp 1), none, [1]⟩,
    ⟨some 4, .mov (.const (.int .i64 0)), none, [0]⟩] false)
  (.seq (.seq (.region [⟨some 7, .mov (.tmp 0), none, [1]⟩,
    ⟨some 8, .load 17 true (.tmp 3), none, [0]⟩,
    ⟨some 9, .call (.func 107) [(.tmp 7), (.tmp 8)], none, []⟩,
    ⟨some 10, .pur (mkO (.unOp .not 4 (.tmp 9)) 4), none, []⟩] false)
  (.cond (.tmp 10)
    (.seq (.region [⟨some 4, .mov (.const (.int .i64 6)), none, []⟩] false)
    .ret)
    .skip))
  (.seq (.seq (.region [⟨some 12, .mov (.tmp 0), none, [4]⟩,
    ⟨some 13, .nilck (.tmp 12), none, [4]⟩,
    ⟨some 14, .fad 0 (.tmp 13), none, [4]⟩,
    ⟨some 15, .load 1 false (.tmp 14), none, [4]⟩,
    ⟨some 16, .load 17 true (.tmp 3), none, [0, 1, 2, 3]⟩,
    ⟨some 17, .call (.func 108) [(.tmp 15), (.tmp 16)], none, []⟩,
    ⟨some 11, .mov (.tmp 17), none, []⟩,
    ⟨some 18, .ext (.tmp 11) 0, none, [8]⟩,
    ⟨some 19, .ext (.tmp 11) 1, none, [7, 9]⟩,
    ⟨some 5, .mov (.tmp 18), none, [8]⟩,
    ⟨some 6, .mov (.tmp 19), none, []⟩] true)
  (.seq (.region [⟨some 20, .mov (.tmp 6), none, []⟩,
    ⟨some 21, .pur (mkO (.binOp .neq 22 (.tmp 20) (.const (.int .i64 0)) 22) 4), none, []⟩,
    ⟨some 22, .mov (.tmp 21), none, []⟩,
    ⟨some 23, .mov (.tmp 5), some (22, false), []⟩,
    ⟨some 24, .pur (mkO (.unOp .not 4 (.tmp 23)) 4), some (22, false), []⟩,
    ⟨some 25, .pick (.tmp 22) (.const (.bool true)) (.tmp 24), none, []⟩] false)
  (.cond (.tmp 25)
    (.seq (.region [⟨some 4, .mov (.const (.int .i64 2)), none, []⟩] false)
    .ret)
    .skip)))
  (.seq (.region [⟨some 4, .mov (.const (.int .i64 0)), none, []⟩] false)
  .ret))))
def a82 : AFunc := ⟨26, c82, [.tmp 4]⟩

def c83 : ACode :=
  (.seq (.region [⟨some 1, .box 47 (.tmp 0), none, [1]⟩,
    ⟨some 2, .mov (.const (.bool false)), none, [0]⟩] false)
  (.seq (.region [⟨some 3, .fad 10 (.tmp 1), none, [2]⟩,
    ⟨some 4, .load 4 true (.tmp 3), none, [2]⟩,
    ⟨some 5, .build (.agg #[(.int .u8 0), (.int .u32 0), (.int .u8 0), (.int .i64 0)]) [], none, [0, 1]⟩,
    ⟨some 6, .pur (mkO (.binOp .eql 34 (.tmp 4) (.tmp 5) 34) 4), none, []⟩,
    ⟨some 7, .mov (.tmp 6), none, []⟩,
    ⟨some 8, .fad 16 (.tmp 1), some (7, true), []⟩,
    ⟨some 9, .load 1 false (.tmp 8), some (7, true), []⟩,
    ⟨some 10, .len (.tmp 9), some (7, true), []⟩,
    ⟨some 11, .pur (mkO (.binOp .eql 3 (.tmp 10) (.const (.int .i64 0)) 3) 4), some (7, true), []⟩,
    ⟨some 12, .pick (.tmp 7) (.tmp 11) (.const (.bool false)), none, []⟩,
    ⟨some 2, .mov (.tmp 12), none, []⟩] false)
  .ret))
def a83 : AFunc := ⟨13, c83, [.tmp 2]⟩

def c84 : ACode :=
  (.seq (.region [⟨some 1, .box 47 (.tmp 0), none, [1]⟩,
    ⟨some 2, .mov (.const (.bool false)), none, [0]⟩] false)
  (.seq (.region [⟨some 3, .fad 14 (.tmp 1), none, [2]⟩,
    ⟨some 4, .load 2 true (.tmp 3), none, [2]⟩,
    ⟨some 5, .call (.func 85) [], none, [0, 1]⟩,
    ⟨some 6, .pur (mkO (.binOp .eql 29 (.tmp 4) (.tmp 5) 29) 4), none, []⟩,
    ⟨some 2, .mov (.tmp 6), none, []⟩] true)
  .ret))
def a84 : AFunc := ⟨7, c84, [.tmp 2]⟩

def c85 : ACode :=
  (.seq (.region [⟨some 0, .alloc 29 (.agg #[(.int .u8 0), (.int .u32 0)]), none, []⟩] false)
  (.seq (.region [⟨some 1, .build (.agg #[(.int .u8 0), (.int .u32 0)]) [], none, []⟩,
    ⟨none, .store 2 (.tmp 0) (.tmp 1), none, []⟩] false)
  .ret))
def a85 : AFunc := ⟨2, c85, [.cell 0 2 true]⟩

def c86 : ACode :=
  (.seq (.region [⟨some 2, .box 47 (.tmp 0), none, [1]⟩,
    ⟨some 3, .mov (.const (.bool false)), none, [0]⟩] false)
  (.seq (.region [⟨some 5, .fad 10 (.tmp 2), none, [2]⟩,
    ⟨some 6, .load 4 true (.tmp 5), none, [2]⟩,
    ⟨some 7, .build (.agg #[(.int .u8 0), (.int .u32 0), (.int .u8 0), (.int .i64 0)]) [], none, [0, 1]⟩,
    ⟨some 8, .pur (mkO (.binOp .eql 34 (.tmp 6) (.tmp 7) 34) 4), none, []⟩,
    ⟨some 9, .mov (.tmp 8), none, []⟩,
    ⟨some 10, .fad 10 (.tmp 2), some (9, false), []⟩,
    ⟨some 11, .load 4 true (.tmp 10), some (9, false), []⟩,
    ⟨some 12, .call (.func 42) [(.tmp 11)], some (9, false), []⟩,
    ⟨some 13, .pur (mkO (.binOp .eql 22 (.tmp 12) (.const (.int .i64 0)) 22) 4), some (9, false), []⟩,
    ⟨some 14, .pick (.tmp 9) (.const (.bool true)) (.tmp 13), none, []⟩,
    ⟨some 4, .mov (.tmp 14), none, []⟩] false)
  (.seq (.region [⟨some 15, .load 1 false (.tmp 1), none, [1]⟩,
    ⟨some 16, .load 17 true (.tmp 2), none, [0]⟩,
    ⟨some 17, .call (.tmp 15) [(.tmp 16)], none, []⟩,
    ⟨some 18, .mov (.tmp 17), none, []⟩,
    ⟨some 19, .mov (.tmp 4), some (18, true), []⟩,
    ⟨some 20, .pick (.tmp 18) (.tmp 19) (.const (.bool false)), none, []⟩,
    ⟨some 21, .mov (.tmp 20), none, []⟩,
    ⟨some 22, .fad 5 (.tmp 2), some (21, true), [11, 12]⟩,
    ⟨some 23, .fad 0 (.tmp 22), some (21, true), [11, 12]⟩,
    ⟨some 24, .fad 0 (.tmp 23), some (21, true), [11, 12]⟩,
    ⟨some 25, .load 3 true (.tmp 24), some (21, true), [11, 12]⟩,
    ⟨some 26, .fad 1 (.tmp 2), some (21, true), [7, 8, 9, 10]⟩,
    ⟨some 27, .load 3 true (.tmp 26), some (21, true), [7, 8, 9, 10]⟩,
    ⟨some 28, .pur (mkO (.binOp .eql 32 (.tmp 25) (.tmp 27) 32) 4), some (21, true), []⟩,
    ⟨some 29, .pick (.tmp 21) (.tmp 28) (.const (.bool false)), none, []⟩,
    ⟨some 30, .mov (.tmp 29), none, []⟩,
    ⟨some 31, .fad 16 (.tmp 2), some (30, true), [19, 20, 21]⟩,
    ⟨some 32, .load 1 false (.tmp 31), some (30, true), [19, 20, 21]⟩,
    ⟨some 33, .len (.tmp 32), some (30, true), [19, 20, 21]⟩,
    ⟨some 34, .fad 5 (.tmp 2), some (30, true), [16, 17, 18]⟩,
    ⟨some 35, .fad 4 (.tmp 34), some (30, true), [16, 17, 18]⟩,
    ⟨some 36, .load 1 false (.tmp 35), some (30, true), [16, 17, 18]⟩,
    ⟨some 37, .pur (mkO (.binOp .eql 3 (.tmp 33) (.tmp 36) 3) 4), some (30, true), []⟩,
    ⟨some 38, .pick (.tmp 30) (.tmp 37) (.const (.bool false)), none, []⟩,
    ⟨some 39, .mov (.tmp 38), none, []⟩,
    ⟨some 40, .fad 16 (.tmp 2), some (39, true), []⟩,
    ⟨some 41, .load 1 false (.tmp 40), some (39, true), []⟩,
    ⟨some 42, .call (.func 64) [(.tmp 41)], some (39, true), []⟩,
    ⟨some 43, .pur (mkO (.binOp .eql 22 (.tmp 42) (.const (.int .i64 0)) 22) 4), some (39, true), []⟩,
    ⟨some 44, .pick (.tmp 39) (.tmp 43) (.const (.bool false)), none, []⟩,
    ⟨some 3, .mov (.tmp 44), none, []⟩] false)
  .ret)))
def a86 : AFunc := ⟨45, c86, [.tmp 3]⟩

def c87 : ACode :=
  (.seq (.region [⟨some 2, .mov (.const (.int .i64 0)), none, []⟩] false)
  (.seq (.region [⟨some 3, .mov (.tmp 0), none, []⟩,
    ⟨some 4, .pur (mkO (.binOp .mul 3 (.const (.int .i64 4)) (.tmp 3) 3) 3), none, []⟩,
    ⟨some 5, .pur (mkO (.binOp .add 3 (.const (.int .i64 13)) (.tmp 4) 3) 3), none, []⟩,
    ⟨some 2, .mov (.tmp 5), none, []⟩] false)
  .ret))
def a87 : AFunc := ⟨6, c87, [.tmp 2]⟩

def c88 : ACode :=
  (.seq (.region [⟨some 3, .box 47 (.tmp 0), none, [1]⟩,
    ⟨some 4, .mov (.const (.bool false)), none, [0]⟩] false)
  (.seq (.region [⟨some 5, .load 1 false (.tmp 1), none, [1]⟩,
    ⟨some 6, .load 17 true (.tmp 3), none, [0]⟩,
    ⟨some 7, .call (.tmp 5) [(.tmp 6)], none, []⟩,
    ⟨some 8, .mov (.tmp 7), none, []⟩,
    ⟨some 9, .load 1 false (.tmp 2), some (8, true), [5]⟩,
    ⟨some 10, .load 17 true (.tmp 3), some (8, true), [4]⟩,
    ⟨some 11, .call (.tmp 9) [(.tmp 10)], some (8, true), []⟩,
    ⟨some 12, .pick (.tmp 8) (.tmp 11) (.const (.bool false)), none, []⟩,
    ⟨some 4, .mov (.tmp 12), none, []⟩] false)
  .ret))
def a88 : AFunc := ⟨13, c88, [.tmp 4]⟩

def c89 : ACode :=
  (.seq (.region [⟨some 2, .mov (.const (.int .i64 0)), none, []⟩] false)
  (.seq (.region [⟨some 2, .mov (.const (.int .i64 0)), none, []⟩] false)
  .ret))
def a89 : AFunc := ⟨3, c89, [.tmp 2]⟩

def c90 : ACode :=
  (.seq (.region [⟨some 2, .box 47 (.tmp 0), none, [1]⟩,
    ⟨some 3, .mov (.const (.bool false)), none, [0]⟩] false)
  (.seq (.region [⟨some 4, .load 1 false (.tmp 1), none, [1]⟩,
    ⟨some 5, .load 17 true (.tmp 2), none, [0]⟩,
    ⟨some 6, .call (.tmp 4) [(.tmp 5)], none, []⟩,
    ⟨some 7, .mov (.tmp 6), none, []⟩,
    ⟨some 8, .fad 14 (.tmp 2), some (7, true), []⟩,
    ⟨some 9, .load 2 true (.tmp 8), some (7, true), []⟩,
    ⟨some 10, .call (.func 33) [(.tmp 9)], some (7, true), []⟩,
    ⟨some 11, .pur (mkO (.binOp .eql 22 (.tmp 10) (.const (.int .i64 0)) 22) 4), some (7, true), []⟩,
    ⟨some 12, .pick (.tmp 7) (.tmp 11) (.const (.bool false)), none, []⟩,
    ⟨some 3, .mov (.tmp 12), none, []⟩] false)
  .ret))
def a90 : AFunc := ⟨13, c90, [.tmp 3]⟩

def c91 : ACode :=
  (.seq (.region [⟨some 2, .mov (.const (.int .i64 0)), none, []⟩] false)
  (.seq (.region [⟨some 2, .mov (.const (.int .i64 5)), none, []⟩] false)
  .ret))
def a91 : AFunc := ⟨3, c91, [.tmp 2]⟩

def c92 : ACode :=
  (.seq (.region [⟨some 2, .mov (.const (.bool false)), none, []⟩] false)
  (.seq (.region [⟨some 3, .mov (.tmp 0), none, []⟩,
    ⟨some 4, .pur (mkO (.binOp .neq 21 (.tmp 3) (.const (.int .i32 (-1))) 21) 4), none, []⟩,
    ⟨some 5, .mov (.tmp 4), none, []⟩,
    ⟨some 6, .mov (.tmp 0), some (5, true), []⟩,
    ⟨some 7, .call (.func 93) [(.tmp 6)], some (5, true), []⟩,
    ⟨some 8, .pur (mkO (.unOp .not 4 (.tmp 7)) 4), some (5, true), []⟩,
    ⟨some 9, .pick (.tmp 5) (.tmp 8) (.const (.bool false)), none, []⟩,
    ⟨some 2, .mov (.tmp 9), none, []⟩] false)
  .ret))
def a92 : AFunc := ⟨10, c92, [.tmp 2]⟩

def c93 : ACode :=
  (.seq (.region [⟨some 2, .mov (.const (.bool false)), none, []⟩] false)
  (.seq (.block 0 (.seq (.region [⟨some 4, .mov (.tmp 0), none, []⟩,
      ⟨some 5, .pur (mkO (.binOp .leq 21 (.const (.int .i32 0)) (.tmp 4) 21) 4), none, []⟩,
      ⟨some 6, .mov (.tmp 5), none, []⟩,
      ⟨some 7, .mov (.tmp 0), some (6, true), []⟩,
      ⟨some 8, .pur (mkO (.binOp .lss 21 (.tmp 7) (.const (.int .i32 55296)) 21) 4), some (6, true), []⟩,
      ⟨some 9, .pick (.tmp 6) (.tmp 8) (.const (.bool false)), none, []⟩,
      ⟨some 3, .mov (.tmp 9), none, []⟩] false)
    (.cond (.tmp 3)
      (.seq (.region [⟨some 2, .mov (.const (.bool true)), none, []⟩] false)
      .ret)
      (.seq (.region [⟨some 11, .mov (.tmp 0), none, []⟩,
        ⟨some 12, .pur (mkO (.binOp .lss 21 (.const (.int .i32 57343)) (.tmp 11) 21) 4), none, []⟩,
        ⟨some 13, .mov (.tmp 12), none, []⟩,
        ⟨some 14, .mov (.tmp 0), some (13, true), []⟩,
        ⟨some 15, .pur (mkO (.binOp .leq 21 (.tmp 14) (.const (.int .i32 1114111)) 21) 4), some (13, true), []⟩,
        ⟨some 16, .pick (.tmp 13) (.tmp 15) (.const (.bool false)), none, []⟩,
        ⟨some 10, .mov (.tmp 16), none, []⟩] false)
      (.cond (.tmp 10)
        (.seq (.region [⟨some 2, .mov (.const (.bool true)), none, []⟩] false)
        .ret)
        .skip)))))
  (.seq (.region [⟨some 2, .mov (.const (.bool false)), none, []⟩] false)
  .ret)))
def a93 : AFunc := ⟨17, c93, [.tmp 2]⟩

def c94 : ACode :=
  (.seq (.region [⟨some 4, .mov (.const (.bool false)), none, []⟩] false)
  (.seq (.region [⟨some 5, .mov (.tmp 0), none, [1]⟩,
    ⟨some 6, .mov (.tmp 1), none, [0]⟩,
    ⟨some 7, .call (.func 109) [(.tmp 5), (.tmp 6)], none, []⟩,
    ⟨some 8, .pur (mkO (.binOp .geq 3 (.tmp 7) (.const (.int .i64 0)) 3) 4), none, []⟩,
    ⟨some 4, .mov (.tmp 8), none, []⟩] false)
  .ret))
def a94 : AFunc := ⟨9, c94, [.tmp 4]⟩

def c95 : ACode :=
  (.seq (.region [⟨some 4, .mov (.const (.int .i64 0)), none, []⟩] false)
  (.seq (.seq (.region [⟨some 6, .mov (.tmp 0), none, [2]⟩,
    ⟨some 7, .len (.tmp 6), none, [2]⟩,
    ⟨some 8, .mov (.const (.int .i64 0)), none, [0, 1]⟩] false)
  (.block 0 (.loop (.seq (.region [⟨some 9, .pur (mkO (.binOp .lss 3 (.tmp 8) (.tmp 7) 3) 0), none, []⟩] false)
      (.seq (.cond (.tmp 9)
        .skip
        (.exit 0))
      (.seq (.block 1 (.seq (.region [⟨some 10, .mov (.tmp 8), none, []⟩,
          ⟨some 5, .mov (.tmp 10), none, []⟩] false)
        (.seq (.region [⟨some 11, .mov (.tmp 1), none, [1, 2, 3, 4]⟩,
          ⟨some 12, .mov (.tmp 0), none, [0, 2]⟩,
          ⟨some 13, .mov (.tmp 5), none, [0, 1]⟩,
          ⟨some 14, .iad 10 (.tmp 12) (.tmp 13), none, [0]⟩,
          ⟨some 15, .load 10 true (.tmp 14), none, [0]⟩,
          ⟨some 16, .call (.tmp 11) [(.tmp 15)], none, []⟩] false)
        (.cond (.tmp 16)
          (.seq (.region [⟨some 17, .mov (.tmp 5), none, []⟩,
            ⟨some 4, .mov (.tmp 17), none, []⟩] false)
          .ret)
          .skip))))
      (.region [⟨some 18, .pur (mkO (.binOp .add 3 (.tmp 8) (.const (.int .i64 1)) 3) 3), none, []⟩,
        ⟨some 8, .mov (.tmp 18), none, []⟩] false)))))))
  (.seq (.region [⟨some 4, .mov (.const (.int .i64 (-1))), none, []⟩] false)
  .ret)))
def a95 : AFunc := ⟨19, c95, [.tmp 4]⟩

def c96 : ACode :=
  (.seq (.region [⟨some 1, .box 60 (.tmp 0), none, [1]⟩,
    ⟨some 2, .mov (.const .nilFunc), none, [0]⟩] false)
  (.seq (.region [⟨some 3, .mkfn 110 [] [(.tmp 1)], none, []⟩,
    ⟨some 2, .mov (.tmp 3), none, []⟩] false)
  .ret))
def a96 : AFunc := ⟨4, c96, [.tmp 2]⟩

def c97 : ACode :=
  (.seq (.region [⟨some 6, .mov (.const (.bool false)), none, []⟩] false)
  (.seq (.seq (.region [⟨some 10, .mov (.tmp 0), none, [2, 3]⟩,
    ⟨some 11, .len (.tmp 10), none, [2, 3]⟩,
    ⟨some 12, .mov (.tmp 1), none, [0, 1]⟩,
    ⟨some 13, .len (.tmp 12), none, [0, 1]⟩,
    ⟨some 14, .pur (mkO (.binOp .neq 3 (.tmp 11) (.tmp 13) 3) 4), none, []⟩] false)
  (.cond (.tmp 14)
    (.seq (.region [⟨some 6, .mov (.const (.bool false)), none, []⟩] false)
    .ret)
    .skip))
  (.seq (.seq (.region [⟨some 15, .mov (.tmp 0), none, [2]⟩,
    ⟨some 16, .len (.tmp 15), none, [2]⟩,
    ⟨some 17, .mov (.const (.int .i64 0)), none, [0, 1]⟩] false)
  (.block 0 (.loop (.seq (.region [⟨some 18, .pur (mkO (.binOp .lss 3 (.tmp 17) (.tmp 16) 3) 0), none, []⟩] false)
      (.seq (.cond (.tmp 18)
        .skip
        (.exit 0))
      (.seq (.block 1 (.seq (.region [⟨some 19, .mov (.tmp 17), none, [1, 2, 3]⟩,
          ⟨some 20, .iad 10 (.tmp 15) (.tmp 17), none, [0, 3]⟩,
          ⟨some 21, .load 10 true (.tmp 20), none, [0, 3]⟩,
          ⟨some 8, .alloc 78 (.agg #[(.int .u8 0), (.int .u32 0), (.int .u8 0), (.int .i64 0), (.int .i64 0), (.int .u8 0), (.int .u32 0), (.int .u8 0), (.int .i64 0), (.slice none 0 0)]), none, [0, 1, 2]⟩,
          ⟨some 7, .mov (.tmp 19), none, []⟩,
          ⟨none, .store 10 (.tmp 8) (.tmp 21), none, []⟩] false)
        (.seq (.region [⟨some 22, .mov (.tmp 1), none, [1, 4]⟩,
          ⟨some 23, .mov (.tmp 7), none, [0, 4]⟩,
          ⟨some 24, .iad 10 (.tmp 22) (.tmp 23), none, [4]⟩,
          ⟨some 25, .load 10 true (.tmp 24), none, [4]⟩,
          ⟨some 9, .alloc 78 (.agg #[(.int .u8 0), (.int .u32 0), (.int .u8 0), (.int .i64 0), (.int .i64 0), (.int .u8 0), (.int .u32 0), (.int .u8 0), (.int .i64 0), (.slice none 0 0)]), none, [0, 1, 2, 3]⟩,
          ⟨none, .store 10 (.tmp 9) (.tmp 25), none, []⟩] false)
        (.seq (.region [⟨some 26, .mov (.tmp 2), none, [1, 2]⟩,
          ⟨some 27, .load 10 true (.tmp 8), none, [0, 2]⟩,
          ⟨some 28, .load 10 true (.tmp 9), none, [0, 1]⟩,
          ⟨some 29, .call (.tmp 26) [(.tmp 27), (.tmp 28)], none, []⟩,
          ⟨some 30, .pur (mkO (.unOp .not 4 (.tmp 29)) 4), none, []⟩] false)
        (.cond (.tmp 30)
          (.seq (.region [⟨some 6, .mov (.const (.bool false)), none, []⟩] false)
          .ret)
          .skip)))))
      (.region [⟨some 31, .pur (mkO (.binOp .add 3 (.tmp 17) (.const (.int .i64 1)) 3) 3), none, []⟩,
        ⟨some 17, .mov (.tmp 31), none, []⟩] false)))))))
  (.seq (.region [⟨some 6, .mov (.const (.bool true)), none, []⟩] false)
  .ret))))
def a97 : AFunc := ⟨32, c97, [.tmp 6]⟩

def c98 : ACode :=
  (.seq (.region [⟨some 2, .box 78 (.tmp 0), none, [1, 2]⟩,
    ⟨some 3, .box 78 (.tmp 1), none, [0, 2]⟩,
    ⟨some 4, .mov (.const (.bool false)), none, [0, 1]⟩] false)
  (.seq (.region [⟨some 5, .fad 0 (.tmp 2), none, [2, 3]⟩,
    ⟨some 6, .load 5 true (.tmp 5), none, [2, 3]⟩,
    ⟨some 7, .fad 0 (.tmp 3), none, [0, 1]⟩,
    ⟨some 8, .load 5 true (.tmp 7), none, [0, 1]⟩,
    ⟨some 9, .pur (mkO (.binOp .eql 44 (.tmp 6) (.tmp 8) 44) 4), none, []⟩,
    ⟨some 10, .mov (.tmp 9), none, []⟩,
    ⟨some 11, .fad 5 (.tmp 2), some (10, true), [8, 9]⟩,
    ⟨some 12, .load 4 true (.tmp 11), some (10, true), [8, 9]⟩,
    ⟨some 13, .fad 5 (.tmp 3), some (10, true), [6, 7]⟩,
    ⟨some 14, .load 4 true (.tmp 13), some (10, true), [6, 7]⟩,
    ⟨some 15, .pur (mkO (.binOp .eql 34 (.tmp 12) (.tmp 14) 34) 4), some (10, true), []⟩,
    ⟨some 16, .pick (.tmp 10) (.tmp 15) (.const (.bool false)), none, []⟩,
    ⟨some 17, .mov (.tmp 16), none, []⟩,
    ⟨some 18, .fad 9 (.tmp 2), some (17, true), [15, 16]⟩,
    ⟨some 19, .load 1 false (.tmp 18), some (17, true), [15, 16]⟩,
    ⟨some 20, .fad 9 (.tmp 3), some (17, true), [13, 14]⟩,
    ⟨some 21, .load 1 false (.tmp 20), some (17, true), [13, 14]⟩,
    ⟨some 22, .call (.func 111) [(.tmp 19), (.tmp 21)], some (17, true), []⟩,
    ⟨some 23, .pick (.tmp 17) (.tmp 22) (.const (.bool false)), none, []⟩,
    ⟨some 4, .mov (.tmp 23), none, []⟩] false)
  .ret))
def a98 : AFunc := ⟨24, c98, [.tmp 4]⟩

def c99 : ACode :=
  (.seq (.region [⟨some 2, .box 44 (.tmp 0), none, [1, 2, 3]⟩,
    ⟨some 4, .alloc 44 (.agg #[(.int .u8 0), (.int .u32 0), (.int .u8 0), (.int .i64 0), (.int .i64 0)]), none, [0, 2, 3]⟩,
    ⟨some 5, .alloc 44 (.agg #[(.int .u8 0), (.int .u32 0), (.int .u8 0), (.int .i64 0), (.int .i64 0)]), none, [0, 1, 3]⟩,
    ⟨some 6, .mov (.const (.int .i64 0)), none, [0, 1, 2]⟩] false)
  (.seq (.region [⟨some 9, .load 5 true (.tmp 2), none, [1, 6]⟩,
    ⟨some 10, .mov (.tmp 1), none, [0, 6]⟩,
    ⟨some 11, .call (.func 49) [(.tmp 9), (.tmp 10)], none, [6]⟩,
    ⟨some 8, .mov (.tmp 11), none, [6]⟩,
    ⟨some 12, .ext (.tmp 8) 0, none, [5, 6]⟩,
    ⟨some 13, .ext (.tmp 8) 1, none, [4, 6, 7]⟩,
    ⟨some 7, .alloc 34 (.agg #[(.int .u8 0), (.int .u32 0), (.int .u8 0), (.int .i64 0)]), none, [0, 1, 2, 3, 4, 5]⟩,
    ⟨none, .store 4 (.tmp 7) (.tmp 12), none, [5]⟩,
    ⟨some 6, .mov (.tmp 13), none, []⟩] false)
  (.seq (.seq (.region [⟨some 14, .mov (.tmp 6), none, []⟩,
    ⟨some 15, .pur (mkO (.binOp .eql 22 (.tmp 14) (.const (.int .i64 0)) 22) 4), none, []⟩,
    ⟨some 16, .mov (.tmp 15), none, []⟩,
    ⟨some 17, .mov (.tmp 1), some (16, true), []⟩,
    ⟨some 18, .pur (mkO (.binOp .eql 3 (.tmp 17) (.const (.int .i64 0)) 3) 4), some (16, true), []⟩,
    ⟨some 19, .pick (.tmp 16) (.tmp 18) (.const (.bool false)), none, []⟩] false)
  (.cond (.tmp 19)
    (.region [⟨some 6, .mov (.const (.int .i64 2)), none, []⟩] false)
    .skip))
  (.seq (.seq (.region [⟨some 20, .mov (.tmp 6), none, []⟩,
    ⟨some 21, .pur (mkO (.binOp .neq 22 (.tmp 20) (.const (.int .i64 0)) 22) 4), none, []⟩] false)
  (.cond (.tmp 21)
    (.seq (.region [⟨some 22, .load 5 true (.tmp 4), none, [1, 2]⟩,
      ⟨some 23, .load 5 true (.tmp 5), none, [0, 2, 3]⟩,
      ⟨some 24, .mov (.tmp 6), none, [0, 1, 3, 4]⟩,
      ⟨none, .store 5 (.tmp 4) (.tmp 22), none, [1, 2]⟩,
      ⟨none, .store 5 (.tmp 5) (.tmp 23), none, [2]⟩,
      ⟨some 6, .mov (.tmp 24), none, []⟩] true)
    .ret)
    .skip))
  (.seq (.region [⟨some 25, .fad 0 (.tmp 2), none, [2, 4, 5, 6, 7, 8, 9]⟩,
    ⟨some 26, .load 4 true (.tmp 25), none, [2, 4, 5, 6, 7, 8, 9]⟩,
    ⟨some 27, .mov (.tmp 1), none, [0, 1, 4, 5, 6, 7, 8, 9]⟩,
    ⟨some 28, .build (.agg #[(.int .u8 0), (.int .u32 0), (.int .u8 0), (.int .i64 0), (.int .i64 0)]) [(0, 4, (.tmp 26)), (4, 1, (.tmp 27))], none, [4, 5, 6, 7, 8, 9]⟩,
    ⟨some 29, .load 4 true (.tmp 7), none, [0, 1, 2, 3, 5, 6, 7, 8, 10]⟩,
    ⟨some 30, .fad 4 (.tmp 2), none, [0, 1, 2, 3, 4, 7, 10]⟩,
    ⟨some 31, .load 1 false (.tmp 30), none, [0, 1, 2, 3, 4, 7, 10]⟩,
    ⟨some 32, .mov (.tmp 1), none, [0, 1, 2, 3, 4, 5, 6, 10]⟩,
    ⟨some 33, .pur (mkO (.binOp .sub 3 (.tmp 31) (.tmp 32) 3) 3), none, [0, 1, 2, 3, 4, 10]⟩,
    ⟨some 34, .build (.agg #[(.int .u8 0), (.int .u32 0), (.int .u8 0), (.int .i64 0), (.int .i64 0)]) [(0, 4, (.tmp 29)), (4, 1, (.tmp 33))], none, [0, 1, 2, 3, 10]⟩,
    ⟨none, .store 5 (.tmp 4) (.tmp 28), none, [4, 5, 6, 7, 8, 9]⟩,
    ⟨none, .store 5 (.tmp 5) (.tmp 34), none, []⟩,
    ⟨some 6, .mov (.const (.int .i64 0)), none, []⟩] true)
  .ret)))))
def a99 : AFunc := ⟨35, c99, [.cell 4 5 true, .cell 5 5 true, .tmp 6]⟩

def c100 : ACode :=
  (.seq (.region [⟨some 1, .box 157 (.tmp 0), none, [1]⟩,
    ⟨some 2, .alloc 78 (.agg #[(.int .u8 0), (.int .u32 0), (.int .u8 0), (.int .i64 0), (.int .i64 0), (.int .u8 0), (.int .u32 0), (.int .u8 0), (.int .i64 0), (.slice none 0 0)]), none, [0]⟩] false)
  (.seq (.region [⟨some 3, .fad 0 (.tmp 1), none, [2, 3, 4, 5, 6]⟩,
    ⟨some 4, .load 5 true (.tmp 3), none, [2, 3, 4, 5, 6]⟩,
    ⟨some 5, .fad 5 (.tmp 1), none, [0, 1, 4, 5, 6]⟩,
    ⟨some 6, .load 4 true (.tmp 5), none, [0, 1, 4, 5, 6]⟩,
    ⟨some 7, .fad 9 (.tmp 1), none, [0, 1, 2, 3]⟩,
    ⟨some 8, .load 1 false (.tmp 7), none, [0, 1, 2, 3]⟩,
    ⟨some 9, .call (.func 45) [(.tmp 8)], none, [0, 1, 2, 3]⟩,
    ⟨some 10, .build (.agg #[(.int .u8 0), (.int .u32 0), (.int .u8 0), (.int .i64 0), (.int .i64 0), (.int .u8 0), (.int .u32 0), (.int .u8 0), (.int .i64 0), (.slice none 0 0)]) [(0, 5, (.tmp 4)), (5, 4, (.tmp 6)), (9, 1, (.tmp 9))], none, []⟩,
    ⟨none, .store 10 (.tmp 2) (.tmp 10), none, []⟩] true)
  .ret))
def a100 : AFunc := ⟨11, c100, [.cell 2 10 true]⟩

def c101 : ACode :=
  (.seq (.region [⟨some 4, .mov (.const (.slice none 0 0)), none, []⟩] false)
  (.seq (.seq (.region [⟨some 5, .mov (.tmp 1), none, []⟩,
    ⟨some 6, .pur (mkO (.binOp .lss 3 (.tmp 5) (.const (.int .i64 0)) 3) 4), none, []⟩] false)
  (.cond (.tmp 6)
    (.region [⟨some 7, .bad "op", none, []⟩,
      ⟨none, .bad "op", none, []⟩] false)
    .skip))
  (.seq (.seq (.region [⟨some 8, .mov (.tmp 1), none, [1, 2, 3, 4, 5]⟩,
    ⟨some 9, .mov (.tmp 0), none, [0, 3, 4]⟩,
    ⟨some 10, .cap (.tmp 9), none, [0, 3, 4]⟩,
    ⟨some 11, .mov (.tmp 0), none, [0, 1, 2]⟩,
    ⟨some 12, .len (.tmp 11), none, [0, 1, 2]⟩,
    ⟨some 13, .pur (mkO (.binOp .sub 3 (.tmp 10) (.tmp 12) 3) 3), none, [0]⟩,
    ⟨some 14, .pur (mkO (.binOp .sub 3 (.tmp 8) (.tmp 13) 3) 3), none, []⟩,
    ⟨some 1, .mov (.tmp 14), none, []⟩] false)
  (.seq (.region [⟨some 15, .mov (.tmp 1), none, []⟩,
    ⟨some 16, .pur (mkO (.binOp .gtr 3 (.tmp 15) (.const (.int .i64 0)) 3) 4), none, []⟩] false)
  (.cond (.tmp 16)
    (.region [⟨some 17, .mov (.tmp 0), none, [1, 2, 4, 6, 7]⟩,
      ⟨some 18, .mov (.tmp 0), none, [0, 4, 6, 7]⟩,
      ⟨some 19, .cap (.tmp 18), none, [0, 4, 6, 7]⟩,
      ⟨some 20, .slc 10 (.tmp 17) none (some (.tmp 19)) none, none, [4, 6, 7]⟩,
      ⟨some 21, .mov (.tmp 1), none, [0, 1, 2, 3, 6, 7]⟩,
      ⟨some 22, .appz 78 10 80 (.agg #[(.int .u8 0), (.int .u32 0), (.int .u8 0), (.int .i64 0), (.int .i64 0), (.int .u8 0), (.int .u32 0), (.int .u8 0), (.int .i64 0), (.slice none 0 0)]) (.tmp 20) (.tmp 21), none, [6, 7]⟩,
      ⟨some 23, .mov (.tmp 0), none, [0, 1, 2, 3, 4, 5]⟩,
      ⟨some 24, .len (.tmp 23), none, [0, 1, 2, 3, 4, 5]⟩,
      ⟨some 25, .slc 10 (.tmp 22) none (some (.tmp 24)) none, none, []⟩,
      ⟨some 0, .mov (.tmp 25), none, []⟩] false)
    .skip)))
  (.seq (.region [⟨some 26, .mov (.tmp 0), none, []⟩,
    ⟨some 4, .mov (.tmp 26), none, []⟩] false)
  .ret))))
def a101 : AFunc := ⟨27, c101, [.tmp 4]⟩

def c102 : ACode :=
  (.seq (.region [⟨some 2, .mov (.const (.slice none 0 0)), none, []⟩] false)
  (.seq (.seq (.region [⟨some 5, .mov (.tmp 0), none, [2]⟩,
    ⟨some 6, .len (.tmp 5), none, [2]⟩,
    ⟨some 7, .mov (.const (.int .i64 0)), none, [0, 1]⟩] false)
  (.block 0 (.loop (.seq (.region [⟨some 8, .pur (mkO (.binOp .lss 3 (.tmp 7) (.tmp 6) 3) 0), none, []⟩] false)
      (.seq (.cond (.tmp 8)
        .skip
        (.exit 0))
      (.seq (.block 1 (.seq (.region [⟨some 9, .iad 10 (.tmp 5) (.tmp 7), none, [2]⟩,
          ⟨some 10, .load 10 true (.tmp 9), none, [2]⟩,
          ⟨some 4, .alloc 78 (.agg #[(.int .u8 0), (.int .u32 0), (.int .u8 0), (.int .i64 0), (.int .i64 0), (.int .u8 0), (.int .u32 0), (.int .u8 0), (.int .i64 0), (.slice none 0 0)]), none, [0, 1]⟩,
          ⟨none, .store 10 (.tmp 4) (.tmp 10), none, []⟩] false)
        (.region [⟨some 11, .mov (.tmp 2), none, [1, 2]⟩,
          ⟨some 12, .fad 9 (.tmp 4), none, [0]⟩,
          ⟨some 13, .load 1 false (.tmp 12), none, [0]⟩,
          ⟨some 14, .app 21 1 4 (.int .i32 0) (.tmp 11) (.tmp 13), none, []⟩,
          ⟨some 2, .mov (.tmp 14), none, []⟩] false)))
      (.region [⟨some 15, .pur (mkO (.binOp .add 3 (.tmp 7) (.const (.int .i64 1)) 3) 3), none, []⟩,
        ⟨some 7, .mov (.tmp 15), none, []⟩] false)))))))
  (.seq (.region [⟨some 16, .mov (.tmp 2), none, []⟩,
    ⟨some 2, .mov (.tmp 16), none, []⟩] false)
  .ret)))
def a102 : AFunc := ⟨17, c102, [.tmp 2]⟩

def c103 : ACode :=
  (.seq (.region [⟨some 4, .mov (.tmp 0), none, [1]⟩,
    ⟨some 5, .mov (.tmp 1), none, [0]⟩,
    ⟨some 6, .slc 10 (.tmp 4) none (some (.tmp 5)) none, none, []⟩,
    ⟨some 7, .call (.func 112) [(.tmp 6)], none, []⟩] false)
  (.seq (.region [⟨some 8, .mov (.tmp 0), none, [1]⟩,
    ⟨some 9, .mov (.tmp 1), none, [0]⟩,
    ⟨some 10, .slc 10 (.tmp 8) (some (.tmp 9)) none none, none, []⟩,
    ⟨some 11, .call (.func 112) [(.tmp 10)], none, []⟩] false)
  (.region [⟨some 12, .mov (.tmp 0), none, []⟩,
    ⟨some 13, .call (.func 112) [(.tmp 12)], none, []⟩] false)))
def a103 : AFunc := ⟨14, c103, []⟩

def c104 : ACode :=
  (.seq (.region [⟨some 4, .box 47 (.tmp 1), none, [1, 2]⟩,
    ⟨some 5, .box 34 (.tmp 2), none, [0, 2]⟩,
    ⟨some 6, .mov (.const (.bool false)), none, [0, 1]⟩] false)
  (.seq (.region [⟨some 7, .mov (.tmp 0), none, [4]⟩,
    ⟨some 8, .nilck (.tmp 7), none, [4]⟩,
    ⟨some 9, .fad 1 (.tmp 8), none, [4]⟩,
    ⟨some 10, .load 1 false (.tmp 9), none, [4]⟩,
    ⟨some 11, .load 4 true (.tmp 5), none, [0, 1, 2, 3]⟩,
    ⟨some 12, .lookup 34 (.bool false) (.tmp 10) (.tmp 11) false, none, []⟩,
    ⟨some 13, .mov (.tmp 12), none, []⟩,
    ⟨some 14, .fad 0 (.tmp 5), some (13, true), [10, 11, 12]⟩,
    ⟨some 15, .fad 0 (.tmp 14), some (13, true), [10, 11, 12]⟩,
    ⟨some 16, .load 2 true (.tmp 15), some (13, true), [10, 11, 12]⟩,
    ⟨some 17, .fad 1 (.tmp 4), some (13, true), [7, 8, 9]⟩,
    ⟨some 18, .fad 0 (.tmp 17), some (13, true), [7, 8, 9]⟩,
    ⟨some 19, .load 2 true (.tmp 18), some (13, true), [7, 8, 9]⟩,
    ⟨some 20, .call (.func 20) [(.tmp 16), (.tmp 19)], some (13, true), []⟩,
    ⟨some 21, .pick (.tmp 13) (.tmp 20) (.const (.bool false)), none, []⟩,
    ⟨some 6, .mov (.tmp 21), none, []⟩] true)
  .ret))
def a104 : AFunc := ⟨22, c104, [.tmp 6]⟩

def c105 : ACode :=
  (.seq (.region [⟨some 4, .mov (.const (.bool false)), none, []⟩] false)
  (.seq (.region [⟨some 5, .mov (.tmp 0), none, [1]⟩,
    ⟨some 6, .mov (.tmp 1), none, [0]⟩,
    ⟨some 7, .call (.func 113) [(.tmp 5), (.tmp 6)], none, []⟩,
    ⟨some 8, .pur (mkO (.binOp .geq 3 (.tmp 7) (.const (.int .i64 0)) 3) 4), none, []⟩,
    ⟨some 4, .mov (.tmp 8), none, []⟩] false)
  .ret))
def a105 : AFunc := ⟨9, c105, [.tmp 4]⟩

def c106 : ACode :=
  (.seq (.region [⟨some 2, .box 34 (.tmp 0), none, [1]⟩,
    ⟨some 3, .mov (.const (.bool false)), none, [0]⟩] false)
  (.seq (.region [⟨some 4, .load 1 false (.tmp 1), none, [4]⟩,
    ⟨some 5, .nilck (.tmp 4), none, [4]⟩,
    ⟨some 6, .fad 1 (.tmp 5), none, [4]⟩,
    ⟨some 7, .load 1 false (.tmp 6), none, [4]⟩,
    ⟨some 8, .load 4 true (.tmp 2), none, [0, 1, 2, 3]⟩,
    ⟨some 9, .lookup 34 (.bool false) (.tmp 7) (.tmp 8) false, none, []⟩,
    ⟨some 3, .mov (.tmp 9), none, []⟩] true)
  .ret))
def a106 : AFunc := ⟨10, c106, [.tmp 3]⟩

def c107 : ACode :=
  (.seq (.region [⟨some 2, .box 96 (.tmp 0), none, [1, 2]⟩,
    ⟨some 3, .box 47 (.tmp 1), none, [0, 2]⟩,
    ⟨some 4, .mov (.const (.bool false)), none, [0, 1]⟩] false)
  (.seq (.region [⟨some 5, .fad 5 (.tmp 3), none, [3]⟩,
    ⟨some 6, .load 5 true (.tmp 5), none, [3]⟩,
    ⟨some 7, .call (.func 62) [(.tmp 6)], none, [3]⟩,
    ⟨some 8, .mkfn 114 [] [(.tmp 2), (.tmp 3)], none, [0, 1, 2]⟩,
    ⟨some 9, .call (.func 105) [(.tmp 7), (.tmp 8)], none, []⟩,
    ⟨some 10, .pur (mkO (.unOp .not 4 (.tmp 9)) 4), none, []⟩,
    ⟨some 4, .mov (.tmp 10), none, []⟩] false)
  .ret))
def a107 : AFunc := ⟨11, c107, [.tmp 4]⟩

def c108 : ACode :=
  (.seq (.region [⟨some 3, .box 47 (.tmp 1), none, [1, 2]⟩,
    ⟨some 4, .mov (.const (.bool false)), none, [0]⟩,
    ⟨some 5, .mov (.const (.int .i64 0)), none, [0]⟩] false)
  (.seq (.seq (.region [⟨some 8, .mov (.tmp 0), none, []⟩,
    ⟨some 9, .call (.func 57) [(.tmp 8)], none, []⟩,
    ⟨some 6, .mov (.tmp 9), none, []⟩] false)
  (.seq (.region [⟨some 10, .mov (.tmp 6), none, []⟩,
    ⟨some 11, .pur (mkO (.binOp .neq 22 (.tmp 10) (.const (.int .i64 0)) 22) 4), none, []⟩] false)
  (.cond (.tmp 11)
    (.seq (.region [⟨some 12, .mov (.tmp 6), none, [1]⟩,
      ⟨some 4, .mov (.const (.bool false)), none, [0]⟩,
      ⟨some 5, .mov (.tmp 12), none, []⟩] false)
    .ret)
    .skip)))
  (.seq (.seq (.region [⟨some 13, .load 17 true (.tmp 3), none, []⟩,
    ⟨some 14, .call (.func 44) [(.tmp 13)], none, []⟩,
    ⟨some 7, .mov (.tmp 14), none, []⟩] false)
  (.seq (.region [⟨some 15, .mov (.tmp 7), none, []⟩,
    ⟨some 16, .pur (mkO (.binOp .neq 22 (.tmp 15) (.const (.int .i64 0)) 22) 4), none, []⟩] false)
  (.cond (.tmp 16)
    (.seq (.region [⟨some 17, .mov (.tmp 7), none, [1]⟩,
      ⟨some 4, .mov (.const (.bool false)), none, [0]⟩,
      ⟨some 5, .mov (.tmp 17), none, []⟩] false)
    .ret)
    .skip)))
  (.seq (.region [⟨some 18, .mov (.tmp 0), none, [1]⟩,
    ⟨some 19, .load 17 true (.tmp 3), none, [0]⟩,
    ⟨some 20, .call (.func 77) [(.tmp 18), (.tmp 19)], none, []⟩,
    ⟨some 4, .mov (.tmp 20), none, []⟩,
    ⟨some 5, .mov (.const (.int .i64 0)), none, []⟩] false)
  .ret))))
def a108 : AFunc := ⟨21, c108, [.tmp 4, .tmp 5]⟩

def c109 : ACode :=
  (.seq (.region [⟨some 4, .mov (.const (.int .i64 0)), none, []⟩] false)
  (.seq (.seq (.region [⟨some 6, .mov (.tmp 0), none, [2]⟩,
    ⟨some 7, .len (.tmp 6), none, [2]⟩,
    ⟨some 8, .mov (.const (.int .i64 0)), none, [0, 1]⟩] false)
  (.block 0 (.loop (.seq (.region [⟨some 9, .pur (mkO (.binOp .lss 3 (.tmp 8) (.tmp 7) 3) 0), none, []⟩] false)
      (.seq (.cond (.tmp 9)
        .skip
        (.exit 0))
      (.seq (.block 1 (.seq (.region [⟨some 10, .mov (.tmp 8), none, []⟩,
          ⟨some 5, .mov (.tmp 10), none, []⟩] false)
        (.seq (.region [⟨some 11, .mov (.tmp 1), none, [1, 2, 3, 4]⟩,
          ⟨some 12, .mov (.tmp 0), none, [0, 2]⟩,
          ⟨some 13, .mov (.tmp 5), none, [0, 1]⟩,
          ⟨some 14, .iad 1 (.tmp 12) (.tmp 13), none, [0]⟩,
          ⟨some 15, .load 1 false (.tmp 14), none, [0]⟩,
          ⟨some 16, .call (.tmp 11) [(.tmp 15)], none, []⟩] false)
        (.cond (.tmp 16)
          (.seq (.region [⟨some 17, .mov (.tmp 5), none, []⟩,
            ⟨some 4, .mov (.tmp 17), none, []⟩] false)
          .ret)
          .skip))))
      (.region [⟨some 18, .pur (mkO (.binOp .add 3 (.tmp 8) (.const (.int .i64 1)) 3) 3), none, []⟩,
        ⟨some 8, .mov (.tmp 18), none, []⟩] false)))))))
  (.seq (.region [⟨some 4, .mov (.const (.int .i64 (-1))), none, []⟩] false)
  .ret)))
def a109 : AFunc := ⟨19, c109, [.tmp 4]⟩

def c110 : ACode :=
  (.seq (.region [⟨some 10, .load 1 false (.tmp 1), none, [2]⟩,
    ⟨some 11, .len (.tmp 10), none, [2]⟩,
    ⟨some 12, .mov (.const (.int .i64 0)), none, [0, 1]⟩] false)
  (.block 0 (.loop (.seq (.region [⟨some 13, .pur (mkO (.binOp .lss 3 (.tmp 12) (.tmp 11) 3) 0), none, []⟩] false)
      (.seq (.cond (.tmp 13)
        .skip
        (.exit 0))
      (.seq (.block 1 (.seq (.region [⟨some 14, .iad 10 (.tmp 10) (.tmp 12), none, [2]⟩,
          ⟨some 15, .load 10 true (.tmp 14), none, [2]⟩,
          ⟨some 4, .alloc 78 (.agg #[(.int .u8 0), (.int .u32 0), (.int .u8 0), (.int .i64 0), (.int .i64 0), (.int .u8 0), (.int .u32 0), (.int .u8 0), (.int .i64 0), (.slice none 0 0)]), none, [0, 1]⟩,
          ⟨none, .store 10 (.tmp 4) (.tmp 15), none, []⟩] false)
        (.seq (.region [⟨some 16, .fad 0 (.tmp 4), none, [3]⟩,
          ⟨some 17, .fad 4 (.tmp 16), none, [3]⟩,
          ⟨some 18, .load 1 false (.tmp 17), none, [3]⟩,
          ⟨some 19, .mov (.const (.int .i64 0)), none, [0, 1, 2]⟩] false)
        (.block 2 (.loop (.seq (.region [⟨some 20, .pur (mkO (.binOp .lss 3 (.tmp 19) (.tmp 18) 3) 4), none, []⟩] false)
            (.seq (.cond (.tmp 20)
              .skip
              (.exit 2))
            (.seq (.block 3 (.seq (.region [⟨some 21, .mov (.tmp 19), none, []⟩,
                ⟨some 5, .mov (.tmp 21), none, []⟩] false)
              (.seq (.region [⟨some 23, .load 10 true (.tmp 4), none, [1, 8, 9]⟩,
                ⟨some 24, .mov (.tmp 5), none, [0, 8, 9]⟩,
                ⟨some 25, .call (.func 34) [(.tmp 23), (.tmp 24)], none, [8, 9]⟩,
                ⟨some 22, .mov (.tmp 25), none, [8, 9]⟩,
                ⟨some 26, .ext (.tmp 22) 0, none, [5, 6, 7, 8, 9]⟩,
                ⟨some 27, .ext (.tmp 22) 1, none, [4, 6, 7, 8, 9, 10]⟩,
                ⟨some 28, .ext (.tmp 22) 2, none, [4, 5, 7, 8, 9, 10, 11]⟩,
                ⟨some 29, .ext (.tmp 22) 3, none, [4, 5, 6, 8, 9, 10, 11, 12]⟩,
                ⟨some 6, .alloc 34 (.agg #[(.int .u8 0), (.int .u32 0), (.int .u8 0), (.int .i64 0)]), none, [0, 1, 2, 3, 4, 5, 6, 7, 9]⟩,
                ⟨some 7, .alloc 34 (.agg #[(.int .u8 0), (.int .u32 0), (.int .u8 0), (.int .i64 0)]), none, [0, 1, 2, 3, 4, 5, 6, 7, 8]⟩,
                ⟨none, .store 4 (.tmp 6) (.tmp 26), none, [5, 6, 7]⟩,
                ⟨none, .store 4 (.tmp 7) (.tmp 27), none, [6, 7]⟩,
                ⟨some 8, .mov (.tmp 28), none, [7]⟩,
                ⟨some 9, .mov (.tmp 29), none, []⟩] false)
              (.seq (.region [⟨some 30, .mov (.tmp 0), none, [1, 2]⟩,
                ⟨some 31, .load 4 true (.tmp 6), none, [0, 2]⟩,
                ⟨some 32, .load 4 true (.tmp 7), none, [0, 1]⟩,
                ⟨some 33, .call (.tmp 30) [(.tmp 31), (.tmp 32)], none, []⟩,
                ⟨some 34, .pur (mkO (.unOp .not 4 (.tmp 33)) 4), none, []⟩] false)
              (.cond (.tmp 34)
                .ret
                .skip)))))
            (.region [⟨some 35, .pur (mkO (.binOp .add 3 (.tmp 19) (.const (.int .i64 1)) 3) 3), none, []⟩,
              ⟨some 19, .mov (.tmp 35), none, []⟩] false)))))))))
      (.region [⟨some 36, .pur (mkO (.binOp .add 3 (.tmp 12) (.const (.int .i64 1)) 3) 3), none, []⟩,
        ⟨some 12, .mov (.tmp 36), none, []⟩] false)))))))
def a110 : AFunc := ⟨37, c110, []⟩

def c111 : ACode :=
  (.seq (.region [⟨some 4, .mov (.const (.bool false)), none, []⟩] false)
  (.seq (.seq (.region [⟨some 6, .mov (.tmp 0), none, [2, 3]⟩,
    ⟨some 7, .len (.tmp 6), none, [2, 3]⟩,
    ⟨some 8, .mov (.tmp 1), none, [0, 1]⟩,
    ⟨some 9, .len (.tmp 8), none, [0, 1]⟩,
    ⟨some 10, .pur (mkO (.binOp .neq 3 (.tmp 7) (.tmp 9) 3) 4), none, []⟩] false)
  (.cond (.tmp 10)
    (.seq (.region [⟨some 4, .mov (.const (.bool false)), none, []⟩] false)
    .ret)
    .skip))
  (.seq (.seq (.region [⟨some 11, .mov (.tmp 0), none, [2]⟩,
    ⟨some 12, .len (.tmp 11), none, [2]⟩,
    ⟨some 13, .mov (.const (.int .i64 0)), none, [0, 1]⟩] false)
  (.block 0 (.loop (.seq (.region [⟨some 14, .pur (mkO (.binOp .lss 3 (.tmp 13) (.tmp 12) 3) 0), none, []⟩] false)
      (.seq (.cond (.tmp 14)
        .skip
        (.exit 0))
      (.seq (.block 1 (.seq (.region [⟨some 15, .mov (.tmp 13), none, []⟩,
          ⟨some 5, .mov (.tmp 15), none, []⟩] false)
        (.seq (.region [⟨some 16, .mov (.tmp 0), none, [1, 4, 5, 6, 7]⟩,
          ⟨some 17, .mov (.tmp 5), none, [0, 4, 5, 6, 7]⟩,
          ⟨some 18, .iad 1 (.tmp 16) (.tmp 17), none, [4, 5, 6, 7]⟩,
          ⟨some 19, .load 1 false (.tmp 18), none, [4, 5, 6, 7]⟩,
          ⟨some 20, .mov (.tmp 1), none, [0, 1, 2, 3, 5]⟩,
          ⟨some 21, .mov (.tmp 5), none, [0, 1, 2, 3, 4]⟩,
          ⟨some 22, .iad 1 (.tmp 20) (.tmp 21), none, [0, 1, 2, 3]⟩,
          ⟨some 23, .load 1 false (.tmp 22), none, [0, 1, 2, 3]⟩,
          ⟨some 24, .pur (mkO (.binOp .neq 21 (.tmp 19) (.tmp 23) 21) 4), none, []⟩] true)
        (.cond (.tmp 24)
          (.seq (.region [⟨some 4, .mov (.const (.bool false)), none, []⟩] false)
          .ret)
          .skip))))
      (.region [⟨some 25, .pur (mkO (.binOp .add 3 (.tmp 13) (.const (.int .i64 1)) 3) 3), none, []⟩,
        ⟨some 13, .mov (.tmp 25), none, []⟩] false)))))))
  (.seq (.region [⟨some 4, .mov (.const (.bool true)), none, []⟩] false)
  .ret))))
def a111 : AFunc := ⟨26, c111, [.tmp 4]⟩

def c112 : ACode :=
  (.seq (.region [⟨some 4, .mov (.tmp 0), none, [3]⟩,
    ⟨some 5, .len (.tmp 4), none, [3]⟩,
    ⟨some 6, .pur (mkO (.binOp .sub 3 (.tmp 5) (.const (.int .i64 1)) 3) 3), none, [3]⟩,
    ⟨some 2, .mov (.const (.int .i64 0)), none, [0, 1, 2]⟩,
    ⟨some 3, .mov (.tmp 6), none, []⟩] false)
  (.block 0 (.loop (.seq (.seq (.region [⟨some 7, .mov (.tmp 2), none, [1]⟩,
        ⟨some 8, .mov (.tmp 3), none, [0]⟩,
        ⟨some 9, .pur (mkO (.binOp .lss 3 (.tmp 7) (.tmp 8) 3) 4), none, []⟩] false)
      (.cond (.tmp 9)
        .skip
        (.exit 0)))
      (.seq (.block 1 (.region [⟨some 14, .mov (.tmp 0), none, [1, 2, 3, 4, 5, 6, 7, 8, 9, 10, 11]⟩,
          ⟨some 15, .mov (.tmp 2), none, [0, 2, 3, 4, 5, 6, 7, 8, 9, 10, 11]⟩,
          ⟨some 16, .mov (.tmp 0), none, [0, 1, 3, 4, 5, 6, 7, 8, 9, 10, 11, 12, 13]⟩,
          ⟨some 17, .mov (.tmp 3), none, [0, 1, 2, 4, 5, 6, 7, 8, 9, 10, 11, 12, 13]⟩,
          ⟨some 18, .mov (.tmp 0), none, [0, 1, 2, 3, 5, 8, 9, 10, 11]⟩,
          ⟨some 19, .mov (.tmp 3), none, [0, 1, 2, 3, 4, 8, 9, 10, 11]⟩,
          ⟨some 20, .iad 10 (.tmp 18) (.tmp 19), none, [0, 1, 2, 3, 8, 9, 10, 11]⟩,
          ⟨some 21, .load 10 true (.tmp 20), none, [0, 1, 2, 3, 8, 9, 10, 11]⟩,
          ⟨some 22, .mov (.tmp 0), none, [0, 1, 2, 3, 4, 5, 6, 7, 9]⟩,
          ⟨some 23, .mov (.tmp 2), none, [0, 1, 2, 3, 4, 5, 6, 7, 8]⟩,
          ⟨some 24, .iad 10 (.tmp 22) (.tmp 23), none, [0, 1, 2, 3, 4, 5, 6, 7]⟩,
          ⟨some 25, .load 10 true (.tmp 24), none, [0, 1, 2, 3, 4, 5, 6, 7]⟩,
          ⟨some 26, .iad 10 (.tmp 14) (.tmp 15), none, [2, 3]⟩,
          ⟨none, .store 10 (.tmp 26) (.tmp 21), none, [2, 3]⟩,
          ⟨some 27, .iad 10 (.tmp 16) (.tmp 17), none, []⟩,
          ⟨none, .store 10 (.tmp 27) (.tmp 25), none, []⟩] true))
      (.region [⟨some 10, .mov (.tmp 2), none, [2, 3]⟩,
        ⟨some 11, .pur (mkO (.binOp .add 3 (.tmp 10) (.const (.int .i64 1)) 3) 3), none, [2, 3]⟩,
        ⟨some 12, .mov (.tmp 3), none, [0, 1, 4]⟩,
        ⟨some 13, .pur (mkO (.binOp .sub 3 (.tmp 12) (.const (.int .i64 1)) 3) 3), none, [0, 1, 4]⟩,
        ⟨some 2, .mov (.tmp 11), none, [2, 3]⟩,
        ⟨some 3, .mov (.tmp 13), none, []⟩] false))))))
def a112 : AFunc := ⟨28, c112, []⟩

def c113 : ACode :=
  (.seq (.region [⟨some 4, .mov (.const (.int .i64 0)), none, []⟩] false)
  (.seq (.seq (.region [⟨some 6, .mov (.tmp 0), none, [2]⟩,
    ⟨some 7, .len (.tmp 6), none, [2]⟩,
    ⟨some 8, .mov (.const (.int .i64 0)), none, [0, 1]⟩] false)
  (.block 0 (.loop (.seq (.region [⟨some 9, .pur (mkO (.binOp .lss 3 (.tmp 8) (.tmp 7) 3) 0), none, []⟩] false)
      (.seq (.cond (.tmp 9)
        .skip
        (.exit 0))
      (.seq (.block 1 (.seq (.region [⟨some 10, .mov (.tmp 8), none, []⟩,
          ⟨some 5, .mov (.tmp 10), none, []⟩] false)
        (.seq (.region [⟨some 11, .mov (.tmp 1), none, [1, 2, 3, 4]⟩,
          ⟨some 12, .mov (.tmp 0), none, [0, 2]⟩,
          ⟨some 13, .mov (.tmp 5), none, [0, 1]⟩,
          ⟨some 14, .iad 4 (.tmp 12) (.tmp 13), none, [0]⟩,
          ⟨some 15, .load 4 true (.tmp 14), none, [0]⟩,
          ⟨some 16, .call (.tmp 11) [(.tmp 15)], none, []⟩] false)
        (.cond (.tmp 16)
          (.seq (.region [⟨some 17, .mov (.tmp 5), none, []⟩,
            ⟨some 4, .mov (.tmp 17), none, []⟩] false)
          .ret)
          .skip))))
      (.region [⟨some 18, .pur (mkO (.binOp .add 3 (.tmp 8) (.const (.int .i64 1)) 3) 3), none, []⟩,
        ⟨some 8, .mov (.tmp 18), none, []⟩] false)))))))
  (.seq (.region [⟨some 4, .mov (.const (.int .i64 (-1))), none, []⟩] false)
  .ret)))
def a113 : AFunc := ⟨19, c113, [.tmp 4]⟩

def c114 : ACode :=
  (.seq (.region [⟨some 3, .box 34 (.tmp 0), none, [1]⟩,
    ⟨some 4, .mov (.const (.bool false)), none, [0]⟩] false)
  (.seq (.region [⟨some 5, .load 1 false (.tmp 1), none, [1, 2]⟩,
    ⟨some 6, .load 17 true (.tmp 2), none, [0, 2]⟩,
    ⟨some 7, .load 4 true (.tmp 3), none, [0, 1]⟩,
    ⟨some 8, .call (.func 104) [(.tmp 5), (.tmp 6), (.tmp 7)], none, []⟩,
    ⟨some 9, .pur (mkO (.unOp .not 4 (.tmp 8)) 4), none, []⟩,
    ⟨some 4, .mov (.tmp 9), none, []⟩] false)
  .ret))
def a114 : AFunc := ⟨10, c114, [.tmp 4]⟩

end Go.Proofs.YtipmhbfneciojaaGreat
