/-
  Closed calls and what they come to (printed by memo.py).
-/
import Derived.Test.YtemaoaopenpgcaaGreatTb
import Derived.Test.YtemaoaopenpgcaaGreatMmA
import Derived.KernelRfl
import Derived.Test.YtemaoaopenpgcaaGreatEg
set_option linter.unusedSimpArgs false
set_option linter.unusedVariables false
set_option maxRecDepth 100000
namespace Go.Proofs.YtemaoaopenpgcaaGreat
open Go Go.Ax
def bs (l : List Int) : List AV := l.map fun n => U8 n
def e0 : Nat × List AV × AV := (20, [], .agg [U8 1, .sc (.int .u32 0), U8 0])
def w0 : AV := .agg [U8 1, .sc (.int .u32 0), U8 0, I64 0, I64 0, I64 1, NIL, I64 1, I64 0, BL false, U8 0, I64 0, NIL, NIL, NIL, BL false, I64 0, BL false, U8 0, I64 0, I64 0, I64 0, I64 0, I64 0, I64 0, I64 0, I64 0, I64 0]
def e1 : Nat × List AV × AV := (19, [.agg [U8 1, .sc (.int .u32 0), U8 0], I64 0], .tup [w0, I64 0])
def w1 : AV := .pv (bs [181, 10, 0, 0, 0, 0, 0, 0, 0, 0, 0, 0, 0, 0, 0, 0, 0, 0, 0, 0, 0, 0, 0, 0, 0, 0, 0, 0, 0, 0, 0, 0, 0, 0, 0, 0, 0, 0, 0, 0, 0, 0, 0, 0, 0, 0, 0, 0, 0, 0, 0, 0, 0, 0, 0, 0, 0, 0, 0, 0, 0, 156, 58, 49]) 64 none 1
def e2 : Nat × List AV × AV := (46, [.pv (bs [0, 0, 0, 0, 0, 0, 0, 0, 0, 0]) 10 none 1], .tup [w1, I64 0])
def e3 : Nat × List AV × AV := (14, [.agg [I64 0, I64 0, I64 0, NIL]], .tup [w1, I64 0])
def w2 : AV := .pv [.pv (bs [181, 10, 0, 0, 0, 0, 0, 0, 0, 0, 0, 0, 0, 0, 0, 0, 0, 0, 0, 0, 0, 0, 0, 0, 0, 0, 0, 0, 0, 0, 0, 0, 0, 0, 0, 0, 0, 0, 0, 0, 0, 0, 0, 0, 0, 0, 0, 0, 0, 0, 0, 0, 0, 0, 0, 0, 0, 0, 0, 0, 0, 156, 58, 49]) 64 none 1] 1 none 1
def e4 : Nat × List AV × AV := (21, [w0], .tup [w0, w2, I64 0])
def e5 : Nat × List AV × AV := (125, [w1], BL true)
def e6 : Nat × List AV × AV := (22, [w1], .tup [.agg [I64 0, I64 0, I64 0, .pv [] 0 (some 0) 1], I64 0])
def w3 : AV := .agg [U8 0, .sc (.int .u32 0), U8 0, I64 0, I64 0, I64 0, NIL, I64 0, I64 0, BL false, U8 0, I64 0, NIL, NIL, NIL, BL false, I64 0, BL false, U8 0, I64 0, I64 0, I64 0, I64 0, I64 0, I64 0, I64 0, I64 0, I64 0]
def e7 : Nat × List AV × AV := (23, [w0], .tup [w3, I64 6])
def e8 : Nat × List AV × AV := (19, [.agg [U8 1, .sc (.int .u32 0), U8 0], I64 256], .tup [w3, I64 8])
def w4 : AV := .agg [U8 1, I64 0, I64 0, I64 0, I64 0, I64 0, U8 0, I64 0, I64 0, I64 0, I64 0, NIL]
def e9 : Nat × List AV × AV := (16, [.pv (bs [1, 0]) 2 none 1], .tup [w4, I64 0])
def e10 : Nat × List AV × AV := (65, [w4], .tup [.pv (bs [1, 0]) 2 none 1, I64 0])
def w5 : AV := .agg [U8 1, .sc (.int .u32 0), U8 0, I64 0, I64 0, I64 2, .pv [I64 1, .pv (bs [1, 0]) 2 none 1] 1 none 2, I64 1, I64 0, BL false, U8 1, I64 0, NIL, NIL, NIL, BL false, I64 0, BL false, U8 0, I64 0, I64 0, I64 0, I64 0, I64 0, I64 0, I64 0, I64 0, I64 0]
def e11 : Nat × List AV × AV := (25, [w0], .tup [w5, I64 0])
def e12 : Nat × List AV × AV := (21, [w5], .tup [w5, w2, I64 0])
def w6 : AV := .pv (bs [181, 10, 0, 0, 0, 1, 0, 0, 0, 0, 0, 0, 0, 0, 0, 0, 0, 0, 0, 0, 0, 0, 0, 0, 0, 0, 0, 0, 0, 0, 0, 0, 0, 0, 0, 0, 0, 0, 0, 0, 0, 0, 0, 0, 0, 0, 0, 0, 0, 0, 0, 0, 0, 0, 0, 0, 0, 0, 0, 0, 0, 114, 208, 2]) 64 none 1
def e13 : Nat × List AV × AV := (46, [.pv (bs [0, 0, 0, 1, 0, 0, 0, 0, 0, 0]) 10 none 1], .tup [w6, I64 0])
def e14 : Nat × List AV × AV := (14, [.agg [I64 1, I64 0, I64 0, NIL]], .tup [w6, I64 0])
def e15 : Nat × List AV × AV := (125, [w6], BL true)
def e16 : Nat × List AV × AV := (22, [w6], .tup [.agg [I64 1, I64 0, I64 0, .pv [] 0 (some 0) 1], I64 0])
def w7 : AV := .pv (bs [181, 12, 0, 0, 0, 1, 0, 0, 1, 0, 0, 0, 1, 0, 0, 0, 0, 0, 0, 0, 0, 0, 0, 0, 0, 0, 0, 0, 0, 0, 0, 0, 0, 0, 0, 0, 0, 0, 0, 0, 0, 0, 0, 0, 0, 0, 0, 0, 0, 0, 0, 0, 0, 0, 0, 0, 0, 0, 0, 0, 0, 116, 99, 189]) 64 none 1
def e17 : Nat × List AV × AV := (46, [.pv (bs [0, 0, 0, 1, 0, 0, 1, 0, 0, 0, 1, 0]) 12 none 1], .tup [w7, I64 0])
def e18 : Nat × List AV × AV := (14, [.agg [I64 1, I64 1, I64 0, .pv (bs [1, 0]) 2 none 1]], .tup [w7, I64 0])
def w8 : AV := .agg [U8 1, .sc (.int .u32 0), U8 0, I64 0, I64 1, I64 2, .pv [I64 1, .pv (bs [1, 0]) 2 none 1] 1 none 2, I64 1, I64 0, BL false, U8 1, I64 0, NIL, NIL, NIL, BL false, I64 0, BL false, U8 0, I64 0, I64 0, I64 0, I64 0, I64 0, I64 0, I64 0, I64 0, I64 0]
def w9 : AV := .pv [.pv (bs [181, 12, 0, 0, 0, 1, 0, 0, 1, 0, 0, 0, 1, 0, 0, 0, 0, 0, 0, 0, 0, 0, 0, 0, 0, 0, 0, 0, 0, 0, 0, 0, 0, 0, 0, 0, 0, 0, 0, 0, 0, 0, 0, 0, 0, 0, 0, 0, 0, 0, 0, 0, 0, 0, 0, 0, 0, 0, 0, 0, 0, 116, 99, 189]) 64 none 1] 1 none 1
def e19 : Nat × List AV × AV := (15, [w5, w6], .tup [w8, w9, I64 0, I64 0])
def w10 : AV := .agg [U8 6, I64 0, I64 0, I64 0, I64 0, I64 0, U8 0, I64 0, I64 0, I64 0, I64 0, NIL]
def e20 : Nat × List AV × AV := (16, [.pv (bs [6, 0, 0]) 3 none 1], .tup [w10, I64 0])
def e21 : Nat × List AV × AV := (65, [w10], .tup [.pv (bs [6, 0, 0]) 3 none 1, I64 0])
def w11 : AV := .pv (bs [181, 13, 0, 0, 0, 1, 0, 0, 1, 0, 0, 1, 6, 0, 0, 0, 0, 0, 0, 0, 0, 0, 0, 0, 0, 0, 0, 0, 0, 0, 0, 0, 0, 0, 0, 0, 0, 0, 0, 0, 0, 0, 0, 0, 0, 0, 0, 0, 0, 0, 0, 0, 0, 0, 0, 0, 0, 0, 0, 0, 0, 6, 168, 132]) 64 none 1
def e22 : Nat × List AV × AV := (46, [.pv (bs [0, 0, 0, 1, 0, 0, 1, 0, 0, 1, 6, 0, 0]) 13 none 1], .tup [w11, I64 0])
def e23 : Nat × List AV × AV := (14, [.agg [I64 1, I64 1, I64 1, .pv (bs [6, 0, 0]) 3 none 1]], .tup [w11, I64 0])
def e24 : Nat × List AV × AV := (125, [w11], BL true)
def e25 : Nat × List AV × AV := (22, [w11], .tup [.agg [I64 1, I64 1, I64 1, .pv (bs [6, 0, 0]) 3 none 1], I64 0])
def w12 : AV := .pv (bs [181, 10, 0, 0, 0, 1, 0, 0, 0, 0, 0, 1, 0, 0, 0, 0, 0, 0, 0, 0, 0, 0, 0, 0, 0, 0, 0, 0, 0, 0, 0, 0, 0, 0, 0, 0, 0, 0, 0, 0, 0, 0, 0, 0, 0, 0, 0, 0, 0, 0, 0, 0, 0, 0, 0, 0, 0, 0, 0, 0, 0, 240, 62, 46]) 64 none 1
def e26 : Nat × List AV × AV := (46, [.pv (bs [0, 0, 0, 1, 0, 0, 0, 0, 0, 1]) 10 none 1], .tup [w12, I64 0])
def e27 : Nat × List AV × AV := (14, [.agg [I64 1, I64 0, I64 1, NIL]], .tup [w12, I64 0])
def w13 : AV := .agg [U8 1, .sc (.int .u32 0), U8 0, I64 0, I64 1, I64 2, .pv [] 0 (some 0) 2, I64 2, I64 0, BL false, U8 2, I64 0, NIL, NIL, NIL, BL false, I64 0, BL false, U8 0, I64 0, I64 0, I64 0, I64 0, I64 0, I64 0, I64 0, I64 0, I64 0]
def w14 : AV := .pv [.pv (bs [181, 10, 0, 0, 0, 1, 0, 0, 0, 0, 0, 1, 0, 0, 0, 0, 0, 0, 0, 0, 0, 0, 0, 0, 0, 0, 0, 0, 0, 0, 0, 0, 0, 0, 0, 0, 0, 0, 0, 0, 0, 0, 0, 0, 0, 0, 0, 0, 0, 0, 0, 0, 0, 0, 0, 0, 0, 0, 0, 0, 0, 240, 62, 46]) 64 none 1] 1 none 1
def e28 : Nat × List AV × AV := (15, [w8, w11], .tup [w13, w14, I64 0, I64 0])
def e29 : Nat × List AV × AV := (27, [w8, I64 1, w10], .tup [w13, BL true])
def e30 : Nat × List AV × AV := (24, [], .tup [w13, BL true])
def e31 : Nat × List AV × AV := (25, [w13], .tup [w3, I64 6])
def e32 : Nat × List AV × AV := (26, [w13, U8 3], .tup [w3, I64 2])
def w15 : AV := .agg [U8 1, .sc (.int .u32 0), U8 0, I64 0, I64 1, I64 2, .pv [] 0 (some 0) 2, I64 2, I64 0, BL false, U8 2, I64 0, NIL, NIL, .pv [U8 1, U8 1, .sc (.int .u32 0), U8 0, I64 1, U8 1, .sc (.int .u32 0), U8 0, I64 1, I64 2, U8 0, .sc (.int .u32 0), U8 0, I64 0, U8 0, .sc (.int .u32 0), .pv [I32 97, I32 98] 2 none 1] 1 none 17, BL false, I64 0, BL false, U8 0, I64 0, I64 0, I64 0, I64 0, I64 0, I64 0, I64 0, I64 0, I64 0]
def e33 : Nat × List AV × AV := (9, [w13, I64 0, .sc (.string ⟨#[97, 98]⟩)], .tup [w15, I64 0])
def w16 : AV := .pv (bs [2, 1, 1, 0, 0, 0, 0, 0, 0, 0, 1, 1, 0, 0, 0, 0, 0, 0, 0, 0, 0, 0, 0, 1, 2, 0, 0, 0, 0, 0, 0, 0, 0, 0, 0, 0, 0, 0, 0, 0, 0, 97, 0, 0, 0, 98]) 46 none 1
def w17 : AV := .agg [U8 2, I64 0, I64 0, I64 0, I64 0, I64 0, U8 0, I64 0, I64 0, I64 0, I64 0, .pv [U8 1, U8 1, .sc (.int .u32 0), U8 0, I64 1, U8 1, .sc (.int .u32 0), U8 0, I64 1, I64 2, U8 0, .sc (.int .u32 0), U8 0, I64 0, U8 0, .sc (.int .u32 0), .pv [I32 97, I32 98] 2 none 1] 1 none 17]
def e34 : Nat × List AV × AV := (16, [w16], .tup [w17, I64 0])
def w18 : AV := .agg [U8 2, I64 0, I64 0, I64 0, I64 0, I64 0, U8 0, I64 0, I64 0, I64 0, I64 0, .pv [U8 1, U8 1, .sc (.int .u32 0), U8 0, I64 1, U8 1, .sc (.int .u32 0), U8 0, I64 1, I64 2, U8 0, .sc (.int .u32 0), U8 0, I64 0, U8 0, .sc (.int .u32 0), .pv [I32 97, I32 98] 2 none 1] 1 (some 1) 17]
def e35 : Nat × List AV × AV := (65, [w18], .tup [w16, I64 0])
def w19 : AV := .pv (bs [0, 0, 0, 1, 0, 0, 2, 0, 0, 1, 2, 1, 1, 0, 0, 0, 0, 0, 0, 0, 1, 1, 0, 0, 0, 0, 0, 0, 0, 0, 0, 0, 0, 1, 2, 0, 0, 0, 0, 0, 0, 0, 0, 0, 0, 0, 0, 0, 0, 0, 0, 97, 0, 0, 0, 98]) 56 none 1
def w20 : AV := .pv (bs [181, 56, 0, 0, 0, 1, 0, 0, 2, 0, 0, 1, 2, 1, 1, 0, 0, 0, 0, 0, 0, 0, 1, 1, 0, 0, 0, 0, 0, 0, 0, 0, 0, 0, 0, 1, 2, 0, 0, 0, 0, 0, 0, 0, 0, 0, 0, 0, 0, 0, 0, 0, 0, 97, 0, 0, 0, 98, 0, 0, 0, 144, 21, 133]) 64 none 1
def e36 : Nat × List AV × AV := (46, [w19], .tup [w20, I64 0])
def w21 : AV := .agg [I64 1, I64 2, I64 1, .pv (bs [2, 1, 1, 0, 0, 0, 0, 0, 0, 0, 1, 1, 0, 0, 0, 0, 0, 0, 0, 0, 0, 0, 0, 1, 2, 0, 0, 0, 0, 0, 0, 0, 0, 0, 0, 0, 0, 0, 0, 0, 0, 97, 0, 0, 0, 98]) 46 none 1]
def e37 : Nat × List AV × AV := (14, [w21], .tup [w20, I64 0])
def w22 : AV := .agg [U8 1, .sc (.int .u32 0), U8 0, I64 0, I64 1, I64 3, .pv [I64 2, .pv (bs [2, 1, 1, 0, 0, 0, 0, 0, 0, 0, 1, 1, 0, 0, 0, 0, 0, 0, 0, 0, 0, 0, 0, 1, 2, 0, 0, 0, 0, 0, 0, 0, 0, 0, 0, 0, 0, 0, 0, 0, 0, 97, 0, 0, 0, 98]) 46 none 1] 1 none 2, I64 2, I64 0, BL false, U8 2, I64 0, NIL, NIL, .pv [U8 1, U8 1, .sc (.int .u32 0), U8 0, I64 1, U8 1, .sc (.int .u32 0), U8 0, I64 1, I64 2, U8 0, .sc (.int .u32 0), U8 0, I64 0, U8 0, .sc (.int .u32 0), .pv [I32 97, I32 98] 2 none 1] 1 none 17, BL true, I64 1, BL false, U8 0, I64 0, I64 0, I64 0, I64 0, I64 0, I64 0, I64 0, I64 0, I64 0]
def w23 : AV := .pv [.pv (bs [181, 56, 0, 0, 0, 1, 0, 0, 2, 0, 0, 1, 2, 1, 1, 0, 0, 0, 0, 0, 0, 0, 1, 1, 0, 0, 0, 0, 0, 0, 0, 0, 0, 0, 0, 1, 2, 0, 0, 0, 0, 0, 0, 0, 0, 0, 0, 0, 0, 0, 0, 0, 0, 97, 0, 0, 0, 98, 0, 0, 0, 144, 21, 133]) 64 none 1] 1 none 1
def e38 : Nat × List AV × AV := (21, [w15], .tup [w22, w23, I64 0])
def w24 : AV := .agg [U8 7, I64 0, I64 1, I64 0, I64 0, I64 0, U8 0, I64 0, I64 0, I64 0, I64 0, NIL]
def e39 : Nat × List AV × AV := (16, [.pv (bs [7, 0, 0, 1, 0, 0]) 6 none 1], .tup [w24, I64 0])
def e40 : Nat × List AV × AV := (65, [w24], .tup [.pv (bs [7, 0, 0, 1, 0, 0]) 6 none 1, I64 0])
def w25 : AV := .pv (bs [0, 0, 0, 1, 0, 0, 2, 0, 0, 2, 7, 0, 0, 1, 0, 0]) 16 none 1
def w26 : AV := .pv (bs [181, 16, 0, 0, 0, 1, 0, 0, 2, 0, 0, 2, 7, 0, 0, 1, 0, 0, 0, 0, 0, 0, 0, 0, 0, 0, 0, 0, 0, 0, 0, 0, 0, 0, 0, 0, 0, 0, 0, 0, 0, 0, 0, 0, 0, 0, 0, 0, 0, 0, 0, 0, 0, 0, 0, 0, 0, 0, 0, 0, 0, 43, 248, 39]) 64 none 1
def e41 : Nat × List AV × AV := (46, [w25], .tup [w26, I64 0])
def w27 : AV := .agg [I64 1, I64 2, I64 2, .pv (bs [7, 0, 0, 1, 0, 0]) 6 none 1]
def e42 : Nat × List AV × AV := (14, [w27], .tup [w26, I64 0])
def e43 : Nat × List AV × AV := (125, [w26], BL true)
def e44 : Nat × List AV × AV := (22, [w26], .tup [w27, I64 0])
def w28 : AV := .pv (bs [181, 10, 0, 0, 0, 1, 0, 0, 0, 0, 0, 2, 0, 0, 0, 0, 0, 0, 0, 0, 0, 0, 0, 0, 0, 0, 0, 0, 0, 0, 0, 0, 0, 0, 0, 0, 0, 0, 0, 0, 0, 0, 0, 0, 0, 0, 0, 0, 0, 0, 0, 0, 0, 0, 0, 0, 0, 0, 0, 0, 0, 241, 64, 161]) 64 none 1
def e45 : Nat × List AV × AV := (46, [.pv (bs [0, 0, 0, 1, 0, 0, 0, 0, 0, 2]) 10 none 1], .tup [w28, I64 0])
def e46 : Nat × List AV × AV := (14, [.agg [I64 1, I64 0, I64 2, NIL]], .tup [w28, I64 0])
def w29 : AV := .agg [U8 1, .sc (.int .u32 0), U8 0, I64 0, I64 1, I64 3, .pv [] 0 (some 0) 2, I64 3, I64 0, BL false, U8 2, I64 0, NIL, .pv [U8 1, U8 1, .sc (.int .u32 0), U8 0, I64 1, U8 1, .sc (.int .u32 0), U8 0, I64 1, I64 2, U8 0, .sc (.int .u32 0), U8 0, I64 0, U8 0, .sc (.int .u32 0), .pv [I32 97, I32 98] 2 none 1] 1 none 17, .pv [] 0 none 17, BL false, I64 1, BL false, U8 0, I64 0, I64 0, I64 0, I64 0, I64 0, I64 0, I64 0, I64 0, I64 0]
def w30 : AV := .pv [.pv (bs [181, 10, 0, 0, 0, 1, 0, 0, 0, 0, 0, 2, 0, 0, 0, 0, 0, 0, 0, 0, 0, 0, 0, 0, 0, 0, 0, 0, 0, 0, 0, 0, 0, 0, 0, 0, 0, 0, 0, 0, 0, 0, 0, 0, 0, 0, 0, 0, 0, 0, 0, 0, 0, 0, 0, 0, 0, 0, 0, 0, 0, 241, 64, 161]) 64 none 1] 1 none 1
def e47 : Nat × List AV × AV := (15, [w22, w26], .tup [w29, w30, I64 0, I64 0])
def e48 : Nat × List AV × AV := (27, [w22, I64 2, w24], .tup [w29, BL true])
def w31 : AV := .agg [U8 7, I64 0, I64 1, I64 230, I64 0, I64 0, U8 0, I64 0, I64 0, I64 0, I64 0, NIL]
def e49 : Nat × List AV × AV := (16, [.pv (bs [7, 0, 0, 1, 0, 230]) 6 none 1], .tup [w31, I64 0])
def e50 : Nat × List AV × AV := (65, [w31], .tup [.pv (bs [7, 0, 0, 1, 0, 230]) 6 none 1, I64 0])
def w32 : AV := .pv (bs [0, 0, 0, 1, 0, 0, 2, 0, 0, 2, 7, 0, 0, 1, 0, 230]) 16 none 1
def w33 : AV := .pv (bs [181, 16, 0, 0, 0, 1, 0, 0, 2, 0, 0, 2, 7, 0, 0, 1, 0, 230, 0, 0, 0, 0, 0, 0, 0, 0, 0, 0, 0, 0, 0, 0, 0, 0, 0, 0, 0, 0, 0, 0, 0, 0, 0, 0, 0, 0, 0, 0, 0, 0, 0, 0, 0, 0, 0, 0, 0, 0, 0, 0, 0, 144, 49, 1]) 64 none 1
def e51 : Nat × List AV × AV := (46, [w32], .tup [w33, I64 0])
def w34 : AV := .agg [I64 1, I64 2, I64 2, .pv (bs [7, 0, 0, 1, 0, 230]) 6 none 1]
def e52 : Nat × List AV × AV := (14, [w34], .tup [w33, I64 0])
def e53 : Nat × List AV × AV := (125, [w33], BL true)
def e54 : Nat × List AV × AV := (22, [w33], .tup [w34, I64 0])
def w35 : AV := .agg [U8 1, .sc (.int .u32 0), U8 0, I64 0, I64 1, I64 3, .pv [] 0 (some 0) 2, I64 3, I64 0, BL false, U8 0, I64 230, NIL, NIL, .pv [U8 1, U8 1, .sc (.int .u32 0), U8 0, I64 1, U8 1, .sc (.int .u32 0), U8 0, I64 1, I64 2, U8 0, .sc (.int .u32 0), U8 0, I64 0, U8 0, .sc (.int .u32 0), .pv [I32 97, I32 98] 2 none 1] 1 none 17, BL false, I64 0, BL false, U8 0, I64 0, I64 0, I64 0, I64 0, I64 0, I64 0, I64 0, I64 0, I64 0]
def e55 : Nat × List AV × AV := (15, [w22, w33], .tup [w35, w30, I64 0, I64 0])
def e56 : Nat × List AV × AV := (27, [w22, I64 2, w31], .tup [w35, BL true])
def w36 : AV := .pv [U8 1, .sc (.int .u32 0), U8 0, I64 1, I32 97, U8 1, .sc (.int .u32 0), U8 0, I64 2, I32 98] 2 none 5
def e57 : Nat × List AV × AV := (10, [w22], .tup [w36, NIL, I64 0])
def e58 : Nat × List AV × AV := (66, [w36], .sc (.string ⟨#[97, 98]⟩))
def e59 : Nat × List AV × AV := (66, [NIL], .sc (.string ⟨#[]⟩))
def e60 : Nat × List AV × AV := (28, [w22, .sc (.string ⟨#[97, 98]⟩), .sc (.string ⟨#[]⟩)], BL true)
def w37 : AV := .agg [U8 7, I64 0, I64 1, I64 9, I64 0, I64 0, U8 0, I64 0, I64 0, I64 0, I64 0, NIL]
def e61 : Nat × List AV × AV := (16, [.pv (bs [7, 0, 0, 1, 0, 9]) 6 none 1], .tup [w37, I64 0])
def e62 : Nat × List AV × AV := (65, [w37], .tup [.pv (bs [7, 0, 0, 1, 0, 9]) 6 none 1, I64 0])
def w38 : AV := .pv (bs [0, 0, 0, 1, 0, 0, 2, 0, 0, 2, 7, 0, 0, 1, 0, 9]) 16 none 1
def w39 : AV := .pv (bs [181, 16, 0, 0, 0, 1, 0, 0, 2, 0, 0, 2, 7, 0, 0, 1, 0, 9, 0, 0, 0, 0, 0, 0, 0, 0, 0, 0, 0, 0, 0, 0, 0, 0, 0, 0, 0, 0, 0, 0, 0, 0, 0, 0, 0, 0, 0, 0, 0, 0, 0, 0, 0, 0, 0, 0, 0, 0, 0, 0, 0, 183, 54, 109]) 64 none 1
def e63 : Nat × List AV × AV := (46, [w38], .tup [w39, I64 0])
def w40 : AV := .agg [I64 1, I64 2, I64 2, .pv (bs [7, 0, 0, 1, 0, 9]) 6 none 1]
def e64 : Nat × List AV × AV := (14, [w40], .tup [w39, I64 0])
def e65 : Nat × List AV × AV := (125, [w39], BL true)
def e66 : Nat × List AV × AV := (22, [w39], .tup [w40, I64 0])
def w41 : AV := .agg [U8 1, .sc (.int .u32 0), U8 0, I64 0, I64 1, I64 3, .pv [] 0 (some 0) 2, I64 3, I64 0, BL false, U8 2, I64 9, NIL, NIL, NIL, BL false, I64 1, BL false, U8 0, I64 0, I64 0, I64 0, I64 0, I64 0, I64 0, I64 0, I64 0, I64 0]
def e67 : Nat × List AV × AV := (15, [w22, w39], .tup [w41, w30, I64 0, I64 0])
def e68 : Nat × List AV × AV := (27, [w22, I64 2, w37], .tup [w41, BL true])
def e69 : Nat × List AV × AV := (10, [w41], .tup [NIL, NIL, I64 0])
def e70 : Nat × List AV × AV := (28, [w41, .sc (.string ⟨#[]⟩), .sc (.string ⟨#[]⟩)], BL true)
def e71 : Nat × List AV × AV := (7, [], BL true)
def e72 : Nat × List AV × AV := (10, [w29], .tup [w36, NIL, I64 0])
def e73 : Nat × List AV × AV := (28, [w29, .sc (.string ⟨#[97, 98]⟩), .sc (.string ⟨#[]⟩)], BL true)
end Go.Proofs.YtemaoaopenpgcaaGreat
