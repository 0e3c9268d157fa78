/-
  Closed calls and what they come to (printed by memo2.py).
-/
import Derived.Test.YtliicocdhkcanaaGreatTb
import Derived.Test.YtliicocdhkcanaaGreatMmA
import Derived.KernelRfl
import Derived.Test.YtliicocdhkcanaaGreatEg
set_option linter.unusedSimpArgs false
set_option linter.unusedVariables false
set_option maxRecDepth 100000
namespace Go.Proofs.YtliicocdhkcanaaGreat
open Go Go.Ax
def bs (l : List Int) : List AV := l.map fun n => U8 n
def w0 : AV := .pv (bs [181, 10, 0, 0, 0, 0, 0, 0, 0, 0, 0, 0, 0, 0, 0, 0, 0, 0, 0, 0, 0, 0, 0, 0, 0, 0, 0, 0, 0, 0, 0, 0, 0, 0, 0, 0, 0, 0, 0, 0, 0, 0, 0, 0, 0, 0, 0, 0, 0, 0, 0, 0, 0, 0, 0, 0, 0, 0, 0, 0, 0, 156, 58, 49]) 64 none 1
def e0 : Nat × List AV × AV := (68, [.pv (bs [0, 0, 0, 0, 0, 0, 0, 0, 0, 0]) 10 none 1], .tup [w0, I64 0])
def w1 : AV := .pv (bs [181, 10, 0, 0, 0, 1, 0, 0, 0, 0, 0, 0, 0, 0, 0, 0, 0, 0, 0, 0, 0, 0, 0, 0, 0, 0, 0, 0, 0, 0, 0, 0, 0, 0, 0, 0, 0, 0, 0, 0, 0, 0, 0, 0, 0, 0, 0, 0, 0, 0, 0, 0, 0, 0, 0, 0, 0, 0, 0, 0, 0, 114, 208, 2]) 64 none 1
def e1 : Nat × List AV × AV := (68, [.pv (bs [0, 0, 0, 1, 0, 0, 0, 0, 0, 0]) 10 none 1], .tup [w1, I64 0])
def e2 : Nat × List AV × AV := (167, [w1], BL true)
def w2 : AV := .pv (bs [181, 12, 0, 0, 0, 1, 0, 0, 1, 0, 0, 0, 1, 0, 0, 0, 0, 0, 0, 0, 0, 0, 0, 0, 0, 0, 0, 0, 0, 0, 0, 0, 0, 0, 0, 0, 0, 0, 0, 0, 0, 0, 0, 0, 0, 0, 0, 0, 0, 0, 0, 0, 0, 0, 0, 0, 0, 0, 0, 0, 0, 116, 99, 189]) 64 none 1
def e3 : Nat × List AV × AV := (68, [.pv (bs [0, 0, 0, 1, 0, 0, 1, 0, 0, 0, 1, 0]) 12 none 1], .tup [w2, I64 0])
def w3 : AV := .agg [U8 1, .sc (.int .u32 0), U8 0, I64 0, I64 0, I64 2, .pv [I64 1, .pv (bs [1, 0]) 2 none 1] 1 none 2, I64 1, I64 0, BL false, U8 1, I64 0, NIL, NIL, NIL, BL false, I64 0, BL false, U8 0, I64 0, I64 0, I64 0, I64 0, I64 0, I64 0, I64 0, I64 0, I64 0]
def w4 : AV := .agg [U8 1, .sc (.int .u32 0), U8 0, I64 0, I64 1, I64 2, .pv [I64 1, .pv (bs [1, 0]) 2 none 1] 1 none 2, I64 1, I64 0, BL false, U8 1, I64 0, NIL, NIL, NIL, BL false, I64 0, BL false, U8 0, I64 0, I64 0, I64 0, I64 0, I64 0, I64 0, I64 0, I64 0, I64 0]
def w5 : AV := .pv [.pv (bs [181, 12, 0, 0, 0, 1, 0, 0, 1, 0, 0, 0, 1, 0, 0, 0, 0, 0, 0, 0, 0, 0, 0, 0, 0, 0, 0, 0, 0, 0, 0, 0, 0, 0, 0, 0, 0, 0, 0, 0, 0, 0, 0, 0, 0, 0, 0, 0, 0, 0, 0, 0, 0, 0, 0, 0, 0, 0, 0, 0, 0, 116, 99, 189]) 64 none 1] 1 none 1
def e4 : Nat × List AV × AV := (32, [w3, w1], .tup [w4, w5, I64 0, I64 0])
def w6 : AV := .pv (bs [181, 13, 0, 0, 0, 1, 0, 0, 1, 0, 0, 1, 6, 0, 0, 0, 0, 0, 0, 0, 0, 0, 0, 0, 0, 0, 0, 0, 0, 0, 0, 0, 0, 0, 0, 0, 0, 0, 0, 0, 0, 0, 0, 0, 0, 0, 0, 0, 0, 0, 0, 0, 0, 0, 0, 0, 0, 0, 0, 0, 0, 6, 168, 132]) 64 none 1
def e5 : Nat × List AV × AV := (68, [.pv (bs [0, 0, 0, 1, 0, 0, 1, 0, 0, 1, 6, 0, 0]) 13 none 1], .tup [w6, I64 0])
def e6 : Nat × List AV × AV := (167, [w6], BL true)
def w7 : AV := .pv (bs [181, 10, 0, 0, 0, 1, 0, 0, 0, 0, 0, 1, 0, 0, 0, 0, 0, 0, 0, 0, 0, 0, 0, 0, 0, 0, 0, 0, 0, 0, 0, 0, 0, 0, 0, 0, 0, 0, 0, 0, 0, 0, 0, 0, 0, 0, 0, 0, 0, 0, 0, 0, 0, 0, 0, 0, 0, 0, 0, 0, 0, 240, 62, 46]) 64 none 1
def e7 : Nat × List AV × AV := (68, [.pv (bs [0, 0, 0, 1, 0, 0, 0, 0, 0, 1]) 10 none 1], .tup [w7, I64 0])
def w8 : AV := .agg [U8 1, .sc (.int .u32 0), U8 0, I64 0, I64 1, I64 2, .pv [] 0 (some 0) 2, I64 2, I64 0, BL false, U8 2, I64 0, NIL, NIL, NIL, BL false, I64 0, BL false, U8 0, I64 0, I64 0, I64 0, I64 0, I64 0, I64 0, I64 0, I64 0, I64 0]
def w9 : AV := .pv [.pv (bs [181, 10, 0, 0, 0, 1, 0, 0, 0, 0, 0, 1, 0, 0, 0, 0, 0, 0, 0, 0, 0, 0, 0, 0, 0, 0, 0, 0, 0, 0, 0, 0, 0, 0, 0, 0, 0, 0, 0, 0, 0, 0, 0, 0, 0, 0, 0, 0, 0, 0, 0, 0, 0, 0, 0, 0, 0, 0, 0, 0, 0, 240, 62, 46]) 64 none 1] 1 none 1
def e8 : Nat × List AV × AV := (32, [w4, w6], .tup [w8, w9, I64 0, I64 0])
def e9 : Nat × List AV × AV := (11, [], .tup [w8, BL true])
def w10 : AV := .agg [U8 1, U8 1, .sc (.int .u32 0), U8 0, I64 1, U8 1, .sc (.int .u32 0), U8 0, I64 1, I64 2, U8 0, .sc (.int .u32 0), U8 0, I64 0, U8 0, .sc (.int .u32 0), .pv [I32 97, I32 98] 2 none 1]
def e10 : Nat × List AV × AV := (84, [w10], I64 0)
def w11 : AV := .pv [U8 1, .sc (.int .u32 0), U8 0, I64 1, U8 1, .sc (.int .u32 0), U8 0, I64 2] 2 none 4
def e11 : Nat × List AV × AV := (139, [.agg [U8 1, .sc (.int .u32 0), U8 0, I64 1, I64 2]], w11)
def w12 : AV := .agg [U8 1, .sc (.int .u32 0), U8 0, I64 0, I64 1, I64 2, .pv [] 0 (some 0) 2, I64 2, I64 0, BL false, U8 2, I64 0, NIL, NIL, .pv [U8 1, U8 1, .sc (.int .u32 0), U8 0, I64 1, U8 1, .sc (.int .u32 0), U8 0, I64 1, I64 2, U8 0, .sc (.int .u32 0), U8 0, I64 0, U8 0, .sc (.int .u32 0), .pv [I32 97, I32 98] 2 none 1] 1 none 17, BL false, I64 0, BL false, U8 0, I64 0, I64 0, I64 0, I64 0, I64 0, I64 0, I64 0, I64 0, I64 0]
def e12 : Nat × List AV × AV := (6, [w8, I64 0, .sc (.string ⟨#[97, 98]⟩)], .tup [w12, I64 0])
def w13 : AV := .pv [U8 1, U8 1, .sc (.int .u32 0), U8 0, I64 1, U8 1, .sc (.int .u32 0), U8 0, I64 1, I64 2, U8 0, .sc (.int .u32 0), U8 0, I64 0, U8 0, .sc (.int .u32 0), .pv [I32 97, I32 98] 2 none 1] 1 none 17
def e13 : Nat × List AV × AV := (60, [w13], I64 0)
def w14 : AV := .pv (bs [2, 1, 1, 0, 0, 0, 0, 0, 0, 0, 1, 1, 0, 0, 0, 0, 0, 0, 0, 0, 0, 0, 0, 1, 2, 0, 0, 0, 0, 0, 0, 0, 0, 0, 0, 0, 0, 0, 0, 0, 0, 97, 0, 0, 0, 98]) 46 none 1
def w15 : AV := .agg [U8 2, I64 0, I64 0, I64 0, I64 0, I64 0, U8 0, I64 0, I64 0, I64 0, I64 0, .pv [U8 1, U8 1, .sc (.int .u32 0), U8 0, I64 1, U8 1, .sc (.int .u32 0), U8 0, I64 1, I64 2, U8 0, .sc (.int .u32 0), U8 0, I64 0, U8 0, .sc (.int .u32 0), .pv [I32 97, I32 98] 2 none 1] 1 none 17]
def e14 : Nat × List AV × AV := (80, [w14], .tup [w15, I64 0])
def w16 : AV := .pv (bs [0, 0, 0, 1, 0, 0, 2, 0, 0, 1, 2, 1, 1, 0, 0, 0, 0, 0, 0, 0, 1, 1, 0, 0, 0, 0, 0, 0, 0, 0, 0, 0, 0, 1, 2, 0, 0, 0, 0, 0, 0, 0, 0, 0, 0, 0, 0, 0, 0, 0, 0, 97, 0, 0, 0, 98]) 56 none 1
def w17 : AV := .pv (bs [181, 56, 0, 0, 0, 1, 0, 0, 2, 0, 0, 1, 2, 1, 1, 0, 0, 0, 0, 0, 0, 0, 1, 1, 0, 0, 0, 0, 0, 0, 0, 0, 0, 0, 0, 1, 2, 0, 0, 0, 0, 0, 0, 0, 0, 0, 0, 0, 0, 0, 0, 0, 0, 97, 0, 0, 0, 98, 0, 0, 0, 144, 21, 133]) 64 none 1
def e15 : Nat × List AV × AV := (68, [w16], .tup [w17, I64 0])
def w18 : AV := .agg [U8 1, .sc (.int .u32 0), U8 0, I64 0, I64 1, I64 3, .pv [I64 2, .pv (bs [2, 1, 1, 0, 0, 0, 0, 0, 0, 0, 1, 1, 0, 0, 0, 0, 0, 0, 0, 0, 0, 0, 0, 1, 2, 0, 0, 0, 0, 0, 0, 0, 0, 0, 0, 0, 0, 0, 0, 0, 0, 97, 0, 0, 0, 98]) 46 none 1] 1 none 2, I64 2, I64 0, BL false, U8 2, I64 0, NIL, NIL, .pv [U8 1, U8 1, .sc (.int .u32 0), U8 0, I64 1, U8 1, .sc (.int .u32 0), U8 0, I64 1, I64 2, U8 0, .sc (.int .u32 0), U8 0, I64 0, U8 0, .sc (.int .u32 0), .pv [I32 97, I32 98] 2 none 1] 1 none 17, BL true, I64 1, BL false, U8 0, I64 0, I64 0, I64 0, I64 0, I64 0, I64 0, I64 0, I64 0, I64 0]
def w19 : AV := .pv [.pv (bs [181, 56, 0, 0, 0, 1, 0, 0, 2, 0, 0, 1, 2, 1, 1, 0, 0, 0, 0, 0, 0, 0, 1, 1, 0, 0, 0, 0, 0, 0, 0, 0, 0, 0, 0, 1, 2, 0, 0, 0, 0, 0, 0, 0, 0, 0, 0, 0, 0, 0, 0, 0, 0, 97, 0, 0, 0, 98, 0, 0, 0, 144, 21, 133]) 64 none 1] 1 none 1
def e16 : Nat × List AV × AV := (12, [w12], .tup [w18, w19, I64 0])
def w20 : AV := .pv [U8 1, .sc (.int .u32 0), U8 0, I64 1, I32 97, U8 1, .sc (.int .u32 0), U8 0, I64 2, I32 98] 2 none 5
def e17 : Nat × List AV × AV := (22, [w13, .agg [U8 1, .sc (.int .u32 0)]], .tup [w20, I64 0])
def w21 : AV := .pv (bs [0, 0, 0, 1, 0, 0, 2, 0, 0, 2, 7, 0, 0, 1, 0, 9]) 16 none 1
def w22 : AV := .pv (bs [181, 16, 0, 0, 0, 1, 0, 0, 2, 0, 0, 2, 7, 0, 0, 1, 0, 9, 0, 0, 0, 0, 0, 0, 0, 0, 0, 0, 0, 0, 0, 0, 0, 0, 0, 0, 0, 0, 0, 0, 0, 0, 0, 0, 0, 0, 0, 0, 0, 0, 0, 0, 0, 0, 0, 0, 0, 0, 0, 0, 0, 183, 54, 109]) 64 none 1
def e18 : Nat × List AV × AV := (68, [w21], .tup [w22, I64 0])
def e19 : Nat × List AV × AV := (167, [w22], BL true)
def w23 : AV := .pv (bs [181, 10, 0, 0, 0, 1, 0, 0, 0, 0, 0, 2, 0, 0, 0, 0, 0, 0, 0, 0, 0, 0, 0, 0, 0, 0, 0, 0, 0, 0, 0, 0, 0, 0, 0, 0, 0, 0, 0, 0, 0, 0, 0, 0, 0, 0, 0, 0, 0, 0, 0, 0, 0, 0, 0, 0, 0, 0, 0, 0, 0, 241, 64, 161]) 64 none 1
def e20 : Nat × List AV × AV := (68, [.pv (bs [0, 0, 0, 1, 0, 0, 0, 0, 0, 2]) 10 none 1], .tup [w23, I64 0])
def w24 : AV := .agg [U8 1, .sc (.int .u32 0), U8 0, I64 0, I64 1, I64 3, .pv [] 0 (some 0) 2, I64 3, I64 0, BL false, U8 2, I64 9, NIL, NIL, NIL, BL false, I64 1, BL false, U8 0, I64 0, I64 0, I64 0, I64 0, I64 0, I64 0, I64 0, I64 0, I64 0]
def w25 : AV := .pv [.pv (bs [181, 10, 0, 0, 0, 1, 0, 0, 0, 0, 0, 2, 0, 0, 0, 0, 0, 0, 0, 0, 0, 0, 0, 0, 0, 0, 0, 0, 0, 0, 0, 0, 0, 0, 0, 0, 0, 0, 0, 0, 0, 0, 0, 0, 0, 0, 0, 0, 0, 0, 0, 0, 0, 0, 0, 0, 0, 0, 0, 0, 0, 241, 64, 161]) 64 none 1] 1 none 1
def e21 : Nat × List AV × AV := (32, [w18, w22], .tup [w24, w25, I64 0, I64 0])
end Go.Proofs.YtliicocdhkcanaaGreat
