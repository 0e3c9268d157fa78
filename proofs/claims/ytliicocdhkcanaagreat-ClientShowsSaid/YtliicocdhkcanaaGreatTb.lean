/-
 The program's functions, as the executor has them: the table.
-/
import Derived.Test.YtliicocdhkcanaaGreatRows
import Derived.Test.YtliicocdhkcanaaGreatEg
import Derived.Test.YtliicocdhkcanaaGreatRzX
set_option linter.unusedSimpArgs false
set_option linter.unusedVariables false
set_option maxRecDepth 100000
namespace Go.Ax.E
open Go Go.Ax
def t (n:Nat):Operand:=.tmp n
def o (d:Nat)(x:AOp):AOper:=⟨some d,x,none,[]⟩
def u (d:Nat)(x:AOp)(l:List Nat):AOper:=⟨some d,x,none,l⟩
def p (d:Nat)(x:AOp)(g:Nat)(l:List Nat):AOper:=⟨some d,x,some (g,true),l⟩
def q (d:Nat)(x:AOp)(g:Nat)(l:List Nat):AOper:=⟨some d,x,some (g,false),l⟩
def O (x:AOp):AOper:=⟨none,x,none,[]⟩
def U (x:AOp)(l:List Nat):AOper:=⟨none,x,none,l⟩
def S (a b:ACode):ACode:=.seq a b
def R (l:List AOper):ACode:=.region l false
def D (l:List AOper):ACode:=.region l true
def C (n:Nat)(a b:ACode):ACode:=.cond (.tmp n) a b
def K:ACode:=.skip
def N:ACode:=.ret
def X (n:Nat):ACode:=.exit n
def B (n:Nat)(a:ACode):ACode:=.block n a
def L (a:ACode):ACode:=.loop a
def m_ (a:Nat):AOp:=.mov (.tmp a)
def m (D:Nat)(a:Nat):AOper:=⟨some D,.mov (.tmp a),none,[]⟩
def m' (D:Nat)(a:Nat)(U:List Nat):AOper:=⟨some D,.mov (.tmp a),none,U⟩
def n_ (k:Int):AOp:=.mov (.const (.int .i64 k))
def n (D:Nat)(k:Int):AOper:=⟨some D,.mov (.const (.int .i64 k)),none,[]⟩
def n' (D:Nat)(k:Int)(U:List Nat):AOper:=⟨some D,.mov (.const (.int .i64 k)),none,U⟩
def bt_:AOp:=.mov (.const (.bool true))
def bt (D:Nat):AOper:=⟨some D,.mov (.const (.bool true)),none,[]⟩
def bt' (D:Nat)(U:List Nat):AOper:=⟨some D,.mov (.const (.bool true)),none,U⟩
def bf_:AOp:=.mov (.const (.bool false))
def bf (D:Nat):AOper:=⟨some D,.mov (.const (.bool false)),none,[]⟩
def bf' (D:Nat)(U:List Nat):AOper:=⟨some D,.mov (.const (.bool false)),none,U⟩
def z_:AOp:=.mov (.const (.slice none 0 0))
def z (D:Nat):AOper:=⟨some D,.mov (.const (.slice none 0 0)),none,[]⟩
def z' (D:Nat)(U:List Nat):AOper:=⟨some D,.mov (.const (.slice none 0 0)),none,U⟩
def l_ (k a:Nat):AOp:=.load k true (.tmp a)
def l (D:Nat)(k a:Nat):AOper:=⟨some D,.load k true (.tmp a),none,[]⟩
def l' (D:Nat)(k a:Nat)(U:List Nat):AOper:=⟨some D,.load k true (.tmp a),none,U⟩
def f_ (k a:Nat):AOp:=.load k false (.tmp a)
def f (D:Nat)(k a:Nat):AOper:=⟨some D,.load k false (.tmp a),none,[]⟩
def f' (D:Nat)(k a:Nat)(U:List Nat):AOper:=⟨some D,.load k false (.tmp a),none,U⟩
def d_ (k a:Nat):AOp:=.fad k (.tmp a)
def d (D:Nat)(k a:Nat):AOper:=⟨some D,.fad k (.tmp a),none,[]⟩
def d' (D:Nat)(k a:Nat)(U:List Nat):AOper:=⟨some D,.fad k (.tmp a),none,U⟩
def e_ (a i:Nat):AOp:=.ext (.tmp a) i
def e (D:Nat)(a i:Nat):AOper:=⟨some D,.ext (.tmp a) i,none,[]⟩
def e' (D:Nat)(a i:Nat)(U:List Nat):AOper:=⟨some D,.ext (.tmp a) i,none,U⟩
def k_ (a:Nat):AOp:=.len (.tmp a)
def k (D:Nat)(a:Nat):AOper:=⟨some D,.len (.tmp a),none,[]⟩
def k' (D:Nat)(a:Nat)(U:List Nat):AOper:=⟨some D,.len (.tmp a),none,U⟩
def b_ (k a:Nat):AOp:=.box k (.tmp a)
def b (D:Nat)(k a:Nat):AOper:=⟨some D,.box k (.tmp a),none,[]⟩
def b' (D:Nat)(k a:Nat)(U:List Nat):AOper:=⟨some D,.box k (.tmp a),none,U⟩
def i_ (k a c:Nat):AOp:=.iad k (.tmp a) (.tmp c)
def i (D:Nat)(k a c:Nat):AOper:=⟨some D,.iad k (.tmp a) (.tmp c),none,[]⟩
def i' (D:Nat)(k a c:Nat)(U:List Nat):AOper:=⟨some D,.iad k (.tmp a) (.tmp c),none,U⟩
def ca_ (f a:Nat):AOp:=.call (.func f) [.tmp a]
def ca (D:Nat)(f a:Nat):AOper:=⟨some D,.call (.func f) [.tmp a],none,[]⟩
def ca' (D:Nat)(f a:Nat)(U:List Nat):AOper:=⟨some D,.call (.func f) [.tmp a],none,U⟩
def cb_ (f a b:Nat):AOp:=.call (.func f) [.tmp a,.tmp b]
def cb (D:Nat)(f a b:Nat):AOper:=⟨some D,.call (.func f) [.tmp a,.tmp b],none,[]⟩
def cb' (D:Nat)(f a b:Nat)(U:List Nat):AOper:=⟨some D,.call (.func f) [.tmp a,.tmp b],none,U⟩
def cd_ (f a b c:Nat):AOp:=.call (.func f) [.tmp a,.tmp b,.tmp c]
def cd (D:Nat)(f a b c:Nat):AOper:=⟨some D,.call (.func f) [.tmp a,.tmp b,.tmp c],none,[]⟩
def cd' (D:Nat)(f a b c:Nat)(U:List Nat):AOper:=⟨some D,.call (.func f) [.tmp a,.tmp b,.tmp c],none,U⟩
def s_ (k a c:Nat):AOp:=.store k (.tmp a) (.tmp c)
def s (k a c:Nat):AOper:=⟨none,.store k (.tmp a) (.tmp c),none,[]⟩
def s' (k a c:Nat)(U:List Nat):AOper:=⟨none,.store k (.tmp a) (.tmp c),none,U⟩
def x_ (a c:Nat):AOp:=.pick (.tmp a) (.tmp c) (.const (.bool false))
def x (D:Nat)(a c:Nat):AOper:=⟨some D,.pick (.tmp a) (.tmp c) (.const (.bool false)),none,[]⟩
def x' (D:Nat)(a c:Nat)(U:List Nat):AOper:=⟨some D,.pick (.tmp a) (.tmp c) (.const (.bool false)),none,U⟩
def y_ (a c:Nat):AOp:=.pick (.tmp a) (.const (.bool true)) (.tmp c)
def y (D:Nat)(a c:Nat):AOper:=⟨some D,.pick (.tmp a) (.const (.bool true)) (.tmp c),none,[]⟩
def y' (D:Nat)(a c:Nat)(U:List Nat):AOper:=⟨some D,.pick (.tmp a) (.const (.bool true)) (.tmp c),none,U⟩
def v_ (o:BinOp)(q a c r s:Nat):AOp:=.pur (mkO (.binOp o q (.tmp a) (.tmp c) r) s)
def v (D:Nat)(o:BinOp)(q a c r s:Nat):AOper:=⟨some D,.pur (mkO (.binOp o q (.tmp a) (.tmp c) r) s),none,[]⟩
def v' (D:Nat)(o:BinOp)(q a c r s:Nat)(U:List Nat):AOper:=⟨some D,.pur (mkO (.binOp o q (.tmp a) (.tmp c) r) s),none,U⟩
def w_ (o:BinOp)(q a:Nat)(k:Int)(r s:Nat):AOp:=.pur (mkO (.binOp o q (.tmp a) (.const (.int .i64 k)) r) s)
def w (D:Nat)(o:BinOp)(q a:Nat)(k:Int)(r s:Nat):AOper:=⟨some D,.pur (mkO (.binOp o q (.tmp a) (.const (.int .i64 k)) r) s),none,[]⟩
def w' (D:Nat)(o:BinOp)(q a:Nat)(k:Int)(r s:Nat)(U:List Nat):AOper:=⟨some D,.pur (mkO (.binOp o q (.tmp a) (.const (.int .i64 k)) r) s),none,U⟩
def j_ (q a s:Nat):AOp:=.pur (mkO (.unOp .not q (.tmp a)) s)
def j (D:Nat)(q a s:Nat):AOper:=⟨some D,.pur (mkO (.unOp .not q (.tmp a)) s),none,[]⟩
def j' (D:Nat)(q a s:Nat)(U:List Nat):AOper:=⟨some D,.pur (mkO (.unOp .not q (.tmp a)) s),none,U⟩
def Z0:Value:=.agg #[(.int .i64 0),(.int .i64 0),(.int .i64 0),(.slice none 0 0)]
def Z1:Value:=.agg #[(.int .i64 0),(.int .i64 0),(.int .i64 0)]
def Z2:Value:=.agg #[(.int .i64 0),(.int .i64 0),(.slice none 0 0),(.int .i64 0),(.int .i64 0),(.bool false)]
def Z3:Value:=.agg #[(.int .i64 0),(.int .i64 0)]
def Z4:Value:=.agg #[(.int .i64 0),(.slice none 0 0)]
def Z5:Value:=.agg #[(.int .u8 0),(.int .i64 0),(.int .i64 0),(.int .i64 0),(.int .i64 0),(.int .i64 0),(.int .u8 0),(.int .i64 0),(.int .i64 0),(.int .i64 0),(.int .i64 0),(.slice none 0 0)]
def Z6:Value:=.agg #[(.int .u8 0),(.int .u32 0),(.int .u8 0),(.int .i64 0),(.int .i32 0)]
def Z7:Value:=.agg #[(.int .u8 0),(.int .u32 0),(.int .u8 0),(.int .i64 0),(.int .i64 0),(.int .i64 0),(.slice none 0 0),(.int .i64 0),(.int .i64 0),(.bool false),(.int .u8 0),(.int .i64 0),(.slice none 0 0),(.slice none 0 0),(.slice none 0 0),(.bool false),(.int .i64 0),(.bool false),(.int .u8 0),(.int .i64 0),(.int .i64 0),(.int .i64 0),(.int .i64 0),(.int .i64 0),(.int .i64 0),(.int .i64 0),(.int .i64 0),(.int .i64 0)]
def Z8:Value:=.agg #[(.int .u8 0),(.int .u32 0),(.int .u8 0),(.int .i64 0),(.int .i64 0),(.int .u8 0),(.int .u32 0),(.int .u8 0),(.int .i64 0),(.slice none 0 0)]
def Z9:Value:=.agg #[(.int .u8 0),(.int .u32 0),(.int .u8 0),(.int .i64 0),(.int .i64 0)]
def Z10:Value:=.agg #[(.int .u8 0),(.int .u32 0),(.int .u8 0),(.int .i64 0)]
def Z11:Value:=.agg #[(.int .u8 0),(.int .u32 0),(.int .u8 0)]
def Z12:Value:=.agg #[(.int .u8 0),(.int .u32 0)]
def Z13:Value:=.agg #[(.int .u8 0),(.int .u8 0),(.int .u32 0),(.int .u8 0),(.int .i64 0),(.int .u8 0),(.int .u32 0),(.int .u8 0),(.int .i64 0),(.int .i64 0),(.int .u8 0),(.int .u32 0),(.int .u8 0),(.int .i64 0),(.int .u8 0),(.int .u32 0),(.slice none 0 0)]
def Z14:Value:=.agg #[(.slice none 0 0),(.bool false),(.bool false)]
def Z15:Value:=.agg #[.nilFunc,.nilFunc,.nilFunc,.nilFunc,.nilFunc,.nilFunc,.nilFunc,.nilFunc]
def Z16:Value:=.agg #[.nilFunc,.nilFunc]
end Go.Ax.E
structure Go.Ax.TbD (x:Go.Ax.ACode) where
 c:Go.Ax.ACode
 h:x=c:=by first | (dsimp only[Go.Ax.E.t,Go.Ax.E.o,Go.Ax.E.u,Go.Ax.E.p,Go.Ax.E.q,Go.Ax.E.O,Go.Ax.E.U,Go.Ax.E.S,Go.Ax.E.R,Go.Ax.E.D,Go.Ax.E.C,Go.Ax.E.K,Go.Ax.E.N,Go.Ax.E.X,Go.Ax.E.B,Go.Ax.E.L,Go.Ax.E.m_,Go.Ax.E.m,Go.Ax.E.m',Go.Ax.E.n_,Go.Ax.E.n,Go.Ax.E.n',Go.Ax.E.bt_,Go.Ax.E.bt,Go.Ax.E.bt',Go.Ax.E.bf_,Go.Ax.E.bf,Go.Ax.E.bf',Go.Ax.E.z_,Go.Ax.E.z,Go.Ax.E.z',Go.Ax.E.l_,Go.Ax.E.l,Go.Ax.E.l',Go.Ax.E.f_,Go.Ax.E.f,Go.Ax.E.f',Go.Ax.E.d_,Go.Ax.E.d,Go.Ax.E.d',Go.Ax.E.e_,Go.Ax.E.e,Go.Ax.E.e',Go.Ax.E.k_,Go.Ax.E.k,Go.Ax.E.k',Go.Ax.E.b_,Go.Ax.E.b,Go.Ax.E.b',Go.Ax.E.i_,Go.Ax.E.i,Go.Ax.E.i',Go.Ax.E.ca_,Go.Ax.E.ca,Go.Ax.E.ca',Go.Ax.E.cb_,Go.Ax.E.cb,Go.Ax.E.cb',Go.Ax.E.cd_,Go.Ax.E.cd,Go.Ax.E.cd',Go.Ax.E.s_,Go.Ax.E.s,Go.Ax.E.s',Go.Ax.E.x_,Go.Ax.E.x,Go.Ax.E.x',Go.Ax.E.y_,Go.Ax.E.y,Go.Ax.E.y',Go.Ax.E.v_,Go.Ax.E.v,Go.Ax.E.v',Go.Ax.E.w_,Go.Ax.E.w,Go.Ax.E.w',Go.Ax.E.j_,Go.Ax.E.j,Go.Ax.E.j',Go.Ax.E.Z0,Go.Ax.E.Z1,Go.Ax.E.Z2,Go.Ax.E.Z3,Go.Ax.E.Z4,Go.Ax.E.Z5,Go.Ax.E.Z6,Go.Ax.E.Z7,Go.Ax.E.Z8,Go.Ax.E.Z9,Go.Ax.E.Z10,Go.Ax.E.Z11,Go.Ax.E.Z12,Go.Ax.E.Z13,Go.Ax.E.Z14,Go.Ax.E.Z15,Go.Ax.E.Z16];done) | rfl
namespace Go.Proofs.YtliicocdhkcanaaGreat
open Go Go.Ax Go.Ax.E
def c3:ACode:=({c:=_}:TbD (S (R [b 3 35 0,bf 6]) (S (R [o 19 (.call (.func 4) []),m 7 19]) (S (S (R [l 20 28 3,o 21 (.call (.func 5) [(t 20),(.const (.int .i64 12))]),m 22 21,q 23 (m_ 2) 22 [],q 24 (.pur (mkO (.call ⟨.builtin .len,#[(t 23)],#[9]⟩) 3)) 22 [],q 25 (w_ .gtr 3 24 300 3 4) 22 [],y 26 22 25,m 27 26,q 28 (m_ 7) 27 [],q 29 (j_ 4 28 4) 27 [],y 30 27 29]) (C 30 (S (R [m 31 7,m 6 31]) N) K)) (S (.region [l 33 28 3,m 34 1,m 35 2,cd 36 6 33 34 35,m 32 36,e 37 32 0,e 38 32 1,o 8 (.alloc 35 Z7),s 28 8 37,m 9 38] false) (S (S (R [m 39 9,w 40 .neq 30 39 0 30 4]) (C 40 (S (R [m 41 7,m 42 41,p 43 (d_ 14 8) 42 [],p 44 (f_ 1 43) 42 [],p 45 (k_ 44) 42 [],p 46 (w_ .eql 3 45 0 3 4) 42 [],x 47 42 46,m 6 47]) N) K)) (S (R [l 49 28 3,ca 50 7 49,m 48 50,e 51 48 0,e 52 48 1,e 53 48 2,m 10 51,m 11 52,m 12 53]) (S (R [l 55 28 8,ca 56 7 55,m 54 56,e 57 54 0,e 58 54 1,e 59 54 2,m 13 57,m 14 58,m 15 59]) (S (R [m 61 2,ca 62 8 61,m 60 62,e 63 60 0,e 64 60 1,m 16 63,m 17 64]) (S (S (R [m 65 12,w 66 .neq 30 65 0 30 4,m 67 66,q 68 (m_ 15) 67 [],q 69 (w_ .neq 30 68 0 30 4) 67 [],y 70 67 69,m 71 70,q 72 (m_ 17) 71 [],q 73 (w_ .neq 30 72 0 30 4) 71 [],y 74 71 73,m 75 74,q 76 (m_ 1) 75 [],q 77 (w_ .lss 3 76 0 3 4) 75 [],y 78 75 77,m 79 78,q 80 (m_ 1) 79 [],q 81 (m_ 10) 79 [],q 82 (k_ 81) 79 [],q 83 (v_ .gtr 3 80 82 3 4) 79 [],y 84 79 83,m 85 84,q 86 (m_ 13) 85 [],q 87 (k_ 86) 85 [],q 88 (m_ 10) 85 [],q 89 (k_ 88) 85 [],q 90 (m_ 16) 85 [],q 91 (k_ 90) 85 [],q 92 (v_ .add 3 89 91 3 3) 85 [],q 93 (v_ .neq 3 87 92 3 4) 85 [],y 94 85 93,m 95 94,q 96 (m_ 11) 95 [],q 97 (m_ 14) 95 [],q 98 (cb_ 9 96 97) 95 [],q 99 (j_ 4 98 4) 95 [],y 100 95 99,m 101 100,q 102 (d_ 14 8) 101 [],q 103 (f_ 1 102) 101 [],q 104 (k_ 103) 101 [],q 105 (d_ 14 3) 101 [],q 106 (f_ 1 105) 101 [],q 107 (k_ 106) 101 [],q 108 (w_ .add 3 107 1 3 3) 101 [],q 109 (v_ .neq 3 104 108 3 4) 101 [],y 110 101 109]) (C 110 (S (R [bf 6]) N) K)) (S (S (R [n 18 0]) (B 0 (L (S (S (R [m 111 18,m 112 13,k 113 112,v 114 .lss 3 111 113 3 4]) (C 114 K (X 0))) (S (B 1 (S (D [m' 117 18 [1],m' 118 1 [0],v 119 .lss 3 117 118 3 4,m 120 119,p 121 (m_ 13) 120 [5,8,9,10,11],p 122 (m_ 18) 120 [4,8,9,10,11],p 123 (i_ 5 121 122) 120 [8,9,10,11],p 124 (l_ 5 123) 120 [8,9,10,11],p 125 (m_ 10) 120 [4,5,6,7,9],p 126 (m_ 18) 120 [4,5,6,7,8],p 127 (i_ 5 125 126) 120 [4,5,6,7],p 128 (l_ 5 127) 120 [4,5,6,7],p 129 (v_ .neq 50 124 128 50 4) 120 [],x 130 120 129,m 131 130,q 132 (m_ 18) 131 [16,17,18,19],q 133 (m_ 1) 131 [15,17,18],q 134 (m_ 16) 131 [15,16],q 135 (k_ 134) 131 [15,16],q 136 (v_ .add 3 133 135 3 3) 131 [15],q 137 (v_ .geq 3 132 136 3 4) 131 [],q 138 (m_ 137) 131 [],p 139 (m_ 13) 138 [23,26,27,28,29,30,31,32],p 140 (m_ 18) 138 [22,26,27,28,29,30,31,32],p 141 (i_ 5 139 140) 138 [26,27,28,29,30,31,32],p 142 (l_ 5 141) 138 [26,27,28,29,30,31,32],p 143 (m_ 10) 138 [22,23,24,25,27,28,29,30],p 144 (m_ 18) 138 [22,23,24,25,26,28,29],p 145 (m_ 16) 138 [22,23,24,25,26,27],p 146 (k_ 145) 138 [22,23,24,25,26,27],p 147 (v_ .sub 3 144 146 3 3) 138 [22,23,24,25,26],p 148 (i_ 5 143 147) 138 [22,23,24,25],p 149 (l_ 5 148) 138 [22,23,24,25],p 150 (v_ .neq 50 142 149 50 4) 138 [],q 151 (x_ 138 150) 131 [],y 152 131 151,m 153 152,q 154 (m_ 18) 153 [38],q 155 (m_ 1) 153 [37],q 156 (v_ .geq 3 154 155 3 4) 153 [],q 157 (m_ 156) 153 [],p 158 (m_ 18) 157 [42,43,44,45],p 159 (m_ 1) 157 [41,43,44],p 160 (m_ 16) 157 [41,42],p 161 (k_ 160) 157 [41,42],p 162 (v_ .add 3 159 161 3 3) 157 [41],p 163 (v_ .lss 3 158 162 3 4) 157 [],q 164 (x_ 157 163) 153 [],q 165 (m_ 164) 153 [],p 166 (m_ 13) 165 [50,54,55,56,57,58,59],p 167 (m_ 18) 165 [49,54,55,56,57,58,59],p 168 (i_ 5 166 167) 165 [54,55,56,57,58,59],p 169 (d_ 4 168) 165 [54,55,56,57,58,59],p 170 (f_ 1 169) 165 [54,55,56,57,58,59],p 171 (m_ 16) 165 [49,50,51,52,53,55,56,57],p 172 (m_ 18) 165 [49,50,51,52,53,54,56],p 173 (m_ 1) 165 [49,50,51,52,53,54,55],p 174 (v_ .sub 3 172 173 3 3) 165 [49,50,51,52,53,54],p 175 (i_ 1 171 174) 165 [49,50,51,52,53],p 176 (f_ 1 175) 165 [49,50,51,52,53],p 177 (v_ .neq 21 170 176 21 4) 165 [],q 178 (x_ 165 177) 153 [],y 179 153 178]) (C 179 (S (R [bf 6]) N) K))) (R [m 115 18,w 116 .add 3 115 1 3 3,m 18 116])))))) (S (R [m 180 7,m 181 180,p 182 (l_ 28 8) 181 [],p 183 (ca_ 10 182) 181 [],p 184 (w_ .eql 30 183 0 30 4) 181 [],x 185 181 184,m 6 185]) N)))))))))))).c
def a3:AFunc:=⟨186,c3,[.tmp 6],1⟩
def c4:ACode:=({c:=_}:TbD (S (R [bf 0]) (S (.region [o 9 (.call (.func 11) []),m 8 9,e 10 8 0,e 11 8 1,o 1 (.alloc 35 Z7),s 28 1 10,m 2 11] false) (S (R [l 13 28 1,o 14 (.call (.func 6) [(t 13),(.const (.int .i64 0)),(.const (.string ⟨#[97,98]⟩))]),m 12 14,e 15 12 0,e 16 12 1,s 28 1 15,m 3 16]) (S (R [l 18 28 1,ca 19 12 18,m 17 19,e 20 17 0,e 21 17 1,e 22 17 2,s 28 1 20,m 4 21,m 5 22]) (S (S (R [m 23 2,j 24 4 23 4,m 25 24,q 26 (m_ 3) 25 [],q 27 (w_ .neq 30 26 0 30 4) 25 [],y 28 25 27,m 29 28,q 30 (m_ 5) 29 [],q 31 (w_ .neq 30 30 0 30 4) 29 [],y 32 29 31,m 33 32,q 34 (m_ 4) 33 [],q 35 (k_ 34) 33 [],q 36 (w_ .neq 3 35 1 3 4) 33 [],y 37 33 36,m 38 37,q 39 (d_ 15 1) 38 [],q 40 (f_ 1 39) 38 [],q 41 (j_ 4 40 4) 38 [],y 42 38 41,m 43 42,q 44 (d_ 16 1) 43 [],q 45 (f_ 1 44) 43 [],q 46 (w_ .neq 3 45 1 3 4) 43 [],y 47 43 46,m 48 47,q 49 (l_ 28 1) 48 [],q 50 (.call (.func 13) [(t 49),(.const (.string ⟨#[97,98]⟩)),(.const (.string ⟨#[]⟩))]) 48 [],q 51 (j_ 4 50 4) 48 [],y 52 48 51]) (C 52 (S (R [bf 0]) N) K)) (S (.region [l 54 28 1,o 55 (.build Z5 [(0,1,(.const (.int .u8 7))),(2,1,(.const (.int .i64 1))),(3,1,(.const (.int .i64 9)))]),o 56 (.call (.func 14) [(t 54),(.const (.int .i64 2)),(t 55)]),m 53 56,e 57 53 0,e 58 53 1,o 6 (.alloc 35 Z7),s 28 6 57,m 7 58] false) (S (R [m 59 7,m 60 59,p 61 (l_ 28 6) 60 [],p 62 (.call (.func 13) [(t 61),(.const (.string ⟨#[]⟩)),(.const (.string ⟨#[]⟩))]) 60 [],x 63 60 62,m 64 63,p 65 (d_ 15 6) 64 [],p 66 (f_ 1 65) 64 [],p 67 (j_ 4 66 4) 64 [],x 68 64 67,m 0 68]) N)))))))).c
def a4:AFunc:=⟨69,c4,[.tmp 0],1⟩
def c5:ACode:=({c:=_}:TbD (S (R [b 2 35 0,bf 4]) (S (R [d 5 12 2,f 6 1 5,m 7 1,cb 8 15 6 7,m 9 8,q 10 (d_ 13 2) 9 [],q 11 (f_ 1 10) 9 [],q 12 (m_ 1) 9 [],q 13 (cb_ 15 11 12) 9 [],y 14 9 13,m 15 14,q 16 (d_ 14 2) 15 [],q 17 (f_ 1 16) 15 [],q 18 (m_ 1) 15 [],q 19 (cb_ 15 17 18) 15 [],y 20 15 19,m 21 20,q 22 (d_ 4 2) 21 [],q 23 (l_ 6 22) 21 [],q 24 (ca_ 16 23) 21 [],y 25 21 24,m 4 25]) N))).c
def a5:AFunc:=⟨26,c5,[.tmp 4],1⟩
def c6:ACode:=({c:=_}:TbD (S (.region [b 3 35 0,b 4 3 1,b 5 9 2,o 6 (.alloc 35 Z7),n 7 0] false) (S (R [l 8 28 3,o 9 (.mkfn 18 [] [(t 4),(t 5)]),cb 10 17 8 9,e 11 10 0,e 12 10 1,s 28 6 11,m 7 12]) N))).c
def a6:AFunc:=⟨13,c6,[.cell 6 28 true,.tmp 7],1⟩
def c7:ACode:=({c:=_}:TbD (S (R [b 1 35 0,z 2,z 3,n 4 0]) (S (S (R [l 6 28 1,ca 7 10 6,m 5 7]) (S (R [m 8 5,w 9 .neq 30 8 0 30 4]) (C 9 (S (R [m 10 5,z 2,z 3,m 4 10]) N) K))) (S (D [l' 12 28 1 [2,3,4],ca' 13 20 12 [2,3,4],d' 14 0 1 [0,1],d' 15 0 14 [0,1],l' 16 2 15 [0,1],cb 17 22 13 16,m 11 17,e' 18 11 0 [8],e' 19 11 1 [7,9],m' 2 18 [8]]) (S (R [d 21 12 1,f 22 1 21,d 23 0 1,d 24 0 23,l 25 2 24,cb 26 22 22 25,m 20 26,e 27 20 0,e 28 20 1,m 3 27]) (S (R [m 29 2,m 30 3,m 2 29,m 3 30,n 4 0]) N)))))).c
def a7:AFunc:=⟨31,c7,[.tmp 2,.tmp 3,.tmp 4],1⟩
def c8:ACode:=({c:=_}:TbD (S (R [z 2,n 3 0]) (S (S (R [m 6 0,o 7 (.rng (t 6))]) (B 0 (L (S (R [o 8 (.nxt (t 7)),e 9 8 0]) (S (C 9 K (X 0)) (B 1 (S (R [e 10 8 1,e 11 8 2,m 4 10,m 5 11]) (S (S (R [m 12 5,o 13 (.pur (mkO (.binOp .eql 21 (t 12) (.const (.int .i32 65533)) 21) 4)),m 14 13,p 15 (m_ 0) 14 [],p 16 (m_ 4) 14 [],p 17 (.pur (mkO (.slice 9 (t 15) (some (t 16)) none none) 9)) 14 [],p 18 (.call (.func 23) [(t 17),(.const (.string ⟨#[239,191,189]⟩))]) 14 [],p 19 (j_ 4 18 4) 14 [],x 20 14 19]) (C 20 (S (R [z 2,n 3 3]) N) K)) (R [m 21 2,m 22 5,o 23 (.bsl 21 1 (.int .i32 0) 1 [(0,1,(t 22))]),o 24 (.app 21 1 4 (.int .i32 0) (t 21) (t 23)),m 2 24]))))))))) (S (S (R [m 25 2,k 26 25,w 27 .gtr 3 26 64 3 4]) (C 27 (S (R [z 2,n 3 4]) N) K)) (S (R [m 28 2,m 2 28,n 3 0]) N))))).c
def a8:AFunc:=⟨29,c8,[.tmp 2,.tmp 3],1⟩
def c9:ACode:=({c:=_}:TbD (S (R [bf 4]) (S (S (R [m 6 0,k 7 6,m 8 1,k 9 8,v 10 .neq 3 7 9 3 4]) (C 10 (S (R [bf 4]) N) K)) (S (S (R [n 5 0]) (B 0 (L (S (S (R [m 11 5,m 12 0,k 13 12,v 14 .lss 3 11 13 3 4]) (C 14 K (X 0))) (S (B 1 (S (D [m' 17 0 [1,4,5,6,7],m' 18 5 [0,4,5,6,7],i' 19 5 17 18 [4,5,6,7],l' 20 5 19 [4,5,6,7],m' 21 1 [0,1,2,3,5],m' 22 5 [0,1,2,3,4],i' 23 5 21 22 [0,1,2,3],l' 24 5 23 [0,1,2,3],v 25 .neq 50 20 24 50 4]) (C 25 (S (R [bf 4]) N) K))) (R [m 15 5,w 16 .add 3 15 1 3 3,m 5 16])))))) (S (R [bt 4]) N))))).c
def a9:AFunc:=⟨26,c9,[.tmp 4],1⟩
def c10:ACode:=({c:=_}:TbD (S (R [b 1 35 0,n 2 0]) (S (S (R [d 3 0 1,l 4 3 3,ca 5 24 4,w 6 .neq 30 5 0 30 4,m 7 6,q 8 (d_ 4 1) 7 [],q 9 (l_ 6 8) 7 [],q 10 (ca_ 25 9) 7 [],q 11 (w_ .neq 30 10 0 30 4) 7 [],y 12 7 11,m 13 12,q 14 (l_ 28 1) 13 [],q 15 (ca_ 26 14) 13 [],q 16 (j_ 4 15 4) 13 [],y 17 13 16,m 18 17,q 19 (l_ 28 1) 18 [],q 20 (ca_ 27 19) 18 [],q 21 (j_ 4 20 4) 18 [],y 22 18 21]) (C 22 (S (R [n 2 8]) N) K)) (S (R [n 2 0]) N)))).c
def a10:AFunc:=⟨23,c10,[.tmp 2],1⟩
def c11:ACode:=({c:=_}:TbD (S (.region [o 0 (.alloc 35 Z7),bf 1] false) (S (.region [o 15 (.call (.func 29) []),o 16 (.call (.func 28) [(t 15),(.const (.int .i64 0))]),m 14 16,e 17 14 0,e 18 14 1,o 2 (.alloc 35 Z7),s 28 2 17,m 3 18] false) (S (R [l 20 28 2,ca 21 30 20,m 19 21,e 22 19 0,e 23 19 1,s 28 2 22,m 4 23]) (S (R [l 25 28 2,ca 26 12 25,m 24 26,e 27 24 0,e 28 24 1,e 29 24 2,s 28 2 27,m 5 28,m 6 29]) (S (R [o 31 (.build Z0 [(0,1,(.const (.int .i64 1)))]),ca 32 31 31,m 30 32,e 33 30 0,e 34 30 1,m 7 33,m 8 34]) (S (R [l 36 28 2,m 37 7,cb 38 32 36 37,m 35 38,e 39 35 0,e 40 35 1,e 41 35 2,e 42 35 3,s 28 2 39,m 9 40,m 10 41,m 11 42]) (S (.region [l 44 28 2,o 45 (.build Z5 [(0,1,(.const (.int .u8 6)))]),o 46 (.call (.func 14) [(t 44),(.const (.int .i64 1)),(t 45)]),m 43 46,e 47 43 0,e 48 43 1,o 12 (.alloc 35 Z7),s 28 12 47,m 13 48] false) (S (R [l 49 28 12,m 50 3,w 51 .eql 30 50 0 30 4,m 52 51,p 53 (m_ 4) 52 [],p 54 (w_ .eql 30 53 0 30 4) 52 [],x 55 52 54,m 56 55,p 57 (m_ 6) 56 [],p 58 (w_ .eql 30 57 0 30 4) 56 [],x 59 56 58,m 60 59,p 61 (m_ 8) 60 [],p 62 (w_ .eql 30 61 0 30 4) 60 [],x 63 60 62,m 64 63,p 65 (m_ 11) 64 [],p 66 (w_ .eql 30 65 0 30 4) 64 [],x 67 64 66,m 68 67,p 69 (m_ 10) 68 [],p 70 (w_ .eql 30 69 0 30 4) 68 [],x 71 68 70,m 72 71,p 73 (m_ 9) 72 [],p 74 (k_ 73) 72 [],p 75 (w_ .eql 3 74 1 3 4) 72 [],x 76 72 75,m 77 76,p 78 (m_ 13) 77 [],x 79 77 78,s 28 0 49,m 1 79]) N))))))))).c
def a11:AFunc:=⟨80,c11,[.cell 0 28 true,.tmp 1],1⟩
def c12:ACode:=({c:=_}:TbD (S (.region [b 1 35 0,o 2 (.alloc 35 Z7),z 3,n 4 0] false) (S (R [l 9 28 1,ca 10 33 9,m 8 10,e 11 8 0,e 12 8 1,m 5 11,m 6 12]) (S (S (R [m 13 6,w 14 .neq 30 13 0 30 4]) (C 14 (S (.region [o 15 (.build Z7 []),m 16 6,s 28 2 15,z 3,m 4 16] false) N) K)) (S (R [m 17 5,ca 18 34 17]) (S (R [m 19 5,ca 20 35 19,m 7 20]) (S (R [m 21 5,o 22 (.nilck (t 21)),d 23 0 22,l 24 28 23,m 25 7,s 28 2 24,m 3 25,n 4 0]) N))))))).c
def a12:AFunc:=⟨26,c12,[.cell 2 28 true,.tmp 3,.tmp 4],1⟩
def c13:ACode:=({c:=_}:TbD (S (R [b 3 35 0,bf 6]) (S (R [l 11 28 3,ca 12 7 11,m 10 12,e 13 10 0,e 14 10 1,e 15 10 2,m 7 13,m 8 14,m 9 15]) (S (R [m 16 9,w 17 .eql 30 16 0 30 4,m 18 17,p 19 (m_ 7) 18 [],p 20 (ca_ 36 19) 18 [],p 21 (m_ 1) 18 [],p 22 (v_ .eql 9 20 21 9 4) 18 [],x 23 18 22,m 24 23,p 25 (m_ 8) 24 [],p 26 (ca_ 36 25) 24 [],p 27 (m_ 2) 24 [],p 28 (v_ .eql 9 26 27 9 4) 24 [],x 29 24 28,m 6 29]) N)))).c
def a13:AFunc:=⟨30,c13,[.tmp 6],1⟩
def c14:ACode:=({c:=_}:TbD (S (.region [b 3 35 0,b 5 61 2,o 6 (.alloc 35 Z7),bf 7] false) (S (R [l 17 12 5,ca 18 37 17,m 16 18,e 19 16 0,e 20 16 1,m 8 19,m 9 20]) (S (R [m 22 1,d 23 4 3,d 24 1 23,f 25 1 24,w 26 .sub 3 25 1 3 3,m 27 8,o 28 (.build Z0 [(0,1,(.const (.int .i64 1))),(1,1,(t 22)),(2,1,(t 26)),(3,1,(t 27))]),ca 29 31 28,m 21 29,e 30 21 0,e 31 21 1,m 10 30,m 11 31]) (S (.region [l 33 28 3,m 34 10,cb 35 32 33 34,m 32 35,e 36 32 0,e 37 32 1,e 38 32 2,e 39 32 3,o 12 (.alloc 35 Z7),s 28 12 36,m 13 37,m 14 38,m 15 39] false) (S (R [l 40 28 12,m 41 9,w 42 .eql 30 41 0 30 4,m 43 42,p 44 (m_ 11) 43 [],p 45 (w_ .eql 30 44 0 30 4) 43 [],x 46 43 45,m 47 46,p 48 (m_ 14) 47 [],p 49 (w_ .eql 30 48 0 30 4) 47 [],x 50 47 49,m 51 50,p 52 (m_ 15) 51 [],p 53 (w_ .eql 30 52 0 30 4) 51 [],x 54 51 53,s 28 6 40,m 7 54]) N)))))).c
def a14:AFunc:=⟨55,c14,[.cell 6 28 true,.tmp 7],1⟩
def c15:ACode:=({c:=_}:TbD (S (R [bf 4]) (S (R [n 5 0]) (S (S (R [n 6 0]) (B 0 (L (S (S (R [m 7 6,m 8 0,k 9 8,v 10 .lss 3 7 9 3 4,m 11 10,p 12 (m_ 6) 11 [],p 13 (w_ .lss 3 12 300 3 4) 11 [],x 14 11 13]) (C 14 K (X 0))) (S (B 1 (D [m' 17 5 [1,2,3,4,5,6,7,8,9,10,11,12,13,14,15,16],m' 18 0 [0,2,9,10,11,12,13,14,15],m' 19 6 [0,1,9,10,11,12,13,14,15],i' 20 17 18 19 [0,9,10,11,12,13,14,15],d' 21 5 20 [0,9,10,11,12,13,14,15],d' 22 4 21 [0,9,10,11,12,13,14,15],f' 23 1 22 [0,9,10,11,12,13,14,15],u 24 (.pur (mkO (.call ⟨.builtin .max,#[(t 23),(.const (.int .i64 0))],#[3,3]⟩) 3)) [0,9,10,11,12,13,14,15],u 25 (.pur (mkO (.call ⟨.builtin .min,#[(t 24),(.const (.int .i64 100))],#[3,3]⟩) 3)) [0,9,10,11,12,13,14,15],m' 26 0 [0,1,2,3,4,5,6,7,8,10],m' 27 6 [0,1,2,3,4,5,6,7,8,9],i' 28 17 26 27 [0,1,2,3,4,5,6,7,8],d' 29 16 28 [0,1,2,3,4,5,6,7,8],f' 30 1 29 [0,1,2,3,4,5,6,7,8],k' 31 30 [0,1,2,3,4,5,6,7,8],u 32 (.pur (mkO (.call ⟨.builtin .min,#[(t 31),(.const (.int .i64 1000))],#[3,3]⟩) 3)) [0,1,2,3,4,5,6,7,8],u 33 (.pur (mkO (.call ⟨.builtin .max,#[(t 25),(t 32)],#[3,3]⟩) 3)) [0],v 34 .add 3 17 33 3 3,m 5 34])) (R [m 15 6,w 16 .add 3 15 1 3 3,m 6 16])))))) (S (R [m 35 0,k 36 35,m 37 1,v 38 .gtr 3 36 37 3 4,m 39 38,q 40 (m_ 5) 39 [],q 41 (w_ .gtr 3 40 300 3 4) 39 [],y 42 39 41,m 4 42]) N))))).c
def a15:AFunc:=⟨43,c15,[.tmp 4],1⟩
def c16:ACode:=({c:=_}:TbD (S (R [b 1 29 0,bf 2]) (S (R [n 3 0]) (S (S (R [n 4 0]) (B 0 (L (S (S (R [m 5 4,d 6 2 1,f 7 1 6,k 8 7,v 9 .lss 3 5 8 3 4,m 10 9,p 11 (m_ 4) 10 [],p 12 (w_ .lss 3 11 50 3 4) 10 [],x 13 10 12]) (C 13 K (X 0))) (S (B 1 (R [m 16 3,d 17 2 1,f 18 1 17,m 19 4,i 20 2 18 19,d 21 1 20,f 22 1 21,k 23 22,o 24 (.pur (mkO (.call ⟨.builtin .min,#[(t 23),(.const (.int .i64 10000))],#[3,3]⟩) 3)),v 25 .add 3 16 24 3 3,m 3 25])) (R [m 14 4,w 15 .add 3 14 1 3 3,m 4 15])))))) (S (R [d 26 2 1,f 27 1 26,k 28 27,w 29 .gtr 3 28 40 3 4,m 30 29,q 31 (m_ 3) 30 [],q 32 (w_ .gtr 3 31 20000 3 4) 30 [],y 33 30 32,m 2 33]) N))))).c
def a16:AFunc:=⟨34,c16,[.tmp 2],1⟩
def c17:ACode:=({c:=_}:TbD (S (.region [b 2 35 0,o 4 (.alloc 35 Z7),n 5 0] false) (S (R [l 9 28 2,ca 10 33 9,m 8 10,e 11 8 0,e 12 8 1,m 6 11,m 7 12]) (S (S (R [m 13 7,w 14 .eql 30 13 0 30 4]) (C 14 (R [m 15 1,m 16 6,o 17 (.call (t 15) [(t 16)]),m 7 17]) K)) (S (S (R [m 18 7,w 19 .neq 30 18 0 30 4]) (C 19 (S (.region [o 20 (.build Z7 []),m 21 7,s 28 4 20,m 5 21] false) N) K)) (S (R [m 22 6,o 23 (.nilck (t 22)),d 24 0 23,l 25 28 24,s 28 4 25,n 5 0]) N)))))).c
def a17:AFunc:=⟨26,c17,[.cell 4 28 true,.tmp 5],0⟩
def c18:ACode:=({c:=_}:TbD (S (R [n 4 0]) (S (D [m' 8 0 [5,6,7,8,9,10,11,16],u 9 (.nilck (t 8)) [5,6,7,8,9,10,11,16],d' 10 0 9 [5,6,7,8,9,10,11,16],l' 11 28 10 [5,6,7,8,9,10,11,16],ca' 12 20 11 [5,6,7,8,9,10,11,16],m' 13 0 [0,1,2,3,4,10,11,16],u 14 (.nilck (t 13)) [0,1,2,3,4,10,11,16],d' 15 0 14 [0,1,2,3,4,10,11,16],d' 16 0 15 [0,1,2,3,4,10,11,16],l' 17 3 16 [0,1,2,3,4,10,11,16],f' 18 1 1 [0,1,2,3,4,5,6,7,8,9,11,16],f' 19 1 2 [0,1,2,3,4,5,6,7,8,9,10,16],u 20 (.call (.func 19) [(t 12),(t 17),(.const (.int .i64 1)),(t 18),(t 19)]) [16],m' 7 20 [16],e' 21 7 0 [15,16],e' 22 7 1 [14,16,17],u 5 (.alloc 69 Z13) [0,1,2,3,4,5,6,7,8,9,10,11,12,13,14,15],s' 17 5 21 [15],m 6 22]) (S (R [m 23 0,l 24 17 5,o 25 (.bsl 69 17 Z13 1 [(0,17,(t 24))]),m 26 6,cd 27 21 23 25 26,m 4 27]) N)))).c
def a18:AFunc:=⟨28,c18,[.tmp 4],0⟩
def c19:ACode:=({c:=_}:TbD (S (R [b 6 26 1,o 10 (.alloc 69 Z13),n 11 0]) (S (S (R [m 17 0,l 18 3 6,m 19 2,cd 20 38 17 18 19,m 12 20]) (S (R [m 21 12,w 22 .neq 30 21 0 30 4]) (C 22 (S (R [o 23 (.build Z13 []),m 24 12,s 17 10 23,m 11 24]) N) K))) (S (R [m 26 4,ca 27 8 26,m 25 27,e 28 25 0,e 29 25 1,m 13 28,m 14 29]) (S (S (R [m 30 14,w 31 .neq 30 30 0 30 4]) (C 31 (S (R [o 32 (.build Z13 []),m 33 14,s 17 10 32,m 11 33]) N) K)) (S (R [m 35 0,d 36 0 6,l 37 2 36,m 38 3,cd 39 39 35 37 38,m 34 39,e 40 34 0,e 41 34 1,o 15 (.alloc 48 Z10),s 4 15 40,m 14 41]) (S (S (R [m 42 14,w 43 .neq 30 42 0 30 4,m 44 43,q 45 (m_ 13) 44 [],q 46 (k_ 45) 44 [],q 47 (w_ .eql 3 46 0 3 4) 44 [],y 48 44 47]) (C 48 (S (R [o 49 (.build Z13 []),s 17 10 49,n 11 2]) N) K)) (S (R [m 51 0,l 52 3 6,cb 53 40 51 52,m 50 53,e 54 50 0,e 55 50 1,m 16 54,m 14 55]) (S (S (R [m 56 14,w 57 .eql 30 56 0 30 4,m 58 57,p 59 (m_ 16) 58 [],p 60 (m_ 13) 58 [],p 61 (k_ 60) 58 [],p 62 (v_ .add 3 59 61 3 3) 58 [],p 63 (w_ .sub 3 62 1 3 3) 58 [],p 64 (w_ .gtr 3 63 1099511627776 3 4) 58 [],x 65 58 64]) (C 65 (R [n 14 9]) K)) (S (S (R [m 66 14,w 67 .neq 30 66 0 30 4]) (C 67 (S (R [o 68 (.build Z13 []),m 69 14,s 17 10 68,m 11 69]) N) K)) (S (R [l 70 3 6,m 71 2,l 72 3 6,m 73 16,o 74 (.build Z10 [(0,3,(t 72)),(3,1,(t 73))]),m 75 13,k 76 75,o 77 (.build Z9 [(0,4,(t 74)),(4,1,(t 76))]),l 78 4 15,m 79 13,o 80 (.build Z13 [(0,1,(.const (.int .u8 1))),(1,3,(t 70)),(4,1,(t 71)),(5,5,(t 77)),(10,4,(t 78)),(16,1,(t 79))]),s 17 10 80,n 11 0]) N))))))))))).c
def a19:AFunc:=⟨81,c19,[.cell 10 17 true,.tmp 11],1⟩
def c20:ACode:=({c:=_}:TbD (S (R [b 1 35 0,z 2]) (S (R [d 3 12 1,f 4 1 3,d 5 13 1,f 6 1 5,d 7 14 1,f 8 1 7,o 9 (.bsl 31 1 (.slice none 0 0) 3 [(0,1,(t 4)),(1,1,(t 6)),(2,1,(t 8))]),ca 10 41 9,m 2 10]) N))).c
def a20:AFunc:=⟨11,c20,[.tmp 2],0⟩
def c21:ACode:=({c:=_}:TbD (S (R [n 6 0]) (S (S (R [m 9 2,w 10 .neq 30 9 0 30 4]) (C 10 (S (R [m 11 2,m 6 11]) N) K)) (S (S (R [m 12 0,o 13 (.nilck (t 12)),d 14 0 13,d 15 14 14,f 16 1 15,k 17 16,m 18 1,k 19 18,v 20 .add 3 17 19 3 3,w 21 .gtr 3 20 32 3 4]) (C 21 (S (R [n 6 9]) N) K)) (S (S (R [m 22 1,k 23 22,n 24 0]) (B 0 (L (S (R [v 25 .lss 3 24 23 3 0]) (S (C 25 K (X 0)) (S (B 1 (S (R [i 26 17 22 24,l 27 17 26,o 8 (.alloc 69 Z13),s 17 8 27]) (S (R [d 28 4 8,O (.store 1 (t 28) (.const (.int .i64 1)))]) (S (S (D [m' 29 0 [5],u 30 (.nilck (t 29)) [5],d' 31 0 30 [5],l' 32 28 31 [5],ca' 33 20 32 [5],l' 34 17 8 [0,1,2,3,4],cb 35 42 33 34,w 36 .neq 30 35 0 30 4]) (C 36 (S (R [n 6 9]) N) K)) (D [m' 37 0 [1,2,3,4,5,6,7,8],m' 38 0 [0,6,7],u 39 (.nilck (t 38)) [0,6,7],d' 40 0 39 [0,6,7],d' 41 14 40 [0,6,7],f' 42 1 41 [0,6,7],l' 43 17 8 [0,1,2,3,4,5],u 44 (.bsl 69 17 Z13 1 [(0,17,(t 43))]) [0,1,2,3,4,5],u 45 (.app 69 17 112 Z13 (t 42) (t 44)) [0],o 46 (.nilck (t 37)),d 47 0 46,d 48 14 47,s 1 48 45]))))) (R [w 49 .add 3 24 1 3 3,m 24 49]))))))) (S (R [n 6 0]) N)))))).c
def a21:AFunc:=⟨50,c21,[.tmp 6],0⟩
def c22:ACode:=({c:=_}:TbD (S (R [b 3 24 1,z 4,n 5 0]) (S (R [m 10 0,l 11 2 3,cb 12 43 10 11,m 9 12,e 13 9 0,e 14 9 1,o 6 (.alloc 31 (.slice none 0 0)),s 1 6 13,m 7 14]) (S (S (R [m 15 7,w 16 .neq 30 15 0 30 4]) (C 16 (S (R [m 17 7,z 4,m 5 17]) N) K)) (S (R [f 19 1 6,ca 20 44 19,m 18 20,e 21 18 0,e 22 18 1,m 8 21,m 7 22]) (S (S (R [m 23 7,w 24 .neq 30 23 0 30 4]) (C 24 (S (R [m 25 7,z 4,m 5 25]) N) K)) (S (R [m 26 8,ca 27 46 26,o 28 (.mkfn 47 [] [(t 6),(t 3)]),cb 29 45 27 28,m 4 29,n 5 0]) N))))))).c
def a22:AFunc:=⟨30,c22,[.tmp 4,.tmp 5],1⟩
def c23:ACode:=({c:=_}:TbD (S (R [bf 4]) (S (R [m 5 0,m 6 1,cb 7 50 5 6,m 4 7]) N))).c
def a23:AFunc:=⟨8,c23,[.tmp 4],1⟩
def c24:ACode:=({c:=_}:TbD (S (R [b 1 26 0,n 2 0]) (S (R [d 3 0 1,l 4 2 3,ca 5 52 4,w 6 .eql 30 5 0 30 4,m 7 6,p 8 (d_ 2 1) 7 [],p 9 (f_ 1 8) 7 [],p 10 (.pur (mkO (.binOp .lss 5 (t 9) (.const (.int .u8 8)) 5) 4)) 7 [],x 11 7 10,ca 12 51 11,m 2 12]) N))).c
def a24:AFunc:=⟨13,c24,[.tmp 2],1⟩
def c25:ACode:=({c:=_}:TbD (S (R [b 1 29 0,n 2 0]) (S (S (R [d 5 0 1,f 6 1 5,o 7 (.call (.func 53) [(t 6),(.const (.int .i64 0)),(.const (.int .i64 2147483648))]),j 8 4 7 4,m 9 8,q 10 (d_ 1 1) 9 [],q 11 (f_ 1 10) 9 [],q 12 (.call (.func 53) [(t 11),(.const (.int .i64 1)),(.const (.int .i64 16777216))]) 9 [],q 13 (j_ 4 12 4) 9 [],y 14 9 13,m 15 14,q 16 (d_ 3 1) 15 [],q 17 (f_ 1 16) 15 [],q 18 (.call (.func 53) [(t 17),(.const (.int .i64 1)),(.const (.int .i64 16777216))]) 15 [],q 19 (j_ 4 18 4) 15 [],y 20 15 19,m 21 20,q 22 (d_ 2 1) 21 [],q 23 (f_ 1 22) 21 [],q 24 (k_ 23) 21 [],q 25 (w_ .gtr 3 24 32 3 4) 21 [],y 26 21 25,m 27 26,q 28 (d_ 4 1) 27 [],q 29 (f_ 1 28) 27 [],q 30 (.call (.func 53) [(t 29),(.const (.int .i64 0)),(.const (.int .i64 3))]) 27 [],q 31 (j_ 4 30 4) 27 [],y 32 27 31,m 33 32,q 34 (d_ 2 1) 33 [],q 35 (f_ 1 34) 33 [],q 36 (k_ 35) 33 [],q 37 (w_ .eql 3 36 0 3 4) 33 [],q 38 (m_ 37) 33 [],p 39 (d_ 4 1) 38 [],p 40 (f_ 1 39) 38 [],p 41 (w_ .gtr 3 40 0 3 4) 38 [],q 42 (x_ 38 41) 33 [],y 43 33 42]) (C 43 (S (R [n 2 8]) N) K)) (S (S (R [d 44 2 1,f 45 1 44,k 46 45,n 47 0]) (B 0 (L (S (R [v 48 .lss 3 47 46 3 0]) (S (C 48 K (X 0)) (S (B 1 (S (R [m 49 47,i 50 2 45 47,l 51 2 50,o 4 (.alloc 99 Z4),m 3 49,s 2 4 51]) (S (R [d 52 0 4,f 53 1 52,w 54 .lss 3 53 1 3 4,m 55 54,q 56 (d_ 0 4) 55 [],q 57 (f_ 1 56) 55 [],q 58 (d_ 1 1) 55 [],q 59 (f_ 1 58) 55 [],q 60 (d_ 2 1) 55 [],q 61 (f_ 1 60) 55 [],q 62 (k_ 61) 55 [],q 63 (v_ .sub 3 59 62 3 3) 55 [],q 64 (m_ 3) 55 [],q 65 (v_ .add 3 63 64 3 3) 55 [],q 66 (v_ .neq 3 57 65 3 4) 55 [],y 67 55 66,m 68 67,q 69 (d_ 1 4) 68 [],q 70 (f_ 1 69) 68 [],q 71 (k_ 70) 68 [],q 72 (w_ .gtr 3 71 900 3 4) 68 [],y 73 68 72]) (C 73 (S (R [n 2 8]) N) K)))) (R [w 74 .add 3 47 1 3 3,m 47 74]))))))) (S (R [n 2 0]) N))))).c
def a25:AFunc:=⟨75,c25,[.tmp 2],1⟩
def c26:ACode:=({c:=_}:TbD (S (R [b 1 35 0,bf 2]) (S (R [o 6 (.mkfn 54 [] [(t 1)]),m 3 6]) (S (R [o 7 (.mkfn 56 [] [(t 1)]),m 4 7]) (S (R [o 5 (.mov (.func 57))]) (S (S (R [d 8 14 1,f 9 1 8,k 10 9,w 11 .gtr 3 10 32 3 4,m 12 11,q 13 (d_ 12 1) 12 [],q 14 (f_ 1 13) 12 [],q 15 (m_ 3) 12 [],q 16 (cb_ 59 14 15) 12 [],y 17 12 16,m 18 17,q 19 (d_ 13 1) 18 [],q 20 (f_ 1 19) 18 [],q 21 (m_ 4) 18 [],q 22 (cb_ 59 20 21) 18 [],y 23 18 22,m 24 23,q 25 (d_ 14 1) 24 [],q 26 (f_ 1 25) 24 [],q 27 (m_ 4) 24 [],q 28 (cb_ 59 26 27) 24 [],y 29 24 28,m 30 29,q 31 (d_ 14 1) 30 [],q 32 (f_ 1 31) 30 [],q 33 (m_ 5) 30 [],q 34 (cb_ 59 32 33) 30 [],y 35 30 34]) (C 35 (S (R [bf 2]) N) K)) (S (R [l 36 28 1,ca 37 20 36,ca 38 60 37,w 39 .eql 30 38 0 30 4,m 2 39]) N))))))).c
def a26:AFunc:=⟨40,c26,[.tmp 2],1⟩
def c27:ACode:=({c:=_}:TbD (S (R [b 1 35 0,bf 2]) (S (S (R [d 7 20 1,l 8 8 7,n 9 0]) (B 0 (L (S (R [w 10 .lss 3 9 2 3 0]) (S (C 10 K (X 0)) (S (B 1 (S (R [o 11 (.idx 2 4 true (t 8) (t 9)),o 4 (.alloc 32 (.agg #[(.int .i64 0),(.int .i64 0),(.int .i64 0),(.int .i64 0)])),s 4 4 11]) (S (R [o 12 (.sla 4 1 (t 4) none none none),o 13 (.call (.func 61) [(t 12),(.func 62)])]) (C 13 (S (R [bf 2]) N) K)))) (R [w 14 .add 3 9 1 3 3,m 9 14]))))))) (S (D [d 15 15 1,f 16 1 15,j 17 4 16 4,m 18 17,q 19 (d_ 10 1) 18 [],q 20 (f_ 1 19) 18 [],q 21 (.pur (mkO (.binOp .eql 5 (t 20) (.const (.int .u8 2)) 5) 4)) 18 [],q 22 (m_ 21) 18 [],p 23 (d_ 14 1) 22 [],p 24 (f_ 1 23) 22 [],p 25 (k_ 24) 22 [],p 26 (w_ .gtr 3 25 0 3 4) 22 [],q 27 (x_ 22 26) 18 [],q 28 (m_ 27) 18 [],p 29 (d_ 14 1) 28 [19,20],p 30 (f_ 1 29) 28 [19,20],p 31 (.iad 17 (t 30) (.const (.int .i64 0))) 28 [19,20],p 32 (d_ 4 31) 28 [19,20],p 33 (f_ 1 32) 28 [19,20],p 34 (d_ 16 1) 28 [14,15,16,17,18],p 35 (f_ 1 34) 28 [14,15,16,17,18],p 36 (v_ .eql 3 33 35 3 4) 28 [],q 37 (x_ 28 36) 18 [],q 38 (m_ 37) 18 [],p 39 (d_ 16 1) 38 [],p 40 (f_ 1 39) 38 [],p 41 (w_ .gtr 3 40 0 3 4) 38 [],q 42 (x_ 38 41) 18 [],y 43 18 42,m 5 43]) (S (R [d 44 10 1,f 45 1 44,o 46 (.pur (mkO (.binOp .eql 5 (t 45) (.const (.int .u8 2)) 5) 4)),m 47 46,q 48 (d_ 17 1) 47 [],q 49 (f_ 1 48) 47 [],q 50 (j_ 4 49 4) 47 [],q 51 (m_ 50) 47 [],p 52 (d_ 18 1) 51 [],p 53 (f_ 1 52) 51 [],p 54 (.pur (mkO (.binOp .eql 5 (t 53) (.const (.int .u8 0)) 5) 4)) 51 [],q 55 (x_ 51 54) 47 [],y 56 47 55,m 6 56]) (S (R [m 57 5,m 58 57,p 59 (m_ 6) 58 [],x 60 58 59,m 61 60,p 62 (d_ 3 1) 61 [],p 63 (f_ 1 62) 61 [],p 64 (w_ .geq 3 63 0 3 4) 61 [],x 65 61 64,m 66 65,p 67 (d_ 3 1) 66 [],p 68 (f_ 1 67) 66 [],p 69 (w_ .leq 3 68 255 3 4) 66 [],x 70 66 69,m 71 70,p 72 (d_ 10 1) 71 [],p 73 (f_ 1 72) 71 [],p 74 (.pur (mkO (.binOp .leq 5 (t 73) (.const (.int .u8 2)) 5) 4)) 71 [],x 75 71 74,m 76 75,p 77 (d_ 11 1) 76 [],p 78 (f_ 1 77) 76 [],p 79 (w_ .geq 30 78 0 30 4) 76 [],x 80 76 79,m 81 80,p 82 (d_ 11 1) 81 [],p 83 (f_ 1 82) 81 [],p 84 (w_ .lss 30 83 65536 30 4) 81 [],x 85 81 84,m 86 85,p 87 (d_ 18 1) 86 [],p 88 (f_ 1 87) 86 [],p 89 (.pur (mkO (.binOp .leq 5 (t 88) (.const (.int .u8 2)) 5) 4)) 86 [],x 90 86 89,m 91 90,p 92 (d_ 19 1) 91 [],p 93 (f_ 1 92) 91 [],p 94 (ca_ 63 93) 91 [],x 95 91 94,m 96 95,p 97 (d_ 16 1) 96 [],p 98 (f_ 1 97) 96 [],p 99 (w_ .geq 3 98 0 3 4) 96 [],x 100 96 99,m 101 100,p 102 (d_ 16 1) 101 [],p 103 (f_ 1 102) 101 [],p 104 (w_ .lss 3 103 16777152 3 4) 101 [],x 105 101 104,m 2 105]) N)))))).c
def a27:AFunc:=⟨106,c27,[.tmp 2],1⟩
def c28:ACode:=({c:=_}:TbD (S (.region [b 2 26 0,o 4 (.alloc 35 Z7),n 5 0] false) (S (.region [o 11 (.call (.func 64) [(.const (.int .i64 0))]),m 10 11,e 12 10 0,e 13 10 1,o 6 (.alloc 29 Z2),s 6 6 12,m 7 13] false) (S (.region [l 14 3 2,m 15 1,l 16 6 6,o 17 (.build Z7 [(0,3,(t 14)),(3,1,(t 15)),(4,6,(t 16))]),o 8 (.alloc 35 Z7),s 28 8 17] false) (S (S (R [l 18 28 8,ca 19 10 18,m 9 19]) (S (R [m 20 9,w 21 .neq 30 20 0 30 4]) (C 21 (S (.region [o 22 (.build Z7 []),m 23 9,s 28 4 22,m 5 23] false) N) K))) (S (R [l 24 28 8,s 28 4 24,n 5 0]) N)))))).c
def a28:AFunc:=⟨25,c28,[.cell 4 28 true,.tmp 5],1⟩
def c29:ACode:=({c:=_}:TbD (S (R [o 0 (.alloc 26 Z11)]) (S (R [o 1 (.build Z12 [(0,1,(.const (.int .u8 1)))]),o 2 (.build Z11 [(0,2,(t 1))]),s 3 0 2]) N))).c
def a29:AFunc:=⟨3,c29,[.cell 0 3 true],1⟩
def c30:ACode:=({c:=_}:TbD (S (.region [b 1 35 0,o 2 (.alloc 35 Z7),n 3 0] false) (S (R [l 4 28 1,o 5 (.call (.func 17) [(t 4),(.func 65)]),e 6 5 0,e 7 5 1,s 28 2 6,m 3 7]) N))).c
def a30:AFunc:=⟨8,c30,[.cell 2 28 true,.tmp 3],1⟩
def c31:ACode:=({c:=_}:TbD (S (R [b 1 90 0,z 2,n 3 0]) (S (S (R [l 5 4 1,ca 6 67 5,m 4 6]) (S (R [m 7 4,w 8 .neq 30 7 0 30 4]) (C 8 (S (R [m 9 4,z 2,m 3 9]) N) K))) (S (D [d' 10 0 1 [3,4,5,6,7,8,11,12],f' 11 1 10 [3,4,5,6,7,8,11,12],u 12 (.build Z3 [(0,1,(t 11)),(1,1,(.const (.int .i64 4)))]) [3,4,5,6,7,8,11,12],d' 13 1 1 [0,1,2,6,7,8,11,12],f' 14 1 13 [0,1,2,6,7,8,11,12],u 15 (.build Z3 [(0,1,(t 14)),(1,1,(.const (.int .i64 3)))]) [0,1,2,6,7,8,11,12],d' 16 2 1 [0,1,2,3,4,5,11,12],f' 17 1 16 [0,1,2,3,4,5,11,12],u 18 (.build Z3 [(0,1,(t 17)),(1,1,(.const (.int .i64 3)))]) [0,1,2,3,4,5,11,12],u 19 (.bsl 135 2 Z3 3 [(0,2,(t 12)),(2,2,(t 15)),(4,2,(t 18))]) [11,12],ca' 20 69 19 [11,12],d' 21 3 1 [0,1,2,3,4,5,6,7,8,9,10],f' 22 1 21 [0,1,2,3,4,5,6,7,8,9,10],o 23 (.app 5 1 1 (.int .u8 0) (t 20) (t 22)),ca 24 68 23,e' 25 24 0 [16],e' 26 24 1 [15],m 2 25,m 3 26]) N)))).c
def a31:AFunc:=⟨27,c31,[.tmp 2,.tmp 3],1⟩
def c32:ACode:=({c:=_}:TbD (S (.region [b 2 35 0,o 4 (.alloc 35 Z7),z 5,n 6 0,n 7 0] false) (S (R [l 15 28 2,ca 16 33 15,m 14 16,e 17 14 0,e 18 14 1,m 8 17,m 7 18]) (S (S (R [m 19 7,w 20 .neq 30 19 0 30 4]) (C 20 (S (.region [o 21 (.build Z7 []),m 22 7,s 28 4 21,z 5,n 6 0,m 7 22] false) N) K)) (S (R [m 24 1,ca 25 70 24,m 23 25,e 26 23 0,e 27 23 1,o 9 (.alloc 90 Z0),s 4 9 26,m 6 27]) (S (B 0 (S (D [m 29 6,w 30 .neq 30 29 0 30 4,m 31 30,q 32 (d_ 0 9) 31 [5,6,7,8,9,10],q 33 (f_ 1 32) 31 [5,6,7,8,9,10],q 34 (m_ 8) 31 [3,4],q 35 (.nilck (t 34)) 31 [3,4],q 36 (d_ 0 35) 31 [3,4],q 37 (d_ 4 36) 31 [3,4],q 38 (d_ 0 37) 31 [3,4],q 39 (f_ 1 38) 31 [3,4],q 40 (v_ .lss 3 33 39 3 4) 31 [],y 41 31 40,m 28 41]) (C 28 (S (R [m 42 8,o 43 (.nilck (t 42)),d 44 0 43,l 45 28 44,m 46 6,s 28 4 45,z 5,m 6 46,n 7 0]) N) (S (D [d' 48 0 9 [2,3,4,5,6,7],f' 49 1 48 [2,3,4,5,6,7],m' 50 8 [0,1],u 51 (.nilck (t 50)) [0,1],d' 52 0 51 [0,1],d' 53 4 52 [0,1],d' 54 0 53 [0,1],f' 55 1 54 [0,1],v 56 .gtr 3 49 55 3 4,m 47 56]) (C 47 (S (R [m 57 8,d 58 0 9,f 59 1 58,cb 60 71 57 59]) (S (D [m' 61 8 [4,5],u 62 (.nilck (t 61)) [4,5],d' 63 0 62 [4,5],l' 64 28 63 [4,5],m' 65 8 [0,1,2,3],ca' 66 35 65 [0,1,2,3],s 28 4 64,m 5 66,n 6 0,n 7 0]) N)) K))))) (S (.region [m' 68 8 [5,12],u 69 (.nilck (t 68)) [5,12],d' 70 0 69 [5,12],d' 71 4 70 [5,12],l' 72 6 71 [5,12],l' 73 4 9 [0,1,2,3,4,12],cb' 74 72 72 73 [12],m' 67 74 [12],e' 75 67 0 [9,10,11,12],e' 76 67 1 [8,10,11,12,13],e' 77 67 2 [8,9,11,12,13,14],e' 78 67 3 [8,9,10,12,13,14,15],u 10 (.alloc 29 Z2) [0,1,2,3,4,5,6,7,8,9,10,11],s' 6 10 75 [9,10,11],m' 11 76 [10,11],m' 12 77 [11],m 13 78] true) (S (R [m 79 8,l 80 6 10,o 81 (.nilck (t 79)),d 82 0 81,d 83 4 82,s 6 83 80]) (S (S (R [m 84 12]) (C 84 (R [m 85 8,m 86 11,cb 87 73 85 86,m 6 87]) K)) (S (S (R [m 88 8,o 89 (.nilck (t 88)),d 90 0 89,d 91 4 90,d 92 5 91,f 93 1 92]) (C 93 (R [m 94 8,ca 95 35 94,m 5 95]) K)) (S (R [m 96 8,o 97 (.nilck (t 96)),d 98 0 97,l 99 28 98,m 100 5,m 101 6,s 28 4 99,m 5 100,m 6 101,n 7 0]) N))))))))))).c
def a32:AFunc:=⟨102,c32,[.cell 4 28 true,.tmp 5,.tmp 6,.tmp 7],1⟩
def c33:ACode:=({c:=_}:TbD (S (R [b 1 35 0,o 2 (.mov (.const (.pointer none))),n 3 0]) (S (S (R [l 5 28 1,ca 6 10 5,m 4 6]) (S (R [m 7 4,w 8 .neq 30 7 0 30 4]) (C 8 (S (R [m 9 4,o 2 (.mov (.const (.pointer none))),m 3 9]) N) K))) (S (.region [l 10 28 1,ca 11 74 10,o 12 (.build Z7 [(0,28,(t 11))]),b 13 74 12,m 2 13,n 3 0] false) N)))).c
def a33:AFunc:=⟨14,c33,[.tmp 2,.tmp 3],0⟩
def c34:ACode:=({c:=_}:TbD (S (S (R [m 3 0,o 4 (.nilck (t 3)),d 5 0 4,d 6 10 5,f 7 1 6,o 8 (.pur (mkO (.binOp .neq 5 (t 7) (.const (.int .u8 2)) 5) 4)),m 9 8,q 10 (m_ 0) 9 [],q 11 (.nilck (t 10)) 9 [],q 12 (d_ 0 11) 9 [],q 13 (d_ 15 12) 9 [],q 14 (f_ 1 13) 9 [],y 15 9 14,m 16 15,q 17 (m_ 0) 16 [],q 18 (.nilck (t 17)) 16 [],q 19 (d_ 0 18) 16 [],q 20 (d_ 14 19) 16 [],q 21 (f_ 1 20) 16 [],q 22 (k_ 21) 16 [],q 23 (w_ .eql 3 22 0 3 4) 16 [],y 24 16 23,m 25 24,q 26 (m_ 0) 25 [],q 27 (.nilck (t 26)) 25 [],q 28 (d_ 0 27) 25 [],q 29 (d_ 16 28) 25 [],q 30 (f_ 1 29) 25 [],q 31 (w_ .add 3 30 1 3 3) 25 [],q 32 (w_ .geq 3 31 16777152 3 4) 25 [],y 33 25 32]) (C 33 N K)) (S (.region [m 34 0,o 35 (.nilck (t 34)),d 36 0 35,l 37 28 36,ca 38 74 37,o 39 (.build Z7 [(0,28,(t 38))]),b 40 74 39,m 2 40] false) (S (R [m 41 2,o 42 (.nilck (t 41)),d 43 0 42,d 44 16 43,f 45 1 44,w 46 .add 3 45 1 3 3,o 47 (.nilck (t 41)),d 48 0 47,d 49 16 48,s 1 49 46]) (S (.region [m' 50 2 [5,6,7,8,9,10],u 51 (.nilck (t 50)) [5,6,7,8,9,10],d' 52 0 51 [5,6,7,8,9,10],d' 53 14 52 [5,6,7,8,9,10],f' 54 1 53 [5,6,7,8,9,10],m' 55 2 [0,1,2,3,4,6,7,8,9,10,11,12,13],m' 56 2 [0,1,2,3,4,5],u 57 (.nilck (t 56)) [0,1,2,3,4,5],d' 58 0 57 [0,1,2,3,4,5],d' 59 16 58 [0,1,2,3,4,5],f' 60 1 59 [0,1,2,3,4,5],u 61 (.iad 17 (t 54) (.const (.int .i64 0))) [5],d' 62 4 61 [5],s' 1 62 60 [5],o 63 (.nilck (t 55)),d 64 0 63,d 65 15 64,O (.store 1 (t 65) (.const (.bool true)))] true) (S (R [m 66 2,m 67 2,ca 68 75 67,cb 69 66 66 68,w 70 .eql 30 69 0 30 4]) (C 70 (R [m 71 0,m 72 2,o 73 (.nilck (t 72)),l 74 28 73,o 75 (.nilck (t 71)),s 28 75 74]) K))))))).c
def a34:AFunc:=⟨76,c34,[],0⟩
def c35:ACode:=({c:=_}:TbD (S (R [z 2]) (S (S (R [m 6 0,o 7 (.nilck (t 6)),d 8 0 7,d 9 4 8,d 10 0 9,f 11 1 10,w 12 .eql 3 11 0 3 4]) (C 12 (S (R [o 13 (.build Z0 []),o 14 (.bsl 90 4 Z0 1 [(0,4,(t 13))]),ca 15 76 14,m 2 15]) N) K)) (S (.region [m 17 0,o 18 (.nilck (t 17)),d 19 0 18,d 20 4 19,l 21 6 20,ca 22 77 21,m 16 22,e 23 16 0,e 24 16 1,e 25 16 2,o 3 (.alloc 29 Z2),s 6 3 23,m 4 24,m 5 25] false) (S (R [m 26 0,l 27 6 3,o 28 (.nilck (t 26)),d 29 0 28,d 30 4 29,s 6 30 27]) (S (R [m 31 4,ca 32 76 31,m 2 32]) N)))))).c
def a35:AFunc:=⟨33,c35,[.tmp 2],0⟩
def c36:ACode:=({c:=_}:TbD (S (R [o 2 (.mov (.const (.string ⟨#[]⟩)))]) (S (R [z 3]) (S (S (R [n 4 0]) (B 0 (L (S (S (R [m 7 4,m 8 0,k 9 8,v 10 .lss 3 7 9 3 4,m 11 10,p 12 (m_ 4) 11 [],p 13 (w_ .lss 3 12 64 3 4) 11 [],x 14 11 13]) (C 14 K (X 0))) (S (B 1 (R [m 17 3,m 18 0,m 19 4,i 20 5 18 19,d 21 4 20,f 22 1 21,o 23 (.bsl 21 1 (.int .i32 0) 1 [(0,1,(t 22))]),o 24 (.app 21 1 4 (.int .i32 0) (t 17) (t 23)),m 3 24])) (R [m 15 4,w 16 .add 3 15 1 3 3,m 4 16])))))) (S (R [m 26 3,o 27 (.call (.func 78) [(t 26),(.const (.string ⟨#[63]⟩))]),m 25 27,e 28 25 0,e 29 25 1,m 5 28,m 6 29]) (S (S (R [m 30 6,w 31 .neq 30 30 0 30 4]) (C 31 (S (R [o 2 (.mov (.const (.string ⟨#[]⟩)))]) N) K)) (S (R [m 32 5,m 2 32]) N))))))).c
def a36:AFunc:=⟨33,c36,[.tmp 2],1⟩
def c37:ACode:=({c:=_}:TbD (S (R [b 1 61 0,z 2,n 3 0]) (S (.region [u 12 (.call (.func 79) []) [1,2,7],d' 13 0 1 [0,7],f' 14 1 13 [0,7],u 15 (.lookup 5 Z16 (t 12) (t 14) true) [7],m' 11 15 [7],e' 16 11 0 [6,7],e' 17 11 1 [5,7,8],u 4 (.alloc 153 Z16) [0,1,2,3,4,5,6],s' 2 4 16 [6],m 5 17] true) (S (R [d 18 0 1,f 19 1 18,o 20 (.pur (mkO (.binOp .eql 5 (t 19) (.const (.int .u8 8)) 5) 4)),m 21 20,q 22 (d_ 0 1) 21 [],q 23 (f_ 1 22) 21 [],q 24 (.pur (mkO (.binOp .eql 5 (t 23) (.const (.int .u8 2)) 5) 4)) 21 [],q 25 (m_ 24) 21 [],p 26 (d_ 11 1) 25 [],p 27 (f_ 1 26) 25 [],p 28 (k_ 27) 25 [],p 29 (w_ .eql 3 28 1 3 4) 25 [],q 30 (x_ 25 29) 21 [],y 31 21 30,m 32 31,q 33 (d_ 11 1) 32 [],q 34 (f_ 1 33) 32 [],q 35 (k_ 34) 32 [],q 36 (w_ .eql 3 35 0 3 4) 32 [],q 37 (m_ 36) 32 [],p 38 (d_ 0 1) 37 [],p 39 (f_ 1 38) 37 [],p 40 (.pur (mkO (.binOp .neq 5 (t 39) (.const (.int .u8 2)) 5) 4)) 37 [],q 41 (x_ 37 40) 32 [],y 42 32 41,m 6 42]) (S (S (R [m 43 5,j 44 4 43 4,m 45 44,q 46 (m_ 6) 45 [],q 47 (j_ 4 46 4) 45 [],y 48 45 47]) (C 48 (S (R [z 2,n 3 8]) N) K)) (S (.region [d 49 0 1,f 50 1 49,o 51 (.bsl 5 1 (.int .u8 0) 1 [(0,1,(t 50))]),o 52 (.build Z14 [(0,1,(t 51))]),b 53 159 52,m 7 53] false) (S (R [l 54 12 1,o 8 (.alloc 61 Z5),s 12 8 54]) (S (R [d 55 0 4,f 56 1 55,m 57 7,o 58 (.call (t 56) [(t 57),(t 8)])]) (S (S (R [m 59 7,o 60 (.nilck (t 59)),d 61 2 60,f 62 1 61,m 63 62,q 64 (d_ 1 4) 63 [],q 65 (f_ 1 64) 63 [],q 66 (l_ 12 1) 63 [],q 67 (.call (t 65) [(t 66)]) 63 [],q 68 (j_ 4 67 4) 63 [],y 69 63 68]) (C 69 (S (R [z 2,n 3 8]) N) K)) (S (S (R [m 71 7,o 72 (.nilck (t 71)),d 73 0 72,f 74 1 73,ca 75 80 74,m 70 75,e 76 70 0,e 77 70 1,o 9 (.alloc 61 Z5),s 12 9 76,m 10 77]) (S (R [m 78 10,w 79 .neq 30 78 0 30 4,m 80 79,q 81 (l_ 12 9) 80 [],q 82 (l_ 12 1) 80 [],q 83 (cb_ 81 81 82) 80 [],q 84 (j_ 4 83 4) 80 [],y 85 80 84]) (C 85 (S (R [z 2,n 3 8]) N) K))) (S (R [m 86 7,o 87 (.nilck (t 86)),d 88 0 87,f 89 1 88,m 2 89,n 3 0]) N))))))))))).c
def a37:AFunc:=⟨90,c37,[.tmp 2,.tmp 3],1⟩
def c38:ACode:=({c:=_}:TbD (S (R [b 4 26 1,n 6 0]) (S (S (D [m' 8 0 [2],ca' 9 60 8 [2],l' 10 3 4 [0,1],ca 11 24 10,o 12 (.pur (mkO (.call ⟨.builtin .max,#[(t 9),(t 11)],#[30,30]⟩) 30)),m 7 12]) (S (R [m 13 7,w 14 .neq 30 13 0 30 4]) (C 14 (S (R [m 15 7,m 6 15]) N) K))) (S (S (R [m 16 2,w 17 .lss 3 16 1 3 4,m 18 17,q 19 (m_ 2) 18 [],q 20 (w_ .geq 3 19 16777152 3 4) 18 [],y 21 18 20]) (C 21 (S (R [n 6 2]) N) K)) (S (R [n 6 0]) N))))).c
def a38:AFunc:=⟨22,c38,[.tmp 6],1⟩
def c39:ACode:=({c:=_}:TbD (S (R [b 4 24 1,o 6 (.alloc 48 Z10),n 7 0]) (S (R [m 11 0,l 12 2 4,cb 13 22 11 12,m 10 13,e 14 10 0,e 15 10 1,m 8 14,m 9 15]) (S (B 0 (S (R [m 17 9,w 18 .neq 30 17 0 30 4,m 16 18]) (C 16 (S (R [o 19 (.build Z10 []),m 20 9,s 4 6 19,m 7 20]) N) (S (R [m 22 2,w 23 .lss 3 22 0 3 4,m 24 23,q 25 (m_ 2) 24 [],q 26 (m_ 8) 24 [],q 27 (k_ 26) 24 [],q 28 (v_ .gtr 3 25 27 3 4) 24 [],y 29 24 28,m 21 29]) (C 21 (S (R [o 30 (.build Z10 []),s 4 6 30,n 7 2]) N) (S (R [m 32 2,w 33 .eql 3 32 0 3 4,m 31 33]) (C 31 (S (R [o 34 (.build Z10 []),s 4 6 34,n 7 0]) N) K))))))) (S (R [m 35 8,m 36 2,w 37 .sub 3 36 1 3 3,i 38 5 35 37,d 39 0 38,l 40 4 39,s 4 6 40,n 7 0]) N))))).c
def a39:AFunc:=⟨41,c39,[.cell 6 4 true,.tmp 7],1⟩
def c40:ACode:=({c:=_}:TbD (S (R [b 3 26 1,n 4 0,n 5 0]) (S (R [m 13 0,ca 14 44 13,m 12 14,e 15 12 0,e 16 12 1,m 6 15,m 7 16]) (S (S (R [m 17 7,w 18 .neq 30 17 0 30 4]) (C 18 (S (R [m 19 7,n 4 0,m 5 19]) N) K)) (S (S (R [l 20 3 3,ca 21 24 20,m 8 21]) (S (R [m 22 8,w 23 .neq 30 22 0 30 4]) (C 23 (S (R [m 24 8,n 4 0,m 5 24]) N) K))) (S (R [n 9 0]) (S (S (R [m 25 6,ca 26 46 25,k 27 26,n 28 0]) (B 0 (L (S (R [v 29 .lss 3 28 27 3 0]) (S (C 29 K (X 0)) (S (B 1 (S (R [i 30 5 26 28,l 31 5 30,o 11 (.alloc 50 Z6),s 5 11 31]) (S (R [d 32 0 11,d 33 0 32,d 34 0 33,l 35 2 34,d 36 0 3,l 37 2 36,cb 38 55 35 37]) (C 38 (R [m 39 9,d 40 0 11,d 41 3 40,f 42 1 41,o 43 (.pur (mkO (.call ⟨.builtin .max,#[(t 39),(t 42)],#[3,3]⟩) 3)),m 9 43]) K)))) (R [w 44 .add 3 28 1 3 3,m 28 44]))))))) (S (S (R [m 45 9,w 46 .geq 3 45 1099511627776 3 4]) (C 46 (S (R [n 4 0,n 5 9]) N) K)) (S (R [m 47 9,w 48 .add 3 47 1 3 3,m 4 48,n 5 0]) N))))))))).c
def a40:AFunc:=⟨49,c40,[.tmp 4,.tmp 5],1⟩
def c41:ACode:=({c:=_}:TbD (S (R [z 2]) (S (R [n 3 0]) (S (S (R [m 9 0,k 10 9,n 11 0]) (B 0 (L (S (R [v 12 .lss 3 11 10 3 0]) (S (C 12 K (X 0)) (S (B 1 (S (R [i 13 1 9 11,f 14 1 13,m 5 14]) (S (R [m 15 3,m 16 5,k 17 16,v 18 .add 3 15 17 3 3,m 3 18]) (S (R [m 19 3,w 20 .lss 3 19 0 3 4]) (C 20 (R [o 21 (.bad "op"),O (.bad "op")]) K))))) (R [w 22 .add 3 11 1 3 3,m 11 22]))))))) (S (R [m 23 3,o 24 (.call (.func 82) [(.const (.slice none 0 0)),(t 23)]),m 6 24]) (S (S (R [m 25 0,k 26 25,n 27 0]) (B 2 (L (S (R [v 28 .lss 3 27 26 3 0]) (S (C 28 K (X 2)) (S (B 3 (S (R [i 29 1 25 27,f 30 1 29,m 8 30]) (R [m 31 6,m 32 8,o 33 (.app 69 17 112 Z13 (t 31) (t 32)),m 6 33]))) (R [w 34 .add 3 27 1 3 3,m 27 34]))))))) (S (R [m 35 6,m 2 35]) N))))))).c
def a41:AFunc:=⟨36,c41,[.tmp 2],0⟩
def c42:ACode:=({c:=_}:TbD (S (R [b 3 69 1,n 4 0]) (S (R [m 9 0,ca 10 83 9,m 8 10,e 11 8 0,e 12 8 1,m 5 11,m 6 12]) (S (S (R [m 13 6,j 14 4 13 4]) (C 14 (S (R [n 4 8]) N) K)) (S (S (R [l 15 17 3,ca 16 84 15,m 7 16]) (S (R [m 17 7,w 18 .neq 30 17 0 30 4]) (C 18 (S (R [m 19 7,m 4 19]) N) K))) (S (R [m 20 5,l 21 17 3,cb 22 85 20 21,m 4 22]) N)))))).c
def a42:AFunc:=⟨23,c42,[.tmp 4],2⟩
def c43:ACode:=({c:=_}:TbD (S (R [b 3 24 1,z 4,n 5 0]) (S (S (D [m' 9 0 [2],ca' 10 60 9 [2],l' 11 2 3 [0,1],ca 12 52 11,o 13 (.pur (mkO (.call ⟨.builtin .max,#[(t 10),(t 12)],#[30,30]⟩) 30)),m 6 13]) (S (R [m 14 6,w 15 .neq 30 14 0 30 4]) (C 15 (S (R [m 16 6,z 4,m 5 16]) N) K))) (S (S (R [m 17 0,k 18 17,n 19 0]) (B 0 (L (S (R [v 20 .lss 3 19 18 3 0]) (S (C 20 K (X 0)) (S (B 1 (S (R [i 21 17 17 19,l 22 17 21,o 8 (.alloc 69 Z13),s 17 8 22]) (S (R [d 23 1 8,d 24 0 23,l 25 2 24,l 26 2 3,cb 27 55 25 26]) (C 27 (R [m 28 4,l 29 17 8,ca 30 86 29,o 31 (.bsl 69 17 Z13 1 [(0,17,(t 30))]),o 32 (.app 69 17 112 Z13 (t 28) (t 31)),m 4 32]) K)))) (R [w 33 .add 3 19 1 3 3,m 19 33]))))))) (S (R [m 34 4,m 4 34,n 5 0]) N))))).c
def a43:AFunc:=⟨35,c43,[.tmp 4,.tmp 5],1⟩
def c44:ACode:=({c:=_}:TbD (S (R [z 2,n 3 0]) (S (S (R [m 9 0,ca 10 60 9,m 4 10]) (S (R [m 11 4,w 12 .neq 30 11 0 30 4]) (C 12 (S (R [m 13 4,z 2,m 3 13]) N) K))) (S (S (R [m 14 0,k 15 14,n 16 0]) (B 0 (L (S (R [v 17 .lss 3 16 15 3 0]) (S (C 17 K (X 0)) (S (B 1 (S (R [i 18 17 14 16,l 19 17 18,o 6 (.alloc 69 Z13),s 17 6 19]) (S (R [l 21 17 6,ca 22 87 21,m 20 22,e 23 20 0,e 24 20 1,o 7 (.alloc 172 Z8),s 10 7 23,m 8 24]) (S (R [m 25 8,w 26 .eql 30 25 0 30 4]) (C 26 (S (R [m 28 2,l 29 10 7,cb 30 88 28 29,m 27 30,e 31 27 0,e 32 27 1,m 2 31,m 8 32]) (S (R [m 33 8,w 34 .neq 30 33 0 30 4]) (C 34 (S (R [m 35 8,z 2,m 3 35]) N) K))) K))))) (R [w 36 .add 3 16 1 3 3,m 16 36]))))))) (S (R [m 37 2,m 2 37,n 3 0]) N))))).c
def a44:AFunc:=⟨38,c44,[.tmp 2,.tmp 3],1⟩
def c45:ACode:=({c:=_}:TbD (S (R [z 4]) (S (S (R [m 9 0,k 10 9,n 11 0]) (B 0 (L (S (R [v 12 .lss 3 11 10 3 0]) (S (C 12 K (X 0)) (S (B 1 (S (R [i 13 5 9 11,l 14 5 13,o 6 (.alloc 50 Z6),s 5 6 14]) (S (R [m 16 1,l 17 5 6,o 18 (.call (t 16) [(t 17)]),m 15 18,e 19 15 0,e 20 15 1,o 7 (.alloc 50 Z6),s 5 7 19,m 8 20]) (S (R [m 21 8]) (C 21 (R [m 22 4,l 23 5 7,o 24 (.bsl 50 5 Z6 1 [(0,5,(t 23))]),o 25 (.app 50 5 32 Z6 (t 22) (t 24)),m 4 25]) K))))) (R [w 26 .add 3 11 1 3 3,m 11 26]))))))) (S (R [m 27 4,m 4 27]) N)))).c
def a45:AFunc:=⟨28,c45,[.tmp 4],0⟩
def c46:ACode:=({c:=_}:TbD (S (R [z 2]) (S (S (R [m 10 0,k 11 10,n 12 0]) (B 0 (L (S (R [v 13 .lss 3 12 11 3 0]) (S (C 13 K (X 0)) (S (B 1 (S (R [i 14 10 10 12,l 15 10 14,o 4 (.alloc 172 Z8),s 10 4 15]) (S (R [d 16 0 4,d 17 4 16,f 18 1 17,n 19 0]) (B 2 (L (S (R [v 20 .lss 3 19 18 3 4]) (S (C 20 K (X 2)) (S (B 3 (S (R [m 21 19,m 5 21]) (S (R [l 23 10 4,m 24 5,cb 25 89 23 24,m 22 25,e 26 22 0,e 27 22 1,e 28 22 2,e 29 22 3,o 6 (.alloc 48 Z10),o 7 (.alloc 48 Z10),s 4 6 26,s 4 7 27,m 8 28,m 9 29]) (R [m 30 2,l 31 4 6,m 32 8,o 33 (.build Z6 [(0,4,(t 31)),(4,1,(t 32))]),o 34 (.bsl 50 5 Z6 1 [(0,5,(t 33))]),o 35 (.app 50 5 32 Z6 (t 30) (t 34)),m 2 35])))) (R [w 36 .add 3 19 1 3 3,m 19 36]))))))))) (R [w 37 .add 3 12 1 3 3,m 12 37]))))))) (S (R [m 38 2,m 2 38]) N)))).c
def a46:AFunc:=⟨39,c46,[.tmp 2],1⟩
def c47:ACode:=({c:=_}:TbD (S (R [b 3 50 0,o 4 (.alloc 50 Z6),bf 5]) (S (R [f 11 1 1,d 12 0 3,l 13 4 12,cb 14 48 11 13,m 10 14,e 15 10 0,e 16 10 1,m 6 15,m 7 16]) (S (S (R [f 18 1 1,d 19 0 3,l 20 4 19,l 21 2 2,cd 22 49 18 20 21,m 17 22,e 23 17 0,e 24 17 1,m 8 23,m 9 24]) (S (R [m 25 8,j 26 4 25 4]) (C 26 (R [d 27 4 3,O (.store 1 (t 27) (.const (.int .i32 (-1))))]) K))) (S (R [l 28 5 3,m 29 6,j 30 4 29 4,s 5 4 28,m 5 30]) N))))).c
def a47:AFunc:=⟨31,c47,[.cell 4 5 true,.tmp 5],0⟩
def c48:ACode:=({c:=_}:TbD (S (R [b 3 48 1,bf 4,n 5 0]) (S (S (R [m 7 0,ca 8 60 7,m 6 8]) (S (R [m 9 6,w 10 .neq 30 9 0 30 4]) (C 10 (S (R [m 11 6,bf 4,m 5 11]) N) K))) (S (R [m 12 0,o 13 (.mkfn 90 [] [(t 3)]),cb 14 59 12 13,m 4 14,n 5 0]) N)))).c
def a48:AFunc:=⟨15,c48,[.tmp 4,.tmp 5],1⟩
def c49:ACode:=({c:=_}:TbD (S (R [b 4 48 1,b 5 24 2,bf 6,n 7 0]) (S (S (R [m 10 0,l 11 4 4,l 12 2 5,cd 13 92 10 11 12,m 8 13]) (S (R [m 14 8,w 15 .neq 30 14 0 30 4]) (C 15 (S (R [m 16 8,bf 6,m 7 16]) N) K))) (S (R [o 17 (.mkfn 93 [] [(t 5)]),m 9 17]) (S (R [m 18 0,l 19 4 4,l 20 2 5,cd 21 95 18 19 20,m 22 9,cb 23 94 21 22,j 24 4 23 4,m 6 24,n 7 0]) N))))).c
def a49:AFunc:=⟨25,c49,[.tmp 6,.tmp 7],1⟩
def c50:ACode:=({c:=_}:TbD (S (R [bf 4]) (S (R [m 5 0,o 6 (.pur (mkO (.call ⟨.builtin .len,#[(t 5)],#[9]⟩) 3)),m 7 1,o 8 (.pur (mkO (.call ⟨.builtin .len,#[(t 7)],#[9]⟩) 3)),v 9 .geq 3 6 8 3 4,m 10 9,p 11 (m_ 0) 10 [],p 12 (m_ 1) 10 [],p 13 (.pur (mkO (.call ⟨.builtin .len,#[(t 12)],#[9]⟩) 3)) 10 [],p 14 (.pur (mkO (.slice 9 (t 11) none (some (t 13)) none) 9)) 10 [],p 15 (m_ 1) 10 [],p 16 (v_ .eql 9 14 15 9 4) 10 [],x 17 10 16,m 4 17]) N))).c
def a50:AFunc:=⟨18,c50,[.tmp 4],1⟩
def c51:ACode:=({c:=_}:TbD (S (R [n 2 0]) (S (S (R [m 3 0]) (C 3 (S (R [n 2 0]) N) K)) (S (R [n 2 8]) N)))).c
def a51:AFunc:=⟨4,c51,[.tmp 2],1⟩
def c52:ACode:=({c:=_}:TbD (S (R [b 1 24 0,n 2 0]) (S (S (R [d 3 0 1,f 4 1 3,o 5 (.pur (mkO (.binOp .gtr 5 (t 4) (.const (.int .u8 15)) 5) 4))]) (C 5 (S (R [n 2 8]) N) K)) (S (R [n 2 0]) N)))).c
def a52:AFunc:=⟨6,c52,[.tmp 2],1⟩
def c53:ACode:=({c:=_}:TbD (S (R [bf 6]) (S (R [m 7 0,m 8 1,v 9 .geq 3 7 8 3 4,m 10 9,p 11 (m_ 0) 10 [],p 12 (m_ 2) 10 [],p 13 (v_ .lss 3 11 12 3 4) 10 [],x 14 10 13,m 6 14]) N))).c
def a53:AFunc:=⟨15,c53,[.tmp 6],1⟩
def c54:ACode:=({c:=_}:TbD (S (R [b 2 69 0,bf 3]) (S (R [d 4 1 2,d 5 0 4,l 6 2 5,d 7 0 1,d 8 0 7,l 9 2 8,cb 10 55 6 9,j 11 4 10 4,m 3 11]) N))).c
def a54:AFunc:=⟨12,c54,[.tmp 3],0⟩
def c55:ACode:=({c:=_}:TbD (S (R [b 2 24 0,b 3 24 1,bf 4]) (S (R [d 5 0 2,f 6 1 5,d 7 0 3,f 8 1 7,v 9 .leq 5 6 8 5 4,m 10 9,p 11 (d_ 1 2) 10 [],p 12 (f_ 1 11) 10 [],p 13 (d_ 1 3) 10 [],p 14 (f_ 1 13) 10 [],p 15 (v_ .andNot 22 12 14 22 22) 10 [],p 16 (.pur (mkO (.binOp .eql 22 (t 15) (.const (.int .u32 0)) 22) 4)) 10 [],x 17 10 16,m 4 17]) N))).c
def a55:AFunc:=⟨18,c55,[.tmp 4],1⟩
def c56:ACode:=({c:=_}:TbD (S (R [b 2 69 0,bf 3]) (S (R [d 4 1 2,l 5 3 4,d 6 0 1,l 7 3 6,v 8 .neq 26 5 7 26 4,m 3 8]) N))).c
def a56:AFunc:=⟨9,c56,[.tmp 3],0⟩
def c57:ACode:=({c:=_}:TbD (S (R [b 1 69 0,bf 2]) (S (R [l 3 17 1,ca 4 58 3,j 5 4 4 4,m 2 5]) N))).c
def a57:AFunc:=⟨6,c57,[.tmp 2],0⟩
def c58:ACode:=({c:=_}:TbD (S (R [b 1 69 0,bf 2]) (S (R [d 3 16 1,f 4 1 3,o 5 (.call (.func 96) [(t 4),(.const (.int .i32 (-1)))]),j 6 4 5 4,m 2 6]) N))).c
def a58:AFunc:=⟨7,c58,[.tmp 2],1⟩
def c59:ACode:=({c:=_}:TbD (S (R [bf 4]) (S (R [m 5 0,m 6 1,cb 7 97 5 6,w 8 .geq 3 7 0 3 4,m 4 8]) N))).c
def a59:AFunc:=⟨9,c59,[.tmp 4],0⟩
def c60:ACode:=({c:=_}:TbD (S (R [n 2 0]) (S (S (R [m 6 0,ca 7 83 6,m 5 7,e 8 5 0,e 9 5 1,m 3 8,m 4 9]) (S (R [m 10 4,j 11 4 10 4]) (C 11 (S (R [n 2 8]) N) K))) (S (R [n 2 0]) N)))).c
def a60:AFunc:=⟨12,c60,[.tmp 2],1⟩
def c61:ACode:=({c:=_}:TbD (S (R [bf 4]) (S (R [m 5 0,m 6 1,cb 7 98 5 6,w 8 .geq 3 7 0 3 4,m 4 8]) N))).c
def a61:AFunc:=⟨9,c61,[.tmp 4],2⟩
def c62:ACode:=({c:=_}:TbD (S (R [bf 2]) (S (R [m 3 0,ca 4 63 3,j 5 4 4 4,m 2 5]) N))).c
def a62:AFunc:=⟨6,c62,[.tmp 2],1⟩
def c63:ACode:=({c:=_}:TbD (S (R [bf 2]) (S (R [m 3 0,w 4 .geq 3 3 0 3 4,m 5 4,p 6 (m_ 0) 5 [],p 7 (w_ .lss 3 6 16777216 3 4) 5 [],x 8 5 7,m 2 8]) N))).c
def a63:AFunc:=⟨9,c63,[.tmp 2],1⟩
def c64:ACode:=({c:=_}:TbD (S (.region [o 2 (.alloc 29 Z2),n 3 0] false) (S (S (R [m 4 0,o 5 (.call (.func 53) [(t 4),(.const (.int .i64 0)),(.const (.int .i64 2147483648))]),j 6 4 5 4]) (C 6 (S (.region [o 7 (.build Z2 []),s 6 2 7,n 3 2] false) N) K)) (S (.region [m 8 0,o 9 (.build Z2 [(0,1,(t 8)),(1,1,(.const (.int .i64 1))),(3,1,(.const (.int .i64 1)))]),s 6 2 9,n 3 0] false) N)))).c
def a64:AFunc:=⟨10,c64,[.cell 2 6 true,.tmp 3],1⟩
def c65:ACode:=({c:=_}:TbD (S (R [n 2 0]) (S (S (R [m 3 0,o 4 (.nilck (t 3)),d 5 0 4,d 6 10 5,f 7 1 6,o 8 (.pur (mkO (.binOp .neq 5 (t 7) (.const (.int .u8 0)) 5) 4))]) (C 8 (S (R [n 2 6]) N) K)) (S (R [m 9 0,o 10 (.nilck (t 9)),d 11 0 10,d 12 10 11,O (.store 1 (t 12) (.const (.int .u8 1)))]) (S (R [m 13 0,m 14 0,o 15 (.nilck (t 14)),d 16 0 15,d 17 3 16,f 18 1 17,o 19 (.build Z5 [(0,1,(.const (.int .u8 1))),(1,1,(t 18))]),cb 20 66 13 19,m 2 20]) N))))).c
def a65:AFunc:=⟨21,c65,[.tmp 2],0⟩
def c66:ACode:=({c:=_}:TbD (S (R [b 3 61 1,n 4 0]) (S (R [l 9 12 3,ca 10 37 9,m 8 10,e 11 8 0,e 12 8 1,m 5 11,m 6 12]) (S (S (R [m 13 6,w 14 .neq 30 13 0 30 4]) (C 14 (S (R [n 4 9]) N) K)) (S (.region [m 16 0,o 17 (.nilck (t 16)),d 18 0 17,d 19 4 18,l 20 6 19,m 21 5,cb 22 99 20 21,m 15 22,e 23 15 0,e 24 15 1,o 7 (.alloc 29 Z2),s 6 7 23,m 6 24] false) (S (S (R [m 25 6,w 26 .neq 30 25 0 30 4]) (C 26 (S (R [n 4 9]) N) K)) (S (R [m 27 0,l 28 6 7,o 29 (.nilck (t 27)),d 30 0 29,d 31 4 30,s 6 31 28]) (S (R [n 4 0]) N)))))))).c
def a66:AFunc:=⟨32,c66,[.tmp 4],0⟩
def c67:ACode:=({c:=_}:TbD (S (R [b 1 90 0,n 2 0]) (S (R [d 4 0 1,f 5 1 4,o 6 (.call (.func 53) [(t 5),(.const (.int .i64 0)),(.const (.int .i64 2147483648))]),m 7 6,p 8 (d_ 1 1) 7 [],p 9 (f_ 1 8) 7 [],p 10 (.call (.func 53) [(t 9),(.const (.int .i64 0)),(.const (.int .i64 16777216))]) 7 [],x 11 7 10,m 12 11,p 13 (d_ 2 1) 12 [],p 14 (f_ 1 13) 12 [],p 15 (.call (.func 53) [(t 14),(.const (.int .i64 0)),(.const (.int .i64 16777216))]) 12 [],x 16 12 15,m 3 16]) (S (S (R [m 17 3,j 18 4 17 4,m 19 18,q 20 (d_ 3 1) 19 [],q 21 (f_ 1 20) 19 [],q 22 (k_ 21) 19 [],q 23 (w_ .gtr 3 22 900 3 4) 19 [],y 24 19 23,m 25 24,q 26 (d_ 1 1) 25 [],q 27 (f_ 1 26) 25 [],q 28 (w_ .eql 3 27 0 3 4) 25 [],q 29 (m_ 28) 25 [],p 30 (d_ 3 1) 29 [],p 31 (f_ 1 30) 29 [],p 32 (k_ 31) 29 [],p 33 (w_ .gtr 3 32 0 3 4) 29 [],q 34 (x_ 29 33) 25 [],y 35 25 34]) (C 35 (S (R [n 2 8]) N) K)) (S (R [n 2 0]) N))))).c
def a67:AFunc:=⟨36,c67,[.tmp 2],1⟩
def c68:ACode:=({c:=_}:TbD (S (R [z 2,n 3 0]) (S (R [m 10 0,k 11 10,ca 12 100 11,m 9 12,e 13 9 0,e 14 9 1,m 4 13,m 5 14]) (S (S (R [m 15 5,w 16 .neq 30 15 0 30 4]) (C 16 (S (R [m 17 5,z 2,m 3 17]) N) K)) (S (R [m 19 0,k 20 19,ca 21 101 20,m 18 21,e 22 18 0,e 23 18 1,m 6 22,m 5 23]) (S (R [o 24 (.bsl 5 1 (.int .u8 0) 1 [(0,1,(.const (.int .u8 181)))]),m 25 6,o 26 (.app 5 1 1 (.int .u8 0) (t 24) (t 25)),m 7 26]) (S (R [m 27 7,k 28 27,m 8 28]) (S (R [m 29 7,m 30 4,w 31 .sub 3 30 3 3 3,m 32 8,v 33 .sub 3 31 32 3 3,o 34 (.appz 5 1 1 (.int .u8 0) (t 29) (t 33)),m 7 34]) (S (R [m 35 7,m 36 8,o 37 (.slc 1 (t 35) (some (t 36)) none none),m 38 0,o 39 (.cpy 1 (t 37) (t 38))]) (S (R [m 40 7,m 41 7,ca 42 103 41,ca 43 102 42,o 44 (.app 5 1 1 (.int .u8 0) (t 40) (t 43)),m 45 5,m 2 44,m 3 45]) N)))))))))).c
def a68:AFunc:=⟨46,c68,[.tmp 2,.tmp 3],1⟩
def c69:ACode:=({c:=_}:TbD (S (R [z 2]) (S (S (R [m 6 0,k 7 6,n 8 0]) (B 0 (L (S (R [v 9 .lss 3 8 7 3 0]) (S (C 9 K (X 0)) (S (B 1 (S (R [i 10 2 6 8,l 11 2 10,o 4 (.alloc 135 Z3),s 2 4 11]) (S (R [d 12 1 4,f 13 1 12,w 14 .sub 3 13 1 3 3,m 5 14]) (B 2 (L (S (S (R [m 15 5,w 16 .geq 3 15 0 3 4]) (C 16 K (X 2))) (S (B 3 (R [m 19 2,d 20 0 4,f 21 1 20,m 22 5,o 23 (.pur (mkO (.binOp .mul 3 (.const (.int .i64 8)) (t 22) 3) 3)),v 24 .shr 3 21 23 3 3,o 25 (.pur (mkO (.convert 3 5 (t 24)) 5)),o 26 (.bsl 5 1 (.int .u8 0) 1 [(0,1,(t 25))]),o 27 (.app 5 1 1 (.int .u8 0) (t 19) (t 26)),m 2 27])) (R [m 17 5,w 18 .sub 3 17 1 3 3,m 5 18])))))))) (R [w 28 .add 3 8 1 3 3,m 8 28]))))))) (S (R [m 29 2,m 2 29]) N)))).c
def a69:AFunc:=⟨30,c69,[.tmp 2],0⟩
def c70:ACode:=({c:=_}:TbD (S (R [o 2 (.alloc 90 Z0),n 3 0]) (S (R [m 8 0,ca 9 104 8,m 7 9,e 10 7 0,e 11 7 1,m 4 10,m 5 11]) (S (S (R [m 12 5,w 13 .neq 30 12 0 30 4]) (C 13 (S (R [o 14 (.build Z0 []),m 15 5,s 4 2 14,m 3 15]) N) K)) (S (S (R [m 16 4,k 17 16,w 18 .lss 3 17 10 3 4]) (C 18 (S (R [o 19 (.build Z0 []),s 4 2 19,n 3 90]) N) K)) (S (D [m' 20 4 [3,4,6,7,9,10,13],u 21 (.slc 1 (t 20) none (some (.const (.int .i64 4))) none) [3,4,6,7,9,10,13],ca' 22 105 21 [3,4,6,7,9,10,13],m' 23 4 [0,1,2,6,7,9,10,13],u 24 (.slc 1 (t 23) (some (.const (.int .i64 4))) (some (.const (.int .i64 7))) none) [0,1,2,6,7,9,10,13],ca' 25 105 24 [6,7,9,10,13],m' 26 4 [0,1,2,3,4,5,9,10,13],u 27 (.slc 1 (t 26) (some (.const (.int .i64 7))) (some (.const (.int .i64 10))) none) [0,1,2,3,4,5,9,10,13],ca' 28 105 27 [9,10,13],m' 29 4 [0,1,2,3,4,5,6,7,8,13],u 30 (.slc 1 (t 29) (some (.const (.int .i64 10))) none none) [0,1,2,3,4,5,6,7,8,13],ca' 31 106 30 [13],u 32 (.build Z0 [(0,1,(t 22)),(1,1,(t 25)),(2,1,(t 28)),(3,1,(t 31))]) [13],u 6 (.alloc 90 Z0) [0,1,2,3,4,5,6,7,8,9,10,11,12],s 4 6 32]) (S (S (R [l 33 4 6,ca 34 67 33,w 35 .neq 30 34 0 30 4]) (C 35 (S (R [o 36 (.build Z0 []),s 4 2 36,n 3 90]) N) K)) (S (R [l 37 4 6,s 4 2 37,n 3 0]) N)))))))).c
def a70:AFunc:=⟨38,c70,[.cell 2 4 true,.tmp 3],1⟩
def c71:ACode:=({c:=_}:TbD (S (R [m 5 0,m 6 1,ca 7 64 6,m 4 7,e 8 4 0,e 9 4 1,o 10 (.nilck (t 5)),d 11 0 10,d 12 4 11,s 6 12 8]) (S (S (R [m 13 0,o 14 (.nilck (t 13)),d 15 0 14,d 16 10 15,f 17 1 16,o 18 (.pur (mkO (.binOp .neq 5 (t 17) (.const (.int .u8 0)) 5) 4))]) (C 18 (R [m 19 0,m 20 0,o 21 (.nilck (t 20)),d 22 0 21,d 23 3 22,f 24 1 23,o 25 (.build Z5 [(0,1,(.const (.int .u8 1))),(1,1,(t 24))]),cb 26 66 19 25]) K)) (S (S (R [m 27 0,o 28 (.nilck (t 27)),d 29 0 28,d 30 15 29,f 31 1 30]) (C 31 (R [m 32 0,m 33 0,ca 34 75 33,cb 35 66 32 34]) K)) (S (S (R [m 36 0,o 37 (.nilck (t 36)),d 38 0 37,d 39 17 38,f 40 1 39]) (C 40 (R [m 41 0,m 42 0,o 43 (.nilck (t 42)),d 44 0 43,d 45 12 44,f 46 1 45,k 47 46,o 48 (.build Z5 [(0,1,(.const (.int .u8 3))),(4,1,(t 47))]),cb 49 66 41 48]) K)) (S (R [m 50 0,o 51 (.nilck (t 50)),d 52 0 51,d 53 18 52,f 54 1 53,o 55 (.pur (mkO (.binOp .neq 5 (t 54) (.const (.int .u8 0)) 5) 4))]) (C 55 (R [m 56 0,m 57 0,o 58 (.nilck (t 57)),d 59 0 58,d 60 18 59,f 61 1 60,o 62 (.build Z5 [(0,1,(.const (.int .u8 4))),(6,1,(t 61))]),cb 63 66 56 62]) K))))))).c
def a71:AFunc:=⟨64,c71,[],0⟩
def c72:ACode:=({c:=_}:TbD (S (.region [b 2 29 0,b 3 90 1,o 4 (.alloc 29 Z2),z 5,bf 6,n 7 0] false) (S (R [l 10 6 2,ca 11 107 10,m 9 11,e 12 9 0,e 13 9 1,m 8 12,m 7 13]) (S (S (R [m 14 7,w 15 .eql 30 14 0 30 4]) (C 15 (R [l 16 4 3,ca 17 67 16,m 7 17]) K)) (S (S (R [m 18 7,w 19 .neq 30 18 0 30 4]) (C 19 (S (.region [o 20 (.build Z2 []),m 21 7,s 6 4 20,z 5,bf 6,m 7 21] false) N) K)) (S (S (D [d' 22 0 3 [2,3,4,5,6],f' 23 1 22 [2,3,4,5,6],m' 24 8 [0,1],u 25 (.nilck (t 24)) [0,1],d' 26 0 25 [0,1],d' 27 0 26 [0,1],f' 28 1 27 [0,1],v 29 .neq 3 23 28 3 4,m 30 29,q 31 (d_ 1 3) 30 [11,12,13,14,15],q 32 (f_ 1 31) 30 [11,12,13,14,15],q 33 (m_ 8) 30 [9,10],q 34 (.nilck (t 33)) 30 [9,10],q 35 (d_ 0 34) 30 [9,10],q 36 (d_ 3 35) 30 [9,10],q 37 (f_ 1 36) 30 [9,10],q 38 (v_ .eql 3 32 37 3 4) 30 [],q 39 (m_ 38) 30 [],p 40 (m_ 8) 39 [],p 41 (.nilck (t 40)) 39 [],p 42 (d_ 0 41) 39 [],p 43 (d_ 3 42) 39 [],p 44 (f_ 1 43) 39 [],p 45 (w_ .add 3 44 1 3 3) 39 [],p 46 (w_ .geq 3 45 16777216 3 4) 39 [],q 47 (x_ 39 46) 30 [],y 48 30 47]) (C 48 (S (R [m 49 8,o 50 (.nilck (t 49)),d 51 0 50,l 52 6 51,s 6 4 52,z 5,bf 6,n 7 0]) N) K)) (S (R [m 53 8,d 54 2 3,f 55 1 54,cb 56 108 53 55]) (S (R [m 57 8,m 58 8,o 59 (.nilck (t 58)),d 60 0 59,d 61 5 60,f 62 1 61,m 63 62,q 64 (d_ 1 3) 63 [],q 65 (f_ 1 64) 63 [],q 66 (w_ .gtr 3 65 0 3 4) 63 [],y 67 63 66,o 68 (.nilck (t 57)),d 69 0 68,d 70 5 69,s 1 70 67]) (S (S (D [d' 71 1 3 [2,3,4,5,6],f' 72 1 71 [2,3,4,5,6],m' 73 8 [0,1],u 74 (.nilck (t 73)) [0,1],d' 75 0 74 [0,1],d' 76 3 75 [0,1],f' 77 1 76 [0,1],v 78 .neq 3 72 77 3 4]) (C 78 (S (R [m 79 8,o 80 (.nilck (t 79)),d 81 0 80,l 82 6 81,s 6 4 82,z 5,bf 6,n 7 0]) N) K)) (S (R [m 83 8,o 84 (.nilck (t 83)),d 85 0 84,d 86 3 85,f 87 1 86,w 88 .add 3 87 1 3 3,o 89 (.nilck (t 83)),d 90 0 89,d 91 3 90,s 1 91 88]) (S (D [m' 92 8 [4,5,6],u 93 (.nilck (t 92)) [4,5,6],d' 94 0 93 [4,5,6],l' 95 6 94 [4,5,6],d' 96 3 3 [0,1,2,3],f' 97 1 96 [0,1,2,3],ca' 98 106 97 [0,1,2,3],s 6 4 95,m 5 98,bt 6,n 7 0]) N))))))))))).c
def a72:AFunc:=⟨99,c72,[.cell 4 6 true,.tmp 5,.tmp 6,.tmp 7],1⟩
def c73:ACode:=({c:=_}:TbD (S (R [n 4 0]) (S (R [m 8 1,ca 9 80 8,m 7 9,e 10 7 0,e 11 7 1,o 5 (.alloc 61 Z5),s 12 5 10,m 6 11]) (S (S (R [m 12 6,w 13 .neq 30 12 0 30 4,m 14 13,q 15 (l_ 12 5) 14 [],q 16 (ca_ 109 15) 14 [],y 17 14 16]) (C 17 (S (R [n 4 90]) N) K)) (S (D [u 18 (.build (.agg #[.nilFunc,.nilFunc,.nilFunc,.nilFunc,.nilFunc,.nilFunc,.nilFunc,.nilFunc,.nilFunc,.nilFunc,.nilFunc]) [(6,1,(.func 110)),(7,1,(.func 111)),(8,1,(.func 112)),(9,1,(.func 113)),(10,1,(.func 114))]) [1,2,4,5],d' 19 0 5 [0,4,5],f' 20 1 19 [0,4,5],u 21 (.idx 11 1 false (t 18) (t 20)) [4,5],m' 22 0 [0,1,2,3,5],l' 23 12 5 [0,1,2,3,4],o 24 (.call (t 21) [(t 22),(t 23)])]) (S (R [n 4 0]) N)))))).c
def a73:AFunc:=⟨25,c73,[.tmp 4],0⟩
def c74:ACode:=({c:=_}:TbD (S (.region [b 1 35 0,o 2 (.alloc 35 Z7)] false) (S (R [d 3 4 1,l 4 6 3,ca 5 115 4,d 6 4 1,s 6 6 5]) (S (D [d' 7 12 1 [3,4,6,7],f' 8 1 7 [3,4,6,7],ca' 9 116 8 [3,4,6,7],d' 10 13 1 [0,1,2,6,7],f' 11 1 10 [0,1,2,6,7],ca' 12 116 11 [6,7,9],d' 13 14 1 [0,1,2,3,4,5],f' 14 1 13 [0,1,2,3,4,5],ca' 15 116 14 [9],d' 16 12 1 [5,8],s 1 16 9,d 17 13 1,s 1 17 12,d 18 14 1,s 1 18 15]) (S (R [l 19 28 1,s 28 2 19]) N))))).c
def a74:AFunc:=⟨20,c74,[.cell 2 28 true],0⟩
def c75:ACode:=({c:=_}:TbD (S (R [o 2 (.alloc 61 Z5)]) (S (R [m 3 0,o 4 (.nilck (t 3)),d 5 0 4,d 6 14 5,f 7 1 6,o 8 (.iad 17 (t 7) (.const (.int .i64 0))),l 9 17 8,ca 10 86 9,o 11 (.bsl 69 17 Z13 1 [(0,17,(t 10))]),o 12 (.build Z5 [(0,1,(.const (.int .u8 2))),(11,1,(t 11))]),s 12 2 12]) N))).c
def a75:AFunc:=⟨13,c75,[.cell 2 12 true],0⟩
def c76:ACode:=({c:=_}:TbD (S (R [z 2]) (S (S (R [m 7 0,k 8 7,n 9 0]) (B 0 (L (S (R [v 10 .lss 3 9 8 3 0]) (S (C 10 K (X 0)) (S (B 1 (S (R [i 11 4 7 9,l 12 4 11,o 4 (.alloc 90 Z0),s 4 4 12]) (S (R [l 14 4 4,ca 15 31 14,m 13 15,e 16 13 0,e 17 13 1,m 5 16,m 6 17]) (R [m 18 2,m 19 5,o 20 (.bsl 86 1 (.slice none 0 0) 1 [(0,1,(t 19))]),o 21 (.app 86 1 24 (.slice none 0 0) (t 18) (t 20)),m 2 21])))) (R [w 22 .add 3 9 1 3 3,m 9 22]))))))) (S (R [m 23 2,m 2 23]) N)))).c
def a76:AFunc:=⟨24,c76,[.tmp 2],1⟩
def c77:ACode:=({c:=_}:TbD (S (.region [b 1 29 0,o 2 (.alloc 29 Z2),z 3,n 4 0] false) (S (R [l 9 6 1,ca 10 107 9,m 8 10,e 11 8 0,e 12 8 1,m 5 11,m 6 12]) (S (S (R [m 13 6,w 14 .neq 30 13 0 30 4]) (C 14 (S (.region [o 15 (.build Z2 []),m 16 6,s 6 2 15,z 3,m 4 16] false) N) K)) (S (R [m 17 5,ca 18 117 17,m 7 18]) (S (R [m 19 5,o 20 (.nilck (t 19)),d 21 0 20,l 22 6 21,m 23 7,s 6 2 22,m 3 23,n 4 0]) N)))))).c
def a77:AFunc:=⟨24,c77,[.cell 2 6 true,.tmp 3,.tmp 4],1⟩
def c78:ACode:=({c:=_}:TbD (.skip)).c
def a78:AFunc:=⟨0,.ext X.extText,[],3⟩
def c79:ACode:=({c:=_}:TbD (S (R [o 0 (.mov (.const (.map none)))]) (S (R [o 1 (.mov (.func 122))]) (S (R [o 2 (.mov (.func 123))]) (S (R [o 3 (.mkmap),m 4 1,o 5 (.build Z16 [(0,1,(.func 124)),(1,1,(t 4))]),O (.mupd 5 (t 3) (.const (.int .u8 1)) (t 5)),o 6 (.build Z16 [(0,1,(.func 126)),(1,1,(.func 128))]),O (.mupd 5 (t 3) (.const (.int .u8 2)) (t 6)),m 7 1,o 8 (.build Z16 [(0,1,(.func 129)),(1,1,(t 7))]),O (.mupd 5 (t 3) (.const (.int .u8 3)) (t 8)),m 9 2,o 10 (.build Z16 [(0,1,(.func 130)),(1,1,(t 9))]),O (.mupd 5 (t 3) (.const (.int .u8 4)) (t 10)),m 11 1,o 12 (.build Z16 [(0,1,(.func 131)),(1,1,(t 11))]),O (.mupd 5 (t 3) (.const (.int .u8 5)) (t 12)),m 13 1,o 14 (.build Z16 [(0,1,(.func 132)),(1,1,(t 13))]),O (.mupd 5 (t 3) (.const (.int .u8 6)) (t 14)),o 15 (.build Z16 [(0,1,(.func 133)),(1,1,(.func 134))]),O (.mupd 5 (t 3) (.const (.int .u8 7)) (t 15)),m 16 1,o 17 (.build Z16 [(0,1,(.func 135)),(1,1,(t 16))]),O (.mupd 5 (t 3) (.const (.int .u8 8)) (t 17)),m 18 2,o 19 (.build Z16 [(0,1,(.func 136)),(1,1,(t 18))]),O (.mupd 5 (t 3) (.const (.int .u8 9)) (t 19)),m 20 1,o 21 (.build Z16 [(0,1,(.func 132)),(1,1,(t 20))]),O (.mupd 5 (t 3) (.const (.int .u8 10)) (t 21)),m 22 3,m 0 22]) N))))).c
def a79:AFunc:=⟨23,c79,[.tmp 0],0⟩
def c80:ACode:=({c:=_}:TbD (S (R [o 2 (.alloc 61 Z5),n 3 0]) (S (S (R [m 7 0,k 8 7,w 9 .eql 3 8 0 3 4]) (C 9 (S (R [l 10 12 2,s 12 2 10,n 3 90]) N) K)) (S (.region [u 12 (.call (.func 79) []) [1,2,3,8],m' 13 0 [0,8],u 14 (.iad 1 (t 13) (.const (.int .i64 0))) [0,8],f' 15 1 14 [0,8],u 16 (.lookup 5 Z16 (t 12) (t 15) true) [8],m' 11 16 [8],e' 17 11 0 [7,8],e' 18 11 1 [6,8,9],u 4 (.alloc 153 Z16) [0,1,2,3,4,5,6,7],s' 2 4 17 [7],m 5 18] true) (S (S (R [m 19 5,j 20 4 19 4]) (C 20 (S (R [l 21 12 2,s 12 2 21,n 3 90]) N) K)) (S (R [m 22 0,o 23 (.iad 1 (t 22) (.const (.int .i64 0))),f 24 1 23,d 25 0 2,s 1 25 24]) (S (.region [m 26 0,o 27 (.slc 1 (t 26) (some (.const (.int .i64 1))) none none),o 28 (.build Z14 [(0,1,(t 27)),(1,1,(.const (.bool true)))]),b 29 159 28,m 6 29] false) (S (R [d 30 0 4,f 31 1 30,m 32 6,o 33 (.call (t 31) [(t 32),(t 2)])]) (S (S (R [m 34 6,o 35 (.nilck (t 34)),d 36 2 35,f 37 1 36,m 38 37,q 39 (m_ 6) 38 [],q 40 (.nilck (t 39)) 38 [],q 41 (d_ 0 40) 38 [],q 42 (f_ 1 41) 38 [],q 43 (k_ 42) 38 [],q 44 (w_ .gtr 3 43 0 3 4) 38 [],y 45 38 44,m 46 45,q 47 (d_ 1 4) 46 [],q 48 (f_ 1 47) 46 [],q 49 (l_ 12 2) 46 [],q 50 (.call (t 48) [(t 49)]) 46 [],q 51 (j_ 4 50 4) 46 [],y 52 46 51]) (C 52 (S (R [o 53 (.build Z5 []),s 12 2 53,n 3 90]) N) K)) (S (R [l 54 12 2,s 12 2 54,n 3 0]) N)))))))))).c
def a80:AFunc:=⟨55,c80,[.cell 2 12 true,.tmp 3],1⟩
def c81:ACode:=({c:=_}:TbD (S (R [b 2 61 0,b 3 61 1,bf 4]) (S (D [l' 8 12 2 [1,2,3],l' 9 12 3 [0,2,3,4],u 5 (.alloc 61 Z5) [0,1,3],u 6 (.alloc 61 Z5) [0,1,2],s' 12 5 8 [1],s 12 6 9]) (S (R [d 10 11 5,O (.store 1 (t 10) (.const (.slice none 0 0))),d 11 11 6,O (.store 1 (t 11) (.const (.slice none 0 0)))]) (S (R [d 12 0 5,f 13 1 12,d 14 0 6,f 15 1 14,v 16 .eql 5 13 15 5 4,m 17 16,p 18 (d_ 1 5) 17 [],p 19 (f_ 1 18) 17 [],p 20 (d_ 1 6) 17 [],p 21 (f_ 1 20) 17 [],p 22 (v_ .eql 3 19 21 3 4) 17 [],x 23 17 22,m 24 23,p 25 (d_ 2 5) 24 [],p 26 (f_ 1 25) 24 [],p 27 (d_ 2 6) 24 [],p 28 (f_ 1 27) 24 [],p 29 (v_ .eql 3 26 28 3 4) 24 [],x 30 24 29,m 31 30,p 32 (d_ 3 5) 31 [],p 33 (f_ 1 32) 31 [],p 34 (d_ 3 6) 31 [],p 35 (f_ 1 34) 31 [],p 36 (v_ .eql 30 33 35 30 4) 31 [],x 37 31 36,m 38 37,p 39 (d_ 4 5) 38 [],p 40 (f_ 1 39) 38 [],p 41 (d_ 4 6) 38 [],p 42 (f_ 1 41) 38 [],p 43 (v_ .eql 3 40 42 3 4) 38 [],x 44 38 43,m 45 44,p 46 (d_ 5 5) 45 [],p 47 (f_ 1 46) 45 [],p 48 (d_ 5 6) 45 [],p 49 (f_ 1 48) 45 [],p 50 (v_ .eql 3 47 49 3 4) 45 [],x 51 45 50,m 52 51,p 53 (d_ 6 5) 52 [],p 54 (f_ 1 53) 52 [],p 55 (d_ 6 6) 52 [],p 56 (f_ 1 55) 52 [],p 57 (v_ .eql 5 54 56 5 4) 52 [],x 58 52 57,m 59 58,p 60 (d_ 7 5) 59 [],p 61 (l_ 4 60) 59 [],p 62 (d_ 7 6) 59 [],p 63 (l_ 4 62) 59 [],p 64 (v_ .eql 32 61 63 32 4) 59 [],x 65 59 64,m 7 65]) (S (R [m 66 7,m 67 66,p 68 (d_ 11 2) 67 [],p 69 (f_ 1 68) 67 [],p 70 (d_ 11 3) 67 [],p 71 (f_ 1 70) 67 [],p 72 (.call (.func 137) [(t 69),(t 71),(.func 138)]) 67 [],x 73 67 72,m 4 73]) N)))))).c
def a81:AFunc:=⟨74,c81,[.tmp 4],1⟩
def c82:ACode:=({c:=_}:TbD (S (R [z 4]) (S (S (R [m 5 1,w 6 .lss 3 5 0 3 4]) (C 6 (R [o 7 (.bad "op"),O (.bad "op")]) K)) (S (S (R [m 8 1,m 9 0,o 10 (.cap (t 9)),m 11 0,k 12 11,v 13 .sub 3 10 12 3 3,v 14 .sub 3 8 13 3 3,m 1 14]) (S (R [m 15 1,w 16 .gtr 3 15 0 3 4]) (C 16 (R [m 17 0,m 18 0,o 19 (.cap (t 18)),o 20 (.slc 17 (t 17) none (some (t 19)) none),m 21 1,o 22 (.appz 69 17 112 Z13 (t 20) (t 21)),m 23 0,k 24 23,o 25 (.slc 17 (t 22) none (some (t 24)) none),m 0 25]) K))) (S (R [m 26 0,m 4 26]) N))))).c
def a82:AFunc:=⟨27,c82,[.tmp 4],0⟩
def c83:ACode:=({c:=_}:TbD (S (R [o 2 (.mov (.const (.pointer none))),bf 3]) (S (R [o 9 (.mkmap),o 10 (.build (.agg #[(.slice none 0 0),(.map none)]) [(1,1,(t 9))]),b 11 226 10,m 4 11]) (S (S (R [m 12 0,k 13 12,n 14 0]) (B 0 (L (S (R [v 15 .lss 3 14 13 3 0]) (S (C 15 K (X 0)) (S (B 1 (S (R [i 16 17 12 14,l 17 17 16,o 6 (.alloc 69 Z13),s 17 6 17]) (S (S (R [l 18 17 6,ca 19 84 18,w 20 .neq 30 19 0 30 4,m 21 20,q 22 (m_ 4) 21 [],q 23 (l_ 17 6) 21 [],q 24 (cb_ 85 22 23) 21 [],q 25 (w_ .neq 30 24 0 30 4) 21 [],y 26 21 25]) (C 26 (S (R [o 2 (.mov (.const (.pointer none))),bf 3]) N) K)) (S (D [m' 27 4 [1,2,3,4,5,6,7],m' 28 4 [0,5,6],u 29 (.nilck (t 28)) [0,5,6],d' 30 0 29 [0,5,6],f' 31 1 30 [0,5,6],l' 32 17 6 [0,1,2,3,4],u 33 (.bsl 69 17 Z13 1 [(0,17,(t 32))]) [0,1,2,3,4],u 34 (.app 69 17 112 Z13 (t 31) (t 33)) [0],o 35 (.nilck (t 27)),d 36 0 35,s 1 36 34]) (S (R [d 37 0 6,f 38 1 37,o 39 (.pur (mkO (.binOp .eql 5 (t 38) (.const (.int .u8 1)) 5) 4))]) (C 39 (S (R [d 40 5 6,l 41 5 40,ca 42 139 41,k 43 42,n 44 0]) (B 2 (L (S (R [v 45 .lss 3 44 43 3 0]) (S (C 45 K (X 2)) (S (B 3 (S (R [i 46 4 42 44,l 47 4 46,o 8 (.alloc 48 Z10),s 4 8 47]) (.region [m' 48 4 [4],u 49 (.nilck (t 48)) [4],d' 50 1 49 [4],f' 51 1 50 [4],l' 52 4 8 [0,1,2,3],O (.mupd 48 (t 51) (t 52) (.const (.bool true)))] true))) (R [w 53 .add 3 44 1 3 3,m 44 53]))))))) K)))))) (R [w 54 .add 3 14 1 3 3,m 14 54]))))))) (S (R [m 55 4,m 2 55,bt 3]) N))))).c
def a83:AFunc:=⟨56,c83,[.tmp 2,.tmp 3],0⟩
def c84:ACode:=({c:=_}:TbD (S (R [b 1 69 0,n 2 0]) (S (S (D [d 3 0 1,f 4 1 3,o 5 (.pur (mkO (.binOp .eql 5 (t 4) (.const (.int .u8 0)) 5) 4)),m 6 5,q 7 (d_ 0 1) 6 [],q 8 (f_ 1 7) 6 [],q 9 (.pur (mkO (.binOp .geq 5 (t 8) (.const (.int .u8 4)) 5) 4)) 6 [],y 10 6 9,m 11 10,q 12 (d_ 1 1) 11 [],q 13 (l_ 3 12) 11 [],q 14 (ca_ 24 13) 11 [],q 15 (w_ .neq 30 14 0 30 4) 11 [],y 16 11 15,m 17 16,q 18 (d_ 4 1) 17 [],q 19 (f_ 1 18) 17 [],q 20 (w_ .lss 3 19 1 3 4) 17 [],y 21 17 20,m 22 21,q 23 (d_ 4 1) 22 [],q 24 (f_ 1 23) 22 [],q 25 (w_ .geq 3 24 16777216 3 4) 22 [],y 26 22 25,m 27 26,q 28 (d_ 5 1) 27 [],q 29 (l_ 5 28) 27 [],q 30 (ca_ 140 29) 27 [],q 31 (w_ .neq 30 30 0 30 4) 27 [],y 32 27 31,m 33 32,q 34 (.call (.func 141) []) 33 [32,33,36],q 35 (d_ 0 1) 33 [31,36],q 36 (f_ 1 35) 33 [31,36],q 37 (.idx 4 2 true (t 34) (t 36)) 33 [36],q 38 (.fld 0 1 false (t 37)) 33 [36],q 39 (l_ 17 1) 33 [31,32,33,34,35],q 40 (.call (t 38) [(t 39)]) 33 [],q 41 (j_ 4 40 4) 33 [],y 42 33 41]) (C 42 (S (R [n 2 8]) N) K)) (S (R [n 2 0]) N)))).c
def a84:AFunc:=⟨43,c84,[.tmp 2],1⟩
def c85:ACode:=({c:=_}:TbD (S (R [b 3 69 1,n 4 0]) (S (D [u 6 (.build (.agg #[.nilFunc,.nilFunc,.nilFunc,.nilFunc]) [(1,1,(.func 142)),(2,1,(.func 143)),(3,1,(.func 144))]) [1,2,4,5],d' 7 0 3 [0,4,5],f' 8 1 7 [0,4,5],u 9 (.idx 4 1 false (t 6) (t 8)) [4,5],m' 10 0 [0,1,2,3,5],l' 11 17 3 [0,1,2,3,4],o 12 (.call (t 9) [(t 10),(t 11)]),m 5 12]) (S (S (R [m 13 5,w 14 .eql 30 13 0 30 4,m 15 14,p 16 (m_ 0) 15 [],p 17 (.nilck (t 16)) 15 [],p 18 (d_ 0 17) 15 [],p 19 (f_ 1 18) 15 [],p 20 (k_ 19) 15 [],p 21 (w_ .geq 3 20 2048 3 4) 15 [],x 22 15 21]) (C 22 (R [n 5 4]) K)) (S (R [m 23 5,m 4 23]) N))))).c
def a85:AFunc:=⟨24,c85,[.tmp 4],0⟩
def c86:ACode:=({c:=_}:TbD (S (R [b 1 69 0,o 2 (.alloc 69 Z13)]) (S (R [d 3 16 1,f 4 1 3,ca 5 145 4,d 6 16 1,s 1 6 5]) (S (R [l 7 17 1,s 17 2 7]) N)))).c
def a86:AFunc:=⟨8,c86,[.cell 2 17 true],0⟩
def c87:ACode:=({c:=_}:TbD (S (R [b 1 69 0,o 2 (.alloc 172 Z8),n 3 0]) (S (S (R [l 6 17 1,ca 7 84 6,m 4 7]) (S (R [m 8 4,w 9 .neq 30 8 0 30 4]) (C 9 (S (R [o 10 (.build Z8 []),m 11 4,s 10 2 10,m 3 11]) N) K))) (S (D [d' 12 5 1 [2,3,4,5,6,8],l' 13 5 12 [2,3,4,5,6,8],d' 14 10 1 [0,1,4,5,6,8],l' 15 4 14 [0,1,4,5,6,8],d' 16 16 1 [0,1,2,3,8],f' 17 1 16 [0,1,2,3,8],ca' 18 145 17 [0,1,2,3,8],u 19 (.build Z8 [(0,5,(t 13)),(5,4,(t 15)),(9,1,(t 18))]) [8],u 5 (.alloc 172 Z8) [0,1,2,3,4,5,6,7],s 10 5 19]) (S (S (R [d 20 0 1,f 21 1 20,o 22 (.pur (mkO (.binOp .neq 5 (t 21) (.const (.int .u8 1)) 5) 4)),m 23 22,q 24 (l_ 10 5) 23 [],q 25 (ca_ 146 24) 23 [],q 26 (w_ .neq 30 25 0 30 4) 23 [],y 27 23 26]) (C 27 (S (R [o 28 (.build Z8 []),s 10 2 28,n 3 2]) N) K)) (S (R [l 29 10 5,s 10 2 29,n 3 0]) N)))))).c
def a87:AFunc:=⟨30,c87,[.cell 2 10 true,.tmp 3],1⟩
def c88:ACode:=({c:=_}:TbD (S (R [b 3 172 1,z 4,n 5 0]) (S (S (D [m' 15 0 [2],ca' 16 147 15 [2],l' 17 10 3 [0,1],ca 18 146 17,o 19 (.pur (mkO (.call ⟨.builtin .max,#[(t 16),(t 18)],#[30,30]⟩) 30)),m 6 19]) (S (R [m 20 6,w 21 .neq 30 20 0 30 4]) (C 21 (S (R [m 22 6,z 4,m 5 22]) N) K))) (S (S (R [m 24 0,d 25 5 3,l 26 4 25,cb 27 148 24 26,m 23 27,e 28 23 0,e 29 23 1,m 7 28,m 8 29]) (S (R [m 30 7,w 31 .lss 3 30 0 3 4,m 32 31,p 33 (d_ 5 3) 32 [],p 34 (l_ 4 33) 32 [],p 35 (.build Z10 []) 32 [],p 36 (v_ .neq 48 34 35 48 4) 32 [],x 37 32 36]) (C 37 (S (R [z 4,n 5 6]) N) K))) (S (S (R [d 38 0 3,d 39 4 38,f 40 1 39,n 41 0]) (B 0 (L (S (R [v 42 .lss 3 41 40 3 4]) (S (C 42 K (X 0)) (S (B 1 (S (R [m 43 41,m 9 43]) (S (R [d 45 0 3,l 46 5 45,m 47 9,cb 48 149 46 47,m 44 48,e 49 44 0,e 50 44 1,o 10 (.alloc 48 Z10),s 4 10 49,m 11 50]) (S (R [m 52 0,l 53 4 10,cb 54 148 52 53,m 51 54,e 55 51 0,e 56 51 1,m 12 55,m 13 56]) (S (R [m 57 12,w 58 .geq 3 57 0 3 4]) (C 58 (S (R [z 4,n 5 2]) N) K)))))) (R [w 59 .add 3 41 1 3 3,m 41 59]))))))) (S (S (D [m' 60 0 [2,3,4],ca' 61 150 60 [2,3,4],d' 62 0 3 [0,1],d' 63 4 62 [0,1],f' 64 1 63 [0,1],v 65 .add 3 61 64 3 3,w 66 .gtr 3 65 8192 3 4]) (C 66 (S (R [z 4,n 5 4]) N) K)) (S (R [m 68 0,d 69 5 3,l 70 4 69,cb 71 151 68 70,m 67 71,e 72 67 0,e 73 67 1,m 0 72,m 14 73]) (S (B 2 (L (S (S (D [m' 74 14 [1,2],m' 75 0 [0],k' 76 75 [0],v 77 .lss 3 74 76 3 4,m 78 77,p 79 (d_ 0 3) 78 [8,9,10,11,12,13],p 80 (d_ 0 79) 78 [8,9,10,11,12,13],p 81 (l_ 4 80) 78 [8,9,10,11,12,13],p 82 (m_ 0) 78 [5,6,7,9],p 83 (m_ 14) 78 [5,6,7,8],p 84 (i_ 10 82 83) 78 [5,6,7],p 85 (d_ 0 84) 78 [5,6,7],p 86 (d_ 0 85) 78 [5,6,7],p 87 (l_ 4 86) 78 [5,6,7],p 88 (cb_ 152 81 87) 78 [],x 89 78 88]) (C 89 K (X 2))) (B 3 (R [m 90 14,w 91 .add 3 90 1 3 3,m 14 91]))))) (S (D [m' 92 0 [2,3,4],ca' 93 155 92 [2,3,4],m' 94 14 [0,1,3,4],l' 95 10 3 [0,1,2],u 96 (.bsl 172 10 Z8 1 [(0,10,(t 95))]) [0,1,2],o 97 (.ins 154 172 10 80 (t 93) (t 94) (t 96)),ca 98 153 97,m 4 98,n 5 0]) N))))))))).c
def a88:AFunc:=⟨99,c88,[.tmp 4,.tmp 5],1⟩
def c89:ACode:=({c:=_}:TbD (S (R [b 2 172 0,o 4 (.alloc 48 Z10),o 5 (.alloc 48 Z10),o 6 (.mov (.const (.int .i32 0))),n 7 0]) (S (S (R [l 9 10 2,ca 10 146 9,m 8 10]) (S (R [m 11 8,w 12 .neq 30 11 0 30 4]) (C 12 (S (D [l' 13 4 4 [1,2],l' 14 4 5 [0,2,3],m' 15 8 [0,1,3,4,5],s' 4 4 13 [1,2],s' 4 5 14 [2],u 6 (.mov (.const (.int .i32 0))) [2],m 7 15]) N) K))) (S (S (R [d 17 0 2,l 18 5 17,m 19 1,cb 20 149 18 19,m 16 20,e 21 16 0,e 22 16 1,s 4 4 21,m 7 22]) (S (R [m 23 7,w 24 .neq 30 23 0 30 4]) (C 24 (S (D [l' 25 4 4 [1,2],l' 26 4 5 [0,2,3],m' 27 7 [0,1,3,4,5],s' 4 4 25 [1,2],s' 4 5 26 [2],u 6 (.mov (.const (.int .i32 0))) [2],m 7 27]) N) K))) (S (R [d 28 5 2,l 29 4 28,s 4 5 29]) (S (S (R [m 30 1,w 31 .gtr 3 30 0 3 4]) (C 31 (R [d 33 0 2,l 34 5 33,m 35 1,w 36 .sub 3 35 1 3 3,cb 37 149 34 36,m 32 37,e 38 32 0,e 39 32 1,s 4 5 38,m 7 39]) K)) (S (D [l' 40 4 4 [1,2,3,4,5,6,7],l' 41 4 5 [0,2,3,4,5,6,7,8],d' 42 9 2 [0,1,4,7,8,9],f' 43 1 42 [0,1,4,7,8,9],m' 44 1 [0,1,2,3,7,8,9],i' 45 1 43 44 [0,1,7,8,9],f' 46 1 45 [0,1,7,8,9],m' 47 7 [0,1,2,3,4,5,6,8,9,10],s' 4 4 40 [1,2,3,4,5,6,7],s' 4 5 41 [2,3,4,5,6,7],m' 6 46 [7],m 7 47]) N))))))).c
def a89:AFunc:=⟨48,c89,[.cell 4 4 true,.cell 5 4 true,.tmp 6,.tmp 7],1⟩
def c90:ACode:=({c:=_}:TbD (S (R [b 2 69 0,bf 3]) (S (R [d 7 5 2,l 8 5 7,l 9 4 1,cb 10 91 8 9,m 6 10,e 11 6 0,e 12 6 1,m 4 11,m 5 12]) (S (R [d 13 0 2,f 14 1 13,o 15 (.pur (mkO (.binOp .eql 5 (t 14) (.const (.int .u8 2)) 5) 4)),m 16 15,p 17 (m_ 5) 16 [],x 18 16 17,m 3 18]) N)))).c
def a90:AFunc:=⟨19,c90,[.tmp 3],0⟩
def c91:ACode:=({c:=_}:TbD (S (R [b 2 67 0,b 3 48 1,n 4 0,bf 5]) (S (R [d 7 3 3,f 8 1 7,d 9 0 2,d 10 3 9,f 11 1 10,v 12 .sub 3 8 11 3 3,m 6 12]) (S (S (D [l 13 5 2,ca 14 140 13,w 15 .neq 30 14 0 30 4,m 16 15,q 17 (m_ 6) 16 [],q 18 (w_ .lss 3 17 0 3 4) 16 [],y 19 16 18,m 20 19,q 21 (m_ 6) 20 [9,10],q 22 (d_ 4 2) 20 [8],q 23 (f_ 1 22) 20 [8],q 24 (v_ .geq 3 21 23 3 4) 20 [],y 25 20 24,m 26 25,q 27 (l_ 4 3) 26 [15,16,17,18],q 28 (d_ 0 2) 26 [14,17],q 29 (l_ 4 28) 26 [14,17],q 30 (m_ 6) 26 [14,15,16],q 31 (cb_ 156 29 30) 26 [14],q 32 (v_ .neq 48 27 31 48 4) 26 [],y 33 26 32]) (C 33 (S (R [n 4 0,bf 5]) N) K)) (S (R [m 34 6,m 4 34,bt 5]) N))))).c
def a91:AFunc:=⟨35,c91,[.tmp 4,.tmp 5],1⟩
def c92:ACode:=({c:=_}:TbD (S (R [b 4 48 1,b 5 24 2,n 6 0]) (S (S (R [m 8 0,ca 9 157 8,m 7 9]) (S (R [m 10 7,w 11 .neq 30 10 0 30 4]) (C 11 (S (R [m 12 7,m 6 12]) N) K))) (S (D [l' 13 4 4 [2],ca' 14 158 13 [2],l' 15 2 5 [0,1],ca 16 52 15,o 17 (.pur (mkO (.call ⟨.builtin .max,#[(t 14),(t 16)],#[30,30]⟩) 30)),m 6 17]) N)))).c
def a92:AFunc:=⟨18,c92,[.tmp 6],1⟩
def c93:ACode:=({c:=_}:TbD (S (R [b 2 24 0,bf 3]) (S (R [l 4 2 2,l 5 2 1,cb 6 55 4 5,j 7 4 6 4,m 3 7]) N))).c
def a93:AFunc:=⟨8,c93,[.tmp 3],0⟩
def c94:ACode:=({c:=_}:TbD (S (R [bf 4]) (S (R [m 5 0,m 6 1,cb 7 159 5 6,w 8 .geq 3 7 0 3 4,m 4 8]) N))).c
def a94:AFunc:=⟨9,c94,[.tmp 4],0⟩
def c95:ACode:=({c:=_}:TbD (S (R [b 4 48 1,b 5 24 2,z 6]) (S (R [d 9 0 4,d 10 0 9,l 11 2 10,o 12 (.bsl 24 2 Z12 1 [(0,2,(t 11))]),o 7 (.alloc 184 (.slice none 0 0)),s 1 7 12]) (S (S (R [m 13 0,l 14 4 4,l 15 2 5,cd 16 160 13 14 15]) (B 0 (.rangeFunc (.tmp 16) [17] (R [o 8 (.alloc 24 Z12),s 2 8 17]) (B 1 (S (R [f 18 1 7,l 19 2 8,cb 20 161 18 19,j 21 4 20 4]) (C 21 (R [f 22 1 7,l 23 2 8,o 24 (.bsl 24 2 Z12 1 [(0,2,(t 23))]),o 25 (.app 24 2 8 Z12 (t 22) (t 24)),s 1 7 25]) K)))))) (S (R [f 26 1 7,m 6 26]) N))))).c
def a95:AFunc:=⟨27,c95,[.tmp 6],1⟩
def c96:ACode:=({c:=_}:TbD (S (R [bf 4]) (S (R [m 5 0,m 6 1,cb 7 162 5 6,w 8 .geq 3 7 0 3 4,m 4 8]) N))).c
def a96:AFunc:=⟨9,c96,[.tmp 4],1⟩
def c97:ACode:=({c:=_}:TbD (S (R [n 4 0]) (S (S (R [m 6 0,k 7 6,n 8 0]) (B 0 (L (S (R [v 9 .lss 3 8 7 3 0]) (S (C 9 K (X 0)) (S (B 1 (S (R [m 10 8,m 5 10]) (S (R [m 11 1,m 12 0,m 13 5,i 14 17 12 13,l 15 17 14,o 16 (.call (t 11) [(t 15)])]) (C 16 (S (R [m 17 5,m 4 17]) N) K)))) (R [w 18 .add 3 8 1 3 3,m 8 18]))))))) (S (R [n 4 (-1)]) N)))).c
def a97:AFunc:=⟨19,c97,[.tmp 4],0⟩
def c98:ACode:=({c:=_}:TbD (S (R [n 4 0]) (S (S (R [m 6 0,k 7 6,n 8 0]) (B 0 (L (S (R [v 9 .lss 3 8 7 3 0]) (S (C 9 K (X 0)) (S (B 1 (S (R [m 10 8,m 5 10]) (S (R [m 11 1,m 12 0,m 13 5,i 14 1 12 13,f 15 1 14,o 16 (.call (t 11) [(t 15)])]) (C 16 (S (R [m 17 5,m 4 17]) N) K)))) (R [w 18 .add 3 8 1 3 3,m 8 18]))))))) (S (R [n 4 (-1)]) N)))).c
def a98:AFunc:=⟨19,c98,[.tmp 4],0⟩
def c99:ACode:=({c:=_}:TbD (S (.region [b 2 29 0,o 4 (.alloc 29 Z2),n 5 0] false) (S (R [l 10 6 2,ca 11 107 10,m 9 11,e 12 9 0,e 13 9 1,m 6 12,m 7 13]) (S (S (R [m 14 7,w 15 .neq 30 14 0 30 4]) (C 15 (S (.region [o 16 (.build Z2 []),m 17 7,s 6 4 16,m 5 17] false) N) K)) (S (S (R [m 18 6,m 19 1,cb 20 163 18 19,m 8 20]) (S (R [m 21 8,w 22 .neq 30 21 0 30 4]) (C 22 (S (.region [o 23 (.build Z2 []),m 24 8,s 6 4 23,m 5 24] false) N) K))) (S (R [m 25 6,o 26 (.nilck (t 25)),d 27 0 26,l 28 6 27,s 6 4 28,n 5 0]) N)))))).c
def a99:AFunc:=⟨29,c99,[.cell 4 6 true,.tmp 5],1⟩
def c100:ACode:=({c:=_}:TbD (S (R [n 2 0,n 3 0]) (S (S (R [m 6 0,w 7 .lss 3 6 0 3 4,m 8 7,q 9 (m_ 0) 8 [],q 10 (w_ .gtr 3 9 1000 3 4) 8 [],y 11 8 10]) (C 11 (S (R [n 2 0,n 3 4]) N) K)) (S (R [o 12 (.call (.func 164) []),o 4 (.alloc 257 Z1),s 3 4 12]) (S (S (R [n 13 0]) (B 0 (L (S (R [w 14 .lss 3 13 3 3 4]) (S (C 14 K (X 0)) (S (B 1 (S (R [m 15 13,m 5 15]) (S (D [m' 16 0 [3,6,7,8],ca' 17 165 16 [3,6,7,8],u 18 (.pur (mkO (.binOp .add 3 (.const (.int .i64 1)) (t 17) 3) 3)) [3,6,7,8],m' 19 0 [0,1,2,6,7,8],v' 20 .add 3 18 19 3 3 [6,7,8],w' 21 .add 3 20 3 3 3 [6,7,8],m' 22 5 [0,1,2,3,4,5],u 23 (.ida 3 1 (t 4) (t 22)) [0,1,2,3,4,5],f' 24 1 23 [0,1,2,3,4,5],v 25 .leq 3 21 24 3 4]) (C 25 (S (R [m 26 5,o 27 (.ida 3 1 (t 4) (t 26)),f 28 1 27,m 2 28,n 3 0]) N) K)))) (R [w 29 .add 3 13 1 3 3,m 13 29]))))))) (S (R [n 2 0,n 3 4]) N)))))).c
def a100:AFunc:=⟨30,c100,[.tmp 2,.tmp 3],1⟩
def c101:ACode:=({c:=_}:TbD (S (R [z 2,n 3 0]) (S (R [m 7 0,ca 8 165 7,w 9 .sub 3 8 1 3 3,m 4 9]) (B 0 (S (R [m 37 4,w 38 .lss 3 37 0 3 4,m 36 38]) (C 36 (S (R [z 2,n 3 2]) N) (S (R [m 40 4,w 41 .eql 3 40 0 3 4,m 39 41]) (C 39 (S (R [m 42 0,o 43 (.pur (mkO (.convert 3 5 (t 42)) 5)),o 44 (.bsl 5 1 (.int .u8 0) 1 [(0,1,(t 43))]),m 2 44,n 3 0]) N) (S (R [m 10 4,o 11 (.mksl 5 1 1 (.int .u8 0) (t 10) (t 10)),m 5 11]) (S (S (R [m 12 5,k 13 12,n 14 0]) (B 1 (L (S (R [v 15 .lss 3 14 13 3 0]) (S (C 15 K (X 1)) (S (B 2 (S (R [m 16 14,m 6 16]) (R [m 17 5,m 18 4,w 19 .sub 3 18 1 3 3,m 20 6,v 21 .sub 3 19 20 3 3,m 22 0,m 23 6,o 24 (.pur (mkO (.binOp .mul 3 (.const (.int .i64 8)) (t 23) 3) 3)),v 25 .shr 3 22 24 3 3,o 26 (.pur (mkO (.convert 3 5 (t 25)) 5)),i 27 1 17 21,s 1 27 26]))) (R [w 28 .add 3 14 1 3 3,m 14 28]))))))) (S (R [m 29 4,o 30 (.pur (mkO (.binOp .add 3 (.const (.int .i64 247)) (t 29) 3) 3)),o 31 (.pur (mkO (.convert 3 5 (t 30)) 5)),o 32 (.bsl 5 1 (.int .u8 0) 1 [(0,1,(t 31))]),m 33 5,o 34 (.bsl 86 1 (.slice none 0 0) 2 [(0,1,(t 32)),(1,1,(t 33))]),ca 35 166 34,m 2 35,n 3 0]) N))))))))))).c
def a101:AFunc:=⟨45,c101,[.tmp 2,.tmp 3],1⟩
def c102:ACode:=({c:=_}:TbD (S (R [z 2]) (S (R [m 3 0,o 4 (.pur (mkO (.binOp .shr 22 (t 3) (.const (.int .u64 16)) 260) 22)),o 5 (.pur (mkO (.convert 22 5 (t 4)) 5)),m 6 0,o 7 (.pur (mkO (.binOp .shr 22 (t 6) (.const (.int .u64 8)) 260) 22)),o 8 (.pur (mkO (.convert 22 5 (t 7)) 5)),m 9 0,o 10 (.pur (mkO (.convert 22 5 (t 9)) 5)),o 11 (.bsl 5 1 (.int .u8 0) 3 [(0,1,(t 5)),(1,1,(t 8)),(2,1,(t 10))]),m 2 11]) N))).c
def a102:AFunc:=⟨12,c102,[.tmp 2],1⟩
def c103:ACode:=({c:=_}:TbD (S (R [o 2 (.mov (.const (.int .u32 0)))]) (S (R [o 3 (.mov (.const (.int .u32 11994318)))]) (S (S (R [m 6 0,k 7 6,n 8 0]) (B 0 (L (S (R [v 9 .lss 3 8 7 3 0]) (S (C 9 K (X 0)) (S (B 1 (S (R [i 10 1 6 8,f 11 1 10,m 5 11]) (S (R [m 12 3,m 13 5,o 14 (.pur (mkO (.convert 5 22 (t 13)) 22)),o 15 (.pur (mkO (.binOp .shl 22 (t 14) (.const (.int .u64 16)) 260) 22)),v 16 .xor 22 12 15 22 22,m 3 16]) (S (R [n 17 0]) (B 2 (L (S (R [w 18 .lss 3 17 8 3 4]) (S (C 18 K (X 2)) (S (B 3 (S (R [m 19 3,o 20 (.pur (mkO (.binOp .shl 22 (t 19) (.const (.int .u64 1)) 260) 22)),m 3 20]) (S (R [m 21 3,o 22 (.pur (mkO (.binOp .shr 22 (t 21) (.const (.int .u64 24)) 260) 22)),o 23 (.pur (mkO (.binOp .gtr 22 (t 22) (.const (.int .u32 0)) 22) 4))]) (C 23 (R [m 24 3,o 25 (.pur (mkO (.binOp .xor 22 (t 24) (.const (.int .u32 25578747)) 22) 22)),m 3 25]) K)))) (R [w 26 .add 3 17 1 3 3,m 17 26])))))))))) (R [w 27 .add 3 8 1 3 3,m 8 27]))))))) (S (R [m 28 3,m 2 28]) N))))).c
def a103:AFunc:=⟨29,c103,[.tmp 2],0⟩
def c104:ACode:=({c:=_}:TbD (S (R [z 2,n 3 0]) (S (S (R [m 10 0,k 11 10,w 12 .lss 3 11 4 3 4,m 13 12,q 14 (m_ 0) 13 [],q 15 (ca_ 167 14) 13 [],q 16 (j_ 4 15 4) 13 [],y 17 13 16]) (C 17 (S (R [z 2,n 3 80]) N) K)) (S (R [m 19 0,o 20 (.slc 1 (t 19) (some (.const (.int .i64 1))) none none),ca 21 168 20,m 18 21,e 22 18 0,e 23 18 1,e 24 18 2,m 4 22,m 5 23,m 6 24]) (S (S (R [m 25 6,w 26 .neq 30 25 0 30 4,m 27 26,q 28 (m_ 4) 27 [],q 29 (m_ 0) 27 [],q 30 (k_ 29) 27 [],q 31 (w_ .sub 3 30 1 3 3) 27 [],q 32 (m_ 5) 27 [],q 33 (v_ .sub 3 31 32 3 3) 27 [],q 34 (w_ .sub 3 33 3 3 3) 27 [],q 35 (v_ .gtr 3 28 34 3 4) 27 [],y 36 27 35]) (C 36 (S (R [z 2,n 3 80]) N) K)) (S (R [m 37 0,m 38 5,o 39 (.pur (mkO (.binOp .add 3 (.const (.int .i64 1)) (t 38) 3) 3)),m 40 5,o 41 (.pur (mkO (.binOp .add 3 (.const (.int .i64 1)) (t 40) 3) 3)),m 42 4,v 43 .add 3 41 42 3 3,o 44 (.slc 1 (t 37) (some (t 39)) (some (t 43)) none),ca 45 106 44,m 7 45]) (S (S (R [m 47 7,ca 48 68 47,m 46 48,e 49 46 0,e 50 46 1,m 8 49,m 9 50]) (S (R [m 51 9,w 52 .neq 30 51 0 30 4,m 53 52,q 54 (m_ 8) 53 [],q 55 (m_ 0) 53 [],q 56 (cb_ 169 54 55) 53 [],q 57 (j_ 4 56 4) 53 [],y 58 53 57]) (C 58 (S (R [z 2,n 3 80]) N) K))) (S (R [m 59 7,m 2 59,n 3 0]) N)))))))).c
def a104:AFunc:=⟨60,c104,[.tmp 2,.tmp 3],1⟩
def c105:ACode:=({c:=_}:TbD (S (R [n 2 0]) (S (S (R [m 5 0,k 6 5,n 7 0]) (B 0 (L (S (R [v 8 .lss 3 7 6 3 0]) (S (C 8 K (X 0)) (S (B 1 (S (R [i 9 1 5 7,f 10 1 9,m 4 10]) (R [m 11 2,o 12 (.pur (mkO (.binOp .shl 3 (t 11) (.const (.int .u64 8)) 260) 3)),m 13 4,o 14 (.pur (mkO (.convert 5 3 (t 13)) 3)),v 15 .or 3 12 14 3 3,m 2 15]))) (R [w 16 .add 3 7 1 3 3,m 7 16]))))))) (S (R [m 17 2,m 2 17]) N)))).c
def a105:AFunc:=⟨18,c105,[.tmp 2],1⟩
def c106:ACode:=({c:=_}:TbD (S (R [z 2]) (S (S (R [m 3 0,o 4 (.eqnil false 1 (t 3) (mkO (.binOp .eql 86 (t 3) (.const (.slice none 0 0)) 86) 4))]) (C 4 (S (R [z 2]) N) K)) (S (R [o 5 (.bsl 5 1 (.int .u8 0) 0 []),m 6 0,o 7 (.app 5 1 1 (.int .u8 0) (t 5) (t 6)),m 2 7]) N)))).c
def a106:AFunc:=⟨8,c106,[.tmp 2],1⟩
def c107:ACode:=({c:=_}:TbD (S (R [b 1 29 0,o 2 (.mov (.const (.pointer none))),n 3 0]) (S (S (R [l 5 6 1,ca 6 25 5,m 4 6]) (S (R [m 7 4,w 8 .neq 30 7 0 30 4]) (C 8 (S (R [m 9 4,o 2 (.mov (.const (.pointer none))),m 3 9]) N) K))) (S (.region [l 10 6 1,ca 11 115 10,o 12 (.build Z2 [(0,6,(t 11))]),b 13 201 12,m 2 13,n 3 0] false) N)))).c
def a107:AFunc:=⟨14,c107,[.tmp 2,.tmp 3],0⟩
def c108:ACode:=({c:=_}:TbD (S (R [b 3 3 1]) (S (R [o 5 (.mkfn 170 [] [(t 3)]),m 4 5]) (S (D [f' 6 1 3 [1,2,3,4,5],m' 7 0 [0],u 8 (.nilck (t 7)) [0],d' 9 0 8 [0],d' 10 1 9 [0],f' 11 1 10 [0],v 12 .lss 3 6 11 3 4,m 13 12,p 14 (m_ 0) 13 [13],p 15 (.nilck (t 14)) 13 [13],p 16 (d_ 0 15) 13 [13],p 17 (d_ 2 16) 13 [13],p 18 (f_ 1 17) 13 [13],p 19 (m_ 4) 13 [8,9,10,11,12],p 20 (cb_ 171 18 19) 13 [],x 21 13 20]) (C 21 (R [m 22 0,m 23 0,m 24 0,o 25 (.nilck (t 24)),d 26 0 25,d 27 2 26,f 28 1 27,m 29 4,cb 30 172 28 29,o 31 (.nilck (t 22)),d 32 0 31,d 33 2 32,s 1 33 30,o 34 (.nilck (t 23)),d 35 0 34,d 36 4 35,O (.store 1 (t 36) (.const (.int .i64 0)))]) K))))).c
def a108:AFunc:=⟨37,c108,[],0⟩
def c109:ACode:=({c:=_}:TbD (S (R [b 1 61 0,bf 2]) (S (R [d 3 0 1,f 4 1 3,o 5 (.pur (mkO (.binOp .leq 5 (t 4) (.const (.int .u8 5)) 5) 4)),m 6 5,p 7 (l_ 12 1) 6 [],p 8 (ca_ 173 7) 6 [],p 9 (w_ .eql 30 8 0 30 4) 6 [],x 10 6 9,m 2 10]) N))).c
def a109:AFunc:=⟨11,c109,[.tmp 2],1⟩
def c110:ACode:=({c:=_}:TbD (S (R [b 3 61 1]) (S (R [m 4 0,d 5 3 3,f 6 1 5,o 7 (.nilck (t 4)),d 8 0 7,d 9 11 8,s 1 9 6]) (B 0 (S (R [d 11 3 3,f 12 1 11,w 13 .eql 30 12 0 30 4,m 14 13,p 15 (m_ 0) 14 [],p 16 (.nilck (t 15)) 14 [],p 17 (d_ 0 16) 14 [],p 18 (d_ 10 17) 14 [],p 19 (f_ 1 18) 14 [],p 20 (.pur (mkO (.binOp .neq 5 (t 19) (.const (.int .u8 0)) 5) 4)) 14 [],x 21 14 20,m 10 21]) (C 10 (R [m 22 0,o 23 (.nilck (t 22)),d 24 0 23,d 25 10 24,O (.store 1 (t 25) (.const (.int .u8 2)))]) (S (R [d 27 3 3,f 28 1 27,w 29 .neq 30 28 0 30 4,m 30 29,p 31 (m_ 0) 30 [],p 32 (.nilck (t 31)) 30 [],p 33 (d_ 0 32) 30 [],p 34 (d_ 10 33) 30 [],p 35 (f_ 1 34) 30 [],p 36 (.pur (mkO (.binOp .eql 5 (t 35) (.const (.int .u8 1)) 5) 4)) 30 [],x 37 30 36,m 26 37]) (C 26 (R [m 38 0,ca 39 174 38]) K)))))))).c
def a110:AFunc:=⟨40,c110,[],0⟩
def c111:ACode:=({c:=_}:TbD (S (R [b 3 61 1]) (S (S (D [m 4 0,o 5 (.nilck (t 4)),d 6 0 5,d 7 15 6,f 8 1 7,j 9 4 8 4,m 10 9,q 11 (d_ 2 3) 10 [9,10,11,12,13],q 12 (f_ 1 11) 10 [9,10,11,12,13],q 13 (m_ 0) 10 [7,8],q 14 (.nilck (t 13)) 10 [7,8],q 15 (d_ 0 14) 10 [7,8],q 16 (d_ 16 15) 10 [7,8],q 17 (f_ 1 16) 10 [7,8],q 18 (v_ .neq 3 12 17 3 4) 10 [],y 19 10 18]) (C 19 N K)) (S (R [m 20 0,d 21 3 3,f 22 1 21,o 23 (.nilck (t 20)),d 24 0 23,d 25 11 24,s 1 25 22]) (S (S (R [d 26 3 3,f 27 1 26]) (B 0 (S (R [w 29 .eql 30 27 0 30 4,m 28 29]) (C 28 (S (.region [m' 30 0 [1,2,3,4,5,6,7,8,9,10,11,12,13,14,15,16,17,18,19,20,21,22],m' 31 0 [0,2,3,4,5,6,7,8,9,10,11,12,13,14,15,16,17,18,19,20,21,22,23,24,25,26],m' 32 0 [0,1,3,4,5,6,7,8,9,10,11,12,13,14,15,16,17,18,19,20,21,22,23,24,25,26,27,28,29,30],m' 33 0 [0,1,2,8,9,10,11,12,13,14,15,17,18,19,20,21,22],u 34 (.nilck (t 33)) [0,1,2,8,9,10,11,12,13,14,15,17,18,19,20,21,22],d' 35 0 34 [0,1,2,8,9,10,11,12,13,14,15,17,18,19,20,21,22],d' 36 13 35 [0,1,2,8,9,10,11,12,13,14,15,17,18,19,20,21,22],f' 37 1 36 [0,1,2,8,9,10,11,12,13,14,15,17,18,19,20,21,22],m' 38 0 [0,1,2,3,4,5,6,7,17,18,19,20,21,22],u 39 (.nilck (t 38)) [0,1,2,3,4,5,6,7,17,18,19,20,21,22],d' 40 0 39 [0,1,2,3,4,5,6,7,17,18,19,20,21,22],d' 41 14 40 [0,1,2,3,4,5,6,7,17,18,19,20,21,22],f' 42 1 41 [0,1,2,3,4,5,6,7,17,18,19,20,21,22],u 43 (.iad 17 (t 42) (.const (.int .i64 0))) [0,1,2,3,4,5,6,7,17,18,19,20,21,22],l' 44 17 43 [0,1,2,3,4,5,6,7,17,18,19,20,21,22],u 45 (.bsl 69 17 Z13 1 [(0,17,(t 44))]) [0,1,2,3,4,5,6,7,17,18,19,20,21,22],u 46 (.app 69 17 112 Z13 (t 37) (t 45)) [0,1,2,17,18,19,20,21,22],m' 47 0 [0,1,2,3,4,5,6,7,8,9,10,11,12,13,14,15,16],u 48 (.nilck (t 47)) [0,1,2,3,4,5,6,7,8,9,10,11,12,13,14,15,16],d' 49 0 48 [0,1,2,3,4,5,6,7,8,9,10,11,12,13,14,15,16],d' 50 14 49 [0,1,2,3,4,5,6,7,8,9,10,11,12,13,14,15,16],f' 51 1 50 [0,1,2,3,4,5,6,7,8,9,10,11,12,13,14,15,16],u 52 (.slc 17 (t 51) (some (.const (.int .i64 1))) none none) [0,1,2,3,4,5,6,7,8,9,10,11,12,13,14,15,16,23,24,25,26],u 53 (.nilck (t 30)) [1,2,22],d' 54 0 53 [1,2,22],d' 55 13 54 [1,2,22],s' 1 55 46 [1,2,22],u 56 (.nilck (t 31)) [2],d' 57 0 56 [2],d' 58 14 57 [2],s' 1 58 52 [2],o 59 (.nilck (t 32)),d 60 0 59,d 61 15 60,O (.store 1 (t 61) (.const (.bool false)))] true) N) (S (R [w 63 .eql 30 27 230 30 4,m 62 63]) (C 62 (S (R [m 64 0,ca 65 174 64]) N) (S (S (R [w 67 .eql 30 27 8 30 4,m 66 67]) (C 66 K (R [w 68 .eql 30 27 231 30 4,m 66 68]))) (C 66 (R [m 69 0,o 70 (.nilck (t 69)),d 71 0 70,d 72 16 71,f 73 1 72,w 74 .sub 3 73 1 3 3,o 75 (.nilck (t 69)),d 76 0 75,d 77 16 76,s 1 77 74]) K)))))))) (S (.region [m 78 0,o 79 (.nilck (t 78)),d 80 0 79,d 81 15 80,O (.store 1 (t 81) (.const (.bool false)))] false) (R [m 82 0,ca 83 175 82]))))))).c
def a111:AFunc:=⟨84,c111,[],0⟩
def c112:ACode:=({c:=_}:TbD (S (R [b 3 61 1]) (S (.region [m 7 0,o 8 (.nilck (t 7)),d 9 0 8,d 10 17 9,O (.store 1 (t 10) (.const (.bool false)))] false) (S (D [m' 12 0 [5,6,7,8,9,10,11,12,13,14],u 13 (.nilck (t 12)) [5,6,7,8,9,10,11,12,13,14],d' 14 0 13 [5,6,7,8,9,10,11,12,13,14],d' 15 12 14 [5,6,7,8,9,10,11,12,13,14],f' 16 1 15 [5,6,7,8,9,10,11,12,13,14],m' 17 0 [0,1,2,3,4,11,12,13,14],u 18 (.nilck (t 17)) [0,1,2,3,4,11,12,13,14],d' 19 0 18 [0,1,2,3,4,11,12,13,14],d' 20 0 19 [0,1,2,3,4,11,12,13,14],d' 21 0 20 [0,1,2,3,4,11,12,13,14],l' 22 2 21 [0,1,2,3,4,11,12,13,14],d' 23 4 3 [0,1,2,3,4,5,6,7,8,9,10,13,14],f' 24 1 23 [0,1,2,3,4,5,6,7,8,9,10,13,14],d' 25 11 3 [0,1,2,3,4,5,6,7,8,9,10,11,12],f' 26 1 25 [0,1,2,3,4,5,6,7,8,9,10,11,12],o 27 (.call (.func 176) [(t 16),(t 22),(t 24),(t 26)]),m 11 27,e' 28 11 0 [18],e' 29 11 1 [17,19],m' 4 28 [18],m 5 29]) (S (S (R [m 30 5,w 31 .neq 30 30 0 30 4]) (C 31 N K)) (S (.region [m 32 0,o 33 (.nilck (t 32)),d 34 0 33,l 35 28 34,ca 36 74 35,o 37 (.build Z7 [(0,28,(t 36))]),b 38 74 37,m 6 38] false) (S (D [m' 39 6 [1,2,3,4],m' 40 6 [0,2,3,4,5,6,7,8],m' 41 4 [0,1,3,4],d' 42 5 3 [0,1,2,5,6,7,8],f' 43 1 42 [0,1,2,5,6,7,8],u 44 (.nilck (t 39)) [1,3,4],d' 45 0 44 [1,3,4],d' 46 12 45 [1,3,4],s' 1 46 41 [1,3,4],o 47 (.nilck (t 40)),d 48 0 47,d 49 19 48,s 1 49 43]) (S (R [m 50 6,m 51 6,o 52 (.nilck (t 51)),d 53 0 52,d 54 13 53,f 55 1 54,m 56 6,o 57 (.mkfn 178 [(t 56)] []),cb 58 177 55 57,o 59 (.nilck (t 50)),d 60 0 59,d 61 13 60,s 1 61 58]) (S (S (R [m 62 6,o 63 (.nilck (t 62)),d 64 0 63,d 65 15 64,f 66 1 65,m 67 66,p 68 (m_ 6) 67 [],p 69 (m_ 6) 67 [],p 70 (.nilck (t 69)) 67 [],p 71 (d_ 0 70) 67 [],p 72 (d_ 14 71) 67 [],p 73 (f_ 1 72) 67 [],p 74 (.iad 17 (t 73) (.const (.int .i64 0))) 67 [],p 75 (l_ 17 74) 67 [],p 76 (cb_ 178 68 75) 67 [],x 77 67 76]) (C 77 (.region [m 78 6,m 79 6,m 80 6,o 81 (.nilck (t 80)),d 82 0 81,d 83 14 82,f 84 1 83,o 85 (.slc 17 (t 84) (some (.const (.int .i64 1))) none none),o 86 (.nilck (t 78)),d 87 0 86,d 88 14 87,s 1 88 85,o 89 (.nilck (t 79)),d 90 0 89,d 91 15 90,O (.store 1 (t 91) (.const (.bool false)))] false) K)) (S (R [m 92 6,o 93 (.nilck (t 92)),d 94 0 93,l 95 28 94,ca 96 26 95]) (C 96 (R [m 97 0,m 98 6,o 99 (.nilck (t 98)),l 100 28 99,o 101 (.nilck (t 97)),s 28 101 100]) K))))))))))).c
def a112:AFunc:=⟨102,c112,[],0⟩
def c113:ACode:=({c:=_}:TbD (S (R [b 3 61 1]) (S (R [m 4 0,o 5 (.nilck (t 4)),d 6 0 5,d 7 18 6,O (.store 1 (t 7) (.const (.int .u8 0)))]) (D [m' 8 0 [1,2,3,4,5],d' 9 6 3 [0,4,5,6,7,8],f' 10 1 9 [0,4,5,6,7,8],u 11 (.pur (mkO (.binOp .sub 5 (t 10) (.const (.int .u8 1)) 5) 5)) [0,4,5,6,7,8],d' 12 7 3 [0,1,2,3,6,7,8],l' 13 4 12 [0,1,2,3,6,7,8],u 14 (.nilck (t 8)) [1,2,3,4,5],d' 15 0 14 [1,2,3,4,5],d' 16 20 15 [1,2,3,4,5],o 17 (.ida 2 4 (t 16) (t 11)),s 4 17 13])))).c
def a113:AFunc:=⟨18,c113,[],0⟩
def c114:ACode:=({c:=_}:TbD (S (R [b 3 61 1]) (S (R [m 4 0,d 5 3 3,f 6 1 5,o 7 (.nilck (t 4)),d 8 0 7,d 9 11 8,s 1 9 6]) (R [m 10 0,ca 11 174 10])))).c
def a114:AFunc:=⟨12,c114,[],0⟩
def c115:ACode:=({c:=_}:TbD (S (.region [b 1 29 0,o 2 (.alloc 29 Z2)] false) (S (R [d 5 2 1,f 6 1 5,ca 7 179 6,d 8 2 1,s 1 8 7]) (S (S (R [d 9 2 1,f 10 1 9,k 11 10,n 12 0]) (B 0 (L (S (R [v 13 .lss 3 12 11 3 0]) (S (C 13 K (X 0)) (S (B 1 (S (R [m 14 12,i 15 2 10 12,l 16 2 15,o 4 (.alloc 99 Z4),m 3 14,s 2 4 16]) (D [d' 17 2 1 [2,3,4,5],f' 18 1 17 [2,3,4,5],m' 19 3 [0,1,3,4,5],d' 20 1 4 [0,1,2],f' 21 1 20 [0,1,2],ca' 22 106 21 [0,1,2],i 23 2 18 19,d 24 1 23,s 1 24 22]))) (R [w 25 .add 3 12 1 3 3,m 12 25]))))))) (S (R [l 26 6 1,s 6 2 26]) N))))).c
def a115:AFunc:=⟨27,c115,[.cell 2 6 true],0⟩
def c116:ACode:=({c:=_}:TbD (S (R [z 2]) (S (S (R [m 5 0,k 6 5,n 7 0]) (B 0 (L (S (R [v 8 .lss 3 7 6 3 0]) (S (C 8 K (X 0)) (S (B 1 (S (R [i 9 17 5 7,l 10 17 9,o 4 (.alloc 69 Z13),s 17 4 10]) (R [m 11 2,l 12 17 4,ca 13 86 12,o 14 (.bsl 69 17 Z13 1 [(0,17,(t 13))]),o 15 (.app 69 17 112 Z13 (t 11) (t 14)),m 2 15]))) (R [w 16 .add 3 7 1 3 3,m 7 16]))))))) (S (R [m 17 2,m 2 17]) N)))).c
def a116:AFunc:=⟨18,c116,[.tmp 2],0⟩
def c117:ACode:=({c:=_}:TbD (S (R [z 2]) (S (S (D [m' 5 0 [5,6,7,8,9,10,11,14],u 6 (.nilck (t 5)) [5,6,7,8,9,10,11,14],d' 7 0 6 [5,6,7,8,9,10,11,14],d' 8 2 7 [5,6,7,8,9,10,11,14],f' 9 1 8 [5,6,7,8,9,10,11,14],m' 10 0 [0,1,2,3,4,14],u 11 (.nilck (t 10)) [0,1,2,3,4,14],d' 12 0 11 [0,1,2,3,4,14],d' 13 2 12 [0,1,2,3,4,14],f' 14 1 13 [0,1,2,3,4,14],k' 15 14 [0,1,2,3,4,14],u 16 (.pur (mkO (.call ⟨.builtin .min,#[(t 15),(.const (.int .i64 4))],#[3,3]⟩) 3)) [0,1,2,3,4,14],u 17 (.slc 2 (t 9) none (some (t 16)) none) [14],k' 18 17 [14],n' 19 0 [0,1,2,3,4,5,6,7,8,9,10,11,12,13]]) (B 0 (L (S (R [v 20 .lss 3 19 18 3 0]) (S (C 20 K (X 0)) (S (B 1 (S (R [i 21 2 17 19,l 22 2 21,o 4 (.alloc 99 Z4),s 2 4 22]) (D [m' 23 2 [1,2,3,4,5,6,7,8,9,10,11,12,13,14,15,16,17,18],m' 24 0 [0,6,7,8,9,10,11,12,13,14,15,16],u 25 (.nilck (t 24)) [0,6,7,8,9,10,11,12,13,14,15,16],d' 26 0 25 [0,6,7,8,9,10,11,12,13,14,15,16],d' 27 0 26 [0,6,7,8,9,10,11,12,13,14,15,16],f' 28 1 27 [0,6,7,8,9,10,11,12,13,14,15,16],d' 29 0 4 [0,1,2,3,4,5,8,9,10,11,12,13,14,15,16],f' 30 1 29 [0,1,2,3,4,5,8,9,10,11,12,13,14,15,16],m' 31 0 [0,1,2,3,4,5,6,7,14,15,16],u 32 (.nilck (t 31)) [0,1,2,3,4,5,6,7,14,15,16],d' 33 0 32 [0,1,2,3,4,5,6,7,14,15,16],d' 34 3 33 [0,1,2,3,4,5,6,7,14,15,16],f' 35 1 34 [0,1,2,3,4,5,6,7,14,15,16],w' 36 .sub 3 35 1 3 3 [0,1,2,3,4,5,6,7,14,15,16],d' 37 1 4 [0,1,2,3,4,5,6,7,8,9,10,11,12,13],f' 38 1 37 [0,1,2,3,4,5,6,7,8,9,10,11,12,13],ca' 39 106 38 [0,1,2,3,4,5,6,7,8,9,10,11,12,13],u 40 (.build Z0 [(0,1,(t 28)),(1,1,(t 30)),(2,1,(t 36)),(3,1,(t 39))]) [0],u 41 (.bsl 90 4 Z0 1 [(0,4,(t 40))]) [0],o 42 (.app 90 4 48 Z0 (t 23) (t 41)),m 2 42]))) (R [w 43 .add 3 19 1 3 3,m 19 43]))))))) (S (S (R [m 44 2,k 45 44,w 46 .eql 3 45 0 3 4,m 47 46,p 48 (m_ 0) 47 [],p 49 (.nilck (t 48)) 47 [],p 50 (d_ 0 49) 47 [],p 51 (d_ 5 50) 47 [],p 52 (f_ 1 51) 47 [],x 53 47 52]) (C 53 (D [m' 54 2 [1,2,3,4,5,6,7,8,9,10,11,12,13],m' 55 0 [0,6,7,8,9,10,11],u 56 (.nilck (t 55)) [0,6,7,8,9,10,11],d' 57 0 56 [0,6,7,8,9,10,11],d' 58 0 57 [0,6,7,8,9,10,11],f' 59 1 58 [0,6,7,8,9,10,11],m' 60 0 [0,1,2,3,4,5],u 61 (.nilck (t 60)) [0,1,2,3,4,5],d' 62 0 61 [0,1,2,3,4,5],d' 63 3 62 [0,1,2,3,4,5],f' 64 1 63 [0,1,2,3,4,5],w' 65 .sub 3 64 1 3 3 [0,1,2,3,4,5],u 66 (.build Z0 [(0,1,(t 59)),(2,1,(t 65))]) [0],u 67 (.bsl 90 4 Z0 1 [(0,4,(t 66))]) [0],o 68 (.app 90 4 48 Z0 (t 54) (t 67)),m 2 68]) K)) (S (.region [m 69 0,m 70 0,o 71 (.nilck (t 69)),d 72 0 71,d 73 5 72,O (.store 1 (t 73) (.const (.bool false))),o 74 (.nilck (t 70)),d 75 0 74,d 76 4 75,O (.store 1 (t 76) (.const (.int .i64 0)))] false) (S (R [m 77 2,m 2 77]) N)))))).c
def a117:AFunc:=⟨78,c117,[.tmp 2],0⟩
def c118:ACode:=({c:=_}:TbD (S (R [n 2 0]) (S (R [o 3 (.mov (.func 180))]) (S (B 0 (S (R [m 5 0,k 6 5,w 7 .gtr 3 6 64 3 4,m 4 7]) (C 4 (S (R [n 2 4]) N) (S (R [m 9 0,m 10 3,cb 11 182 9 10,m 8 11]) (C 8 (S (R [n 2 8]) N) K))))) (S (R [n 2 0]) N))))).c
def a118:AFunc:=⟨12,c118,[.tmp 2],1⟩
def c119:ACode:=({c:=_}:TbD (S (R [n 4 0,o 5 (.mov (.const .nilIface))]) (S (R [m 6 0,ca 7 183 6]) (S (R [m 8 0,m 9 0,o 10 (.nilck (t 9)),d 11 1 10,f 12 1 11,m 13 1,o 14 (.app 5 1 1 (.int .u8 0) (t 12) (t 13)),o 15 (.nilck (t 8)),d 16 1 15,s 1 16 14]) (S (R [m 17 1,o 18 (.pur (mkO (.call ⟨.builtin .len,#[(t 17)],#[9]⟩) 3)),m 4 18,o 5 (.mov (.const .nilIface))]) N))))).c
def a119:AFunc:=⟨19,c119,[.tmp 4,.tmp 5],1⟩
def c120:ACode:=({c:=_}:TbD (S (R [n 4 0,o 5 (.mov (.const .nilIface))]) (S (R [m 7 0,ca 8 183 7]) (S (R [m 9 0,o 10 (.nilck (t 9)),d 11 1 10,f 12 1 11,k 13 12,m 6 13]) (S (R [m 14 0,m 15 0,o 16 (.nilck (t 15)),d 17 1 16,f 18 1 17,m 19 1,cb 20 184 18 19,o 21 (.nilck (t 14)),d 22 1 21,s 1 22 20]) (S (R [m 23 0,o 24 (.nilck (t 23)),d 25 1 24,f 26 1 25,k 27 26,m 28 6,v 29 .sub 3 27 28 3 3,m 4 29,o 5 (.mov (.const .nilIface))]) N)))))).c
def a120:AFunc:=⟨30,c120,[.tmp 4,.tmp 5],1⟩
def c121:ACode:=({c:=_}:TbD (S (R [o 2 (.mov (.const (.string ⟨#[]⟩)))]) (S (D [m' 3 0 [5,6,7,8,9],u 4 (.nilck (t 3)) [5,6,7,8,9],d' 5 1 4 [5,6,7,8,9],f' 6 1 5 [5,6,7,8,9],u 7 (.bad "op") [5,6,7,8,9],m' 8 0 [0,1,2,3,4],u 9 (.nilck (t 8)) [0,1,2,3,4],d' 10 1 9 [0,1,2,3,4],f' 11 1 10 [0,1,2,3,4],k' 12 11 [0,1,2,3,4],o 13 (.bad "op"),m 2 13]) N))).c
def a121:AFunc:=⟨14,c121,[.tmp 2],1⟩
def c122:ACode:=({c:=_}:TbD (S (R [b 1 61 0,bf 2]) (S (R [bt 2]) N))).c
def a122:AFunc:=⟨3,c122,[.tmp 2],0⟩
def c123:ACode:=({c:=_}:TbD (S (R [b 1 61 0,bf 2]) (S (R [d 3 6 1,f 4 1 3,o 5 (.pur (mkO (.binOp .eql 5 (t 4) (.const (.int .u8 1)) 5) 4)),m 6 5,q 7 (d_ 6 1) 6 [],q 8 (f_ 1 7) 6 [],q 9 (.pur (mkO (.binOp .eql 5 (t 8) (.const (.int .u8 2)) 5) 4)) 6 [],y 10 6 9,m 2 10]) N))).c
def a123:AFunc:=⟨11,c123,[.tmp 2],0⟩
def c124:ACode:=({c:=_}:TbD (R [m 4 0,m 5 1,o 6 (.nilck (t 5)),d 7 1 6,o 8 (.call (.func 125) [(t 4),(t 7),(.const (.int .i64 1))])])).c
def a124:AFunc:=⟨9,c124,[],0⟩
def c125:ACode:=({c:=_}:TbD (S (S (R [m 9 0,o 10 (.nilck (t 9)),d 11 1 10,f 12 1 11,j 13 4 12 4]) (C 13 (S (D [m' 14 0 [1,2,3,4,5,6,7,8,9,10,11,12,13,14,15,16,17,18,19],m' 15 0 [0],u 16 (.nilck (t 15)) [0],d' 17 2 16 [0],f' 18 1 17 [0],m' 19 18 [0],q 20 (m_ 1) 19 [0],q 21 (.nilck (t 20)) 19 [0],q 22 (f_ 1 21) 19 [0],q 23 (w_ .lss 3 22 0 3 4) 19 [0],y' 24 19 23 [0],m' 25 24 [0],q 26 (m_ 1) 25 [0,15,16,17],q 27 (.nilck (t 26)) 25 [0,15,16,17],q 28 (f_ 1 27) 25 [0,15,16,17],q 29 (m_ 2) 25 [0,12,13,14],q 30 (.pur (mkO (.binOp .mul 3 (.const (.int .i64 8)) (t 29) 3) 3)) 25 [0,12,13,14],q 31 (.pur (mkO (.binOp .shl 3 (.const (.int .i64 1)) (t 30) 3) 3)) 25 [0,12,13,14],q 32 (v_ .geq 3 28 31 3 4) 25 [0],y' 33 25 32 [0],o 34 (.nilck (t 14)),d 35 2 34,s 1 35 33]) (S (S (R [m 36 2,w 37 .sub 3 36 1 3 3,m 6 37]) (B 0 (L (S (S (R [m 38 6,w 39 .geq 3 38 0 3 4]) (C 39 K (X 0))) (S (B 1 (D [m' 42 0 [1,2,3,4,5,6,7,8,9,10,11,12,13],m' 43 0 [0,5,6,7,8,9,10,11,12],u 44 (.nilck (t 43)) [0,5,6,7,8,9,10,11,12],d' 45 0 44 [0,5,6,7,8,9,10,11,12],f' 46 1 45 [0,5,6,7,8,9,10,11,12],m' 47 1 [0,1,2,3,4,8,9],u 48 (.nilck (t 47)) [0,1,2,3,4,8,9],f' 49 1 48 [0,1,2,3,4,8,9],m' 50 6 [0,1,2,3,4,5,6,7],u 51 (.pur (mkO (.binOp .mul 3 (.const (.int .i64 8)) (t 50) 3) 3)) [0,1,2,3,4,5,6,7],v' 52 .shr 3 49 51 3 3 [0,1,2,3,4],u 53 (.pur (mkO (.convert 3 5 (t 52)) 5)) [0,1,2,3,4],u 54 (.bsl 5 1 (.int .u8 0) 1 [(0,1,(t 53))]) [0,1,2,3,4],u 55 (.app 5 1 1 (.int .u8 0) (t 46) (t 54)) [0],o 56 (.nilck (t 42)),d 57 0 56,s 1 57 55])) (R [m 40 6,w 41 .sub 3 40 1 3 3,m 6 41])))))) N)) K)) (S (S (R [m 58 0,m 59 0,o 60 (.nilck (t 59)),d 61 2 60,f 62 1 61,m 63 62,q 64 (m_ 0) 63 [],q 65 (.nilck (t 64)) 63 [],q 66 (d_ 0 65) 63 [],q 67 (f_ 1 66) 63 [],q 68 (k_ 67) 63 [],q 69 (m_ 2) 63 [],q 70 (v_ .lss 3 68 69 3 4) 63 [],y 71 63 70,o 72 (.nilck (t 58)),d 73 2 72,s 1 73 71]) (S (R [m 74 0,o 75 (.nilck (t 74)),d 76 2 75,f 77 1 76]) (C 77 N K))) (S (R [m 78 1,o 79 (.nilck (t 78)),O (.store 1 (t 79) (.const (.int .i64 0)))]) (S (S (R [m 80 0,o 81 (.nilck (t 80)),d 82 0 81,f 83 1 82,m 84 2,o 85 (.slc 1 (t 83) none (some (t 84)) none),k 86 85,n 87 0]) (B 2 (L (S (R [v 88 .lss 3 87 86 3 0]) (S (C 88 K (X 2)) (S (B 3 (S (R [i 89 1 85 87,f 90 1 89,m 8 90]) (R [m 91 1,m 92 1,o 93 (.nilck (t 92)),f 94 1 93,o 95 (.pur (mkO (.binOp .shl 3 (t 94) (.const (.int .u64 8)) 260) 3)),m 96 8,o 97 (.pur (mkO (.convert 5 3 (t 96)) 3)),v 98 .or 3 95 97 3 3,o 99 (.nilck (t 91)),s 1 99 98]))) (R [w 100 .add 3 87 1 3 3,m 87 100]))))))) (R [m 101 0,m 102 0,o 103 (.nilck (t 102)),d 104 0 103,f 105 1 104,m 106 2,o 107 (.slc 1 (t 105) (some (t 106)) none none),o 108 (.nilck (t 101)),d 109 0 108,s 1 109 107])))))).c
def a125:AFunc:=⟨110,c125,[],0⟩
def c126:ACode:=({c:=_}:TbD (R [m 4 0,m 5 1,o 6 (.nilck (t 5)),d 7 11 6,o 8 (.call (.func 127) [(t 4),(t 7),(.const (.int .i64 1))])])).c
def a126:AFunc:=⟨9,c126,[],0⟩
def c127:ACode:=({c:=_}:TbD (S (R [n 6 0]) (B 0 (L (S (S (R [m 12 6,m 13 2,v 14 .lss 3 12 13 3 4,m 15 14,p 16 (m_ 0) 15 [],p 17 (.nilck (t 16)) 15 [],p 18 (d_ 2 17) 15 [],p 19 (f_ 1 18) 15 [],p 20 (j_ 4 19 4) 15 [],x 21 15 20]) (C 21 K (X 0))) (S (B 1 (S (S (R [m 24 0,o 25 (.nilck (t 24)),d 26 1 25,f 27 1 26,j 28 4 27 4]) (C 28 (S (R [m 30 1,o 31 (.nilck (t 30)),f 32 1 31,m 33 6,i 34 17 32 33,l 35 17 34,ca 36 185 35,m 29 36,e 37 29 0,e 38 29 1,m 7 37,m 8 38]) (S (R [m 39 0,m 40 0,m 41 0,o 42 (.nilck (t 41)),d 43 0 42,f 44 1 43,m 45 7,o 46 (.app 5 1 1 (.int .u8 0) (t 44) (t 45)),m 47 8,w 48 .neq 30 47 0 30 4,o 49 (.nilck (t 39)),d 50 0 49,s 1 50 46,o 51 (.nilck (t 40)),d 52 2 51,s 1 52 48]) (X 1))) K)) (S (R [m 54 0,o 55 (.nilck (t 54)),d 56 0 55,f 57 1 56,ca 58 186 57,m 53 58,e 59 53 0,e 60 53 1,e 61 53 2,o 9 (.alloc 69 Z13),s 17 9 59,m 10 60,m 11 61]) (S (R [m 62 0,m 63 11,w 64 .neq 30 63 0 30 4,o 65 (.nilck (t 62)),d 66 2 65,s 1 66 64]) (S (R [m 67 0,o 68 (.nilck (t 67)),d 69 2 68,f 70 1 69,j 71 4 70 4]) (C 71 (D [m' 72 1 [1,2,3,4,5,6,7,8,9,10,11,12,13],m' 73 0 [0,2,3,4,5,6,7,8,9,10,11,12,13,14,15],m' 74 1 [0,1,5,6,8,9,10,11,12,13],u 75 (.nilck (t 74)) [0,1,5,6,8,9,10,11,12,13],f' 76 1 75 [0,1,5,6,8,9,10,11,12,13],l' 77 17 9 [0,1,2,3,4,8,9,10,11,12,13],u 78 (.bsl 69 17 Z13 1 [(0,17,(t 77))]) [0,1,2,3,4,8,9,10,11,12,13],u 79 (.app 69 17 112 Z13 (t 76) (t 78)) [0,1,8,9,10,11,12,13],m' 80 0 [0,1,2,3,4,5,6,7,12],u 81 (.nilck (t 80)) [0,1,2,3,4,5,6,7,12],d' 82 0 81 [0,1,2,3,4,5,6,7,12],f' 83 1 82 [0,1,2,3,4,5,6,7,12],m' 84 10 [0,1,2,3,4,5,6,7,8,9,10,11,14,15],u 85 (.slc 1 (t 83) (some (t 84)) none none) [0,1,2,3,4,5,6,7,14,15],u 86 (.nilck (t 72)) [1,12,13],s' 1 86 79 [1,12,13],o 87 (.nilck (t 73)),d 88 0 87,s 1 88 85]) K)))))) (R [m 22 6,w 23 .add 3 22 1 3 3,m 6 23]))))))).c
def a127:AFunc:=⟨89,c127,[],0⟩
def c128:ACode:=({c:=_}:TbD (S (R [b 1 61 0,bf 2]) (S (R [d 3 11 1,f 4 1 3,o 5 (.iad 17 (t 4) (.const (.int .i64 0))),l 6 17 5,ca 7 58 6,m 2 7]) N))).c
def a128:AFunc:=⟨8,c128,[.tmp 2],0⟩
def c129:ACode:=({c:=_}:TbD (R [m 4 0,m 5 1,o 6 (.nilck (t 5)),d 7 4 6,o 8 (.call (.func 125) [(t 4),(t 7),(.const (.int .i64 3))])])).c
def a129:AFunc:=⟨9,c129,[],0⟩
def c130:ACode:=({c:=_}:TbD (S (R [m 5 1,o 6 (.nilck (t 5)),d 7 6 6,f 8 1 7,o 9 (.pur (mkO (.convert 5 3 (t 8)) 3)),o 4 (.alloc 3 (.int .i64 0)),s 1 4 9]) (S (R [m 10 0,o 11 (.call (.func 125) [(t 10),(t 4),(.const (.int .i64 1))])]) (R [m 12 1,f 13 1 4,o 14 (.pur (mkO (.convert 3 5 (t 13)) 5)),o 15 (.nilck (t 12)),d 16 6 15,s 1 16 14])))).c
def a130:AFunc:=⟨17,c130,[],0⟩
def c131:ACode:=({c:=_}:TbD (.skip)).c
def a131:AFunc:=⟨4,c131,[],0⟩
def c132:ACode:=({c:=_}:TbD (S (R [m 5 1,o 6 (.nilck (t 5)),d 7 3 6,f 8 1 7,o 4 (.alloc 3 (.int .i64 0)),s 1 4 8]) (S (R [m 9 0,o 10 (.call (.func 125) [(t 9),(t 4),(.const (.int .i64 2))])]) (R [m 11 1,f 12 1 4,o 13 (.nilck (t 11)),d 14 3 13,s 1 14 12])))).c
def a132:AFunc:=⟨15,c132,[],0⟩
def c133:ACode:=({c:=_}:TbD (S (R [m 4 0,m 5 1,o 6 (.nilck (t 5)),d 7 2 6,o 8 (.call (.func 125) [(t 4),(t 7),(.const (.int .i64 3))])]) (R [m 9 0,m 10 1,cb 11 132 9 10]))).c
def a133:AFunc:=⟨12,c133,[],0⟩
def c134:ACode:=({c:=_}:TbD (S (R [b 1 61 0,bf 2]) (S (R [d 3 2 1,f 4 1 3,w 5 .gtr 3 4 0 3 4,m 2 5]) N))).c
def a134:AFunc:=⟨6,c134,[.tmp 2],0⟩
def c135:ACode:=({c:=_}:TbD (S (R [m 5 0,m 6 1,o 7 (.nilck (t 6)),d 8 4 7,o 9 (.call (.func 125) [(t 5),(t 8),(.const (.int .i64 3))])]) (S (R [m 10 0,m 11 1,o 12 (.nilck (t 11)),d 13 5 12,o 14 (.call (.func 125) [(t 10),(t 13),(.const (.int .i64 3))])]) (S (R [m 15 1,o 16 (.nilck (t 15)),d 17 11 16,f 18 1 17,k 19 18,o 4 (.alloc 3 (.int .i64 0)),s 1 4 19]) (S (R [m 20 0,o 21 (.call (.func 125) [(t 20),(t 4),(.const (.int .i64 1))])]) (S (R [m 22 0,m 23 0,o 24 (.nilck (t 23)),d 25 2 24,f 26 1 25,m 27 26,q 28 (f_ 1 4) 27 [],q 29 (w_ .gtr 3 28 3 3 4) 27 [],y 30 27 29,o 31 (.nilck (t 22)),d 32 2 31,s 1 32 30]) (D [m' 33 0 [1,2,3,4],m' 34 1 [0,4],u 35 (.nilck (t 34)) [0,4],d' 36 11 35 [0,4],f' 37 1 4 [0,1,2,3],cd 38 127 33 36 37]))))))).c
def a135:AFunc:=⟨39,c135,[],0⟩
def c136:ACode:=({c:=_}:TbD (S (R [m 5 0,m 6 1,cb 7 130 5 6]) (S (R [n 8 0]) (B 0 (L (S (R [w 9 .lss 3 8 4 3 0]) (S (C 9 K (X 0)) (S (B 1 (S (R [m 10 8,m 4 10]) (R [m 11 0,m 12 1,m 13 4,o 14 (.nilck (t 12)),d 15 7 14,o 16 (.ida 4 1 (t 15) (t 13)),o 17 (.call (.func 125) [(t 11),(t 16),(.const (.int .i64 3))])]))) (R [w 18 .add 3 8 1 3 3,m 8 18]))))))))).c
def a136:AFunc:=⟨19,c136,[],0⟩
def c137:ACode:=({c:=_}:TbD (S (R [bf 6]) (S (S (R [m 10 0,k 11 10,m 12 1,k 13 12,v 14 .neq 3 11 13 3 4]) (C 14 (S (R [bf 6]) N) K)) (S (S (R [m 15 0,k 16 15,n 17 0]) (B 0 (L (S (R [v 18 .lss 3 17 16 3 0]) (S (C 18 K (X 0)) (S (B 1 (S (R [m 19 17,i 20 17 15 17,l 21 17 20,o 8 (.alloc 69 Z13),m 7 19,s 17 8 21]) (S (R [m 22 1,m 23 7,i 24 17 22 23,l 25 17 24,o 9 (.alloc 69 Z13),s 17 9 25]) (S (R [m 26 2,l 27 17 8,l 28 17 9,o 29 (.call (t 26) [(t 27),(t 28)]),j 30 4 29 4]) (C 30 (S (R [bf 6]) N) K))))) (R [w 31 .add 3 17 1 3 3,m 17 31]))))))) (S (R [bt 6]) N))))).c
def a137:AFunc:=⟨32,c137,[.tmp 6],1⟩
def c138:ACode:=({c:=_}:TbD (S (R [b 2 69 0,b 3 69 1,bf 4]) (S (D [l' 7 17 2 [1,2,3],l' 8 17 3 [0,2,3,4],u 5 (.alloc 69 Z13) [0,1,3],u 6 (.alloc 69 Z13) [0,1,2],s' 17 5 7 [1],s 17 6 8]) (S (R [d 9 0 5,f 10 1 9,d 11 0 6,f 12 1 11,v 13 .eql 5 10 12 5 4,m 14 13,p 15 (d_ 1 5) 14 [],p 16 (l_ 3 15) 14 [],p 17 (d_ 1 6) 14 [],p 18 (l_ 3 17) 14 [],p 19 (v_ .eql 26 16 18 26 4) 14 [],x 20 14 19,m 21 20,p 22 (d_ 4 5) 21 [],p 23 (f_ 1 22) 21 [],p 24 (d_ 4 6) 21 [],p 25 (f_ 1 24) 21 [],p 26 (v_ .eql 3 23 25 3 4) 21 [],x 27 21 26,m 28 27,p 29 (d_ 5 5) 28 [],p 30 (l_ 5 29) 28 [],p 31 (d_ 5 6) 28 [],p 32 (l_ 5 31) 28 [],p 33 (v_ .eql 67 30 32 67 4) 28 [],x 34 28 33,m 35 34,p 36 (d_ 10 5) 35 [],p 37 (l_ 4 36) 35 [],p 38 (d_ 10 6) 35 [],p 39 (l_ 4 38) 35 [],p 40 (v_ .eql 48 37 39 48 4) 35 [],x 41 35 40,m 42 41,p 43 (d_ 14 5) 42 [],p 44 (l_ 2 43) 42 [],p 45 (d_ 14 6) 42 [],p 46 (l_ 2 45) 42 [],p 47 (v_ .eql 24 44 46 24 4) 42 [],x 48 42 47,m 49 48,p 50 (d_ 16 5) 49 [],p 51 (f_ 1 50) 49 [],p 52 (d_ 16 6) 49 [],p 53 (f_ 1 52) 49 [],p 54 (cb_ 187 51 53) 49 [],x 55 49 54,m 4 55]) N)))).c
def a138:AFunc:=⟨56,c138,[.tmp 4],1⟩
def c139:ACode:=({c:=_}:TbD (S (R [b 1 67 0,z 2]) (S (S (R [d 6 4 1,f 7 1 6,n 8 0]) (B 0 (L (S (R [v 9 .lss 3 8 7 3 4]) (S (C 9 K (X 0)) (S (B 1 (S (R [m 10 8,m 3 10]) (S (R [l 12 5 1,m 13 3,cb 14 149 12 13,m 11 14,e 15 11 0,e 16 11 1,o 4 (.alloc 48 Z10),s 4 4 15,m 5 16]) (R [m 17 2,l 18 4 4,o 19 (.bsl 48 4 Z10 1 [(0,4,(t 18))]),o 20 (.app 48 4 24 Z10 (t 17) (t 19)),m 2 20])))) (R [w 21 .add 3 8 1 3 3,m 8 21]))))))) (S (R [m 22 2,m 2 22]) N)))).c
def a139:AFunc:=⟨23,c139,[.tmp 2],1⟩
def c140:ACode:=({c:=_}:TbD (S (R [b 1 67 0,n 2 0]) (S (R [d 3 0 1,l 4 4 3,ca 5 158 4,w 6 .eql 30 5 0 30 4,m 7 6,p 8 (d_ 4 1) 7 [],p 9 (f_ 1 8) 7 [],p 10 (w_ .geq 3 9 1 3 4) 7 [],x 11 7 10,m 12 11,p 13 (d_ 4 1) 12 [],p 14 (f_ 1 13) 12 [],p 15 (w_ .leq 3 14 64 3 4) 12 [],x 16 12 15,m 17 16,p 18 (d_ 0 1) 17 [],p 19 (d_ 3 18) 17 [],p 20 (f_ 1 19) 17 [],p 21 (d_ 4 1) 17 [],p 22 (f_ 1 21) 17 [],p 23 (v_ .add 3 20 22 3 3) 17 [],p 24 (w_ .sub 3 23 1 3 3) 17 [],p 25 (w_ .leq 3 24 1099511627776 3 4) 17 [],x 26 17 25,ca 27 51 26,m 2 27]) N))).c
def a140:AFunc:=⟨28,c140,[.tmp 2],1⟩
def c141:ACode:=({c:=_}:TbD (S (R [o 0 (.alloc 233 Z15)]) (S (R [o 1 (.alloc 122 .nilFunc),O (.store 1 (t 1) (.func 188))]) (S (R [o 2 (.alloc 122 .nilFunc),O (.store 1 (t 2) (.func 189))]) (S (R [o 3 (.mkfn 191 [] [(t 2)]),o 4 (.build Z16 [(0,1,(t 3)),(1,1,(.func 192))]),o 5 (.mkfn 193 [] [(t 2),(t 1)]),o 6 (.build Z16 [(0,1,(t 5)),(1,1,(.func 194))]),o 7 (.mkfn 195 [] [(t 1)]),o 8 (.build Z16 [(0,1,(t 7)),(1,1,(.func 196))]),o 9 (.build Z15 [(2,2,(t 4)),(4,2,(t 6)),(6,2,(t 8))]),s 8 0 9]) N))))).c
def a141:AFunc:=⟨10,c141,[.cell 0 8 true],0⟩
def c142:ACode:=({c:=_}:TbD (S (R [b 2 166 0,b 3 69 1,n 4 0]) (S (S (R [d 7 10 3,l 8 4 7,o 9 (.build Z10 []),v 10 .neq 48 8 9 48 4,m 11 10,p 12 (f_ 1 2) 11 [],p 13 (l_ 17 3) 11 [],p 14 (d_ 10 3) 11 [],p 15 (l_ 4 14) 11 [],p 16 (cd_ 197 12 13 15) 11 [],p 17 (j_ 4 16 4) 11 [],x 18 11 17]) (C 18 (S (R [n 4 6]) N) K)) (S (S (R [l 20 17 3,ca 21 87 20,m 19 21,e 22 19 0,e 23 19 1,o 5 (.alloc 172 Z8),s 10 5 22,m 6 23]) (S (R [m 24 6,w 25 .neq 30 24 0 30 4,m 26 25,q 27 (d_ 5 3) 26 [],q 28 (l_ 5 27) 26 [],q 29 (ca_ 139 28) 26 [],q 30 (.mkfn 199 [] [(t 2)]) 26 [],q 31 (cb_ 198 29 30) 26 [],y 32 26 31]) (C 32 (S (R [n 4 2]) N) K))) (S (S (D [f' 33 1 2 [5,6,7],u 34 (.nilck (t 33)) [5,6,7],d' 35 1 34 [5,6,7],f' 36 1 35 [5,6,7],u 37 (.mlen (t 36)) [5,6,7],d' 38 5 3 [0,1,2,3,4],d' 39 4 38 [0,1,2,3,4],f' 40 1 39 [0,1,2,3,4],v 41 .add 3 37 40 3 3,w 42 .gtr 3 41 8192 3 4]) (C 42 (S (R [n 4 4]) N) K)) (S (R [n 4 0]) N)))))).c
def a142:AFunc:=⟨43,c142,[.tmp 4],0⟩
def c143:ACode:=({c:=_}:TbD (S (R [b 3 69 1,n 4 0]) (S (B 0 (S (R [m 6 0,l 7 17 3,cb 8 200 6 7,j 9 4 8 4,m 5 9]) (C 5 (S (R [n 4 6]) N) (S (R [d 11 5 3,d 12 0 11,d 13 0 12,d 14 0 13,l 15 2 14,d 16 1 3,d 17 0 16,l 18 2 17,v 19 .neq 24 15 18 24 4,m 10 19]) (C 10 (S (R [n 4 2]) N) K))))) (S (R [n 4 0]) N)))).c
def a143:AFunc:=⟨20,c143,[.tmp 4],0⟩
def c144:ACode:=({c:=_}:TbD (S (R [b 3 69 1,n 4 0]) (S (S (R [m 7 0,l 8 17 3,cb 9 200 7 8,j 10 4 9 4]) (C 10 (S (R [n 4 6]) N) K)) (S (S (D [m' 12 0 [4],u 13 (.nilck (t 12)) [4],d' 14 0 13 [4],f' 15 1 14 [4],l' 16 17 3 [0,1,2,3],cb 17 201 15 16,m 11 17,e' 18 11 0 [8],e' 19 11 1 [7,9],m' 5 18 [8],m 6 19]) (S (R [m 20 6,w 21 .neq 30 20 0 30 4,m 22 21,q 23 (m_ 5) 22 [],q 24 (j_ 4 23 4) 22 [],y 25 22 24]) (C 25 (S (R [n 4 2]) N) K))) (S (R [n 4 0]) N))))).c
def a144:AFunc:=⟨26,c144,[.tmp 4],0⟩
def c145:ACode:=({c:=_}:TbD (S (R [z 2]) (S (S (R [m 3 0,o 4 (.eqnil false 1 (t 3) (mkO (.binOp .eql 43 (t 3) (.const (.slice none 0 0)) 43) 4))]) (C 4 (S (R [z 2]) N) K)) (S (R [o 5 (.bsl 21 1 (.int .i32 0) 0 []),m 6 0,o 7 (.app 21 1 4 (.int .i32 0) (t 5) (t 6)),m 2 7]) N)))).c
def a145:AFunc:=⟨8,c145,[.tmp 2],0⟩
def c146:ACode:=({c:=_}:TbD (S (R [b 1 172 0,n 2 0]) (S (R [d 4 5 1,l 5 4 4,o 6 (.build Z10 []),v 7 .eql 48 5 6 48 4,m 8 7,q 9 (d_ 5 1) 8 [],q 10 (l_ 4 9) 8 [],q 11 (ca_ 158 10) 8 [],q 12 (w_ .eql 30 11 0 30 4) 8 [],q 13 (m_ 12) 8 [],p 14 (d_ 5 1) 13 [],p 15 (d_ 3 14) 13 [],p 16 (f_ 1 15) 13 [],p 17 (d_ 0 1) 13 [],p 18 (d_ 0 17) 13 [],p 19 (d_ 3 18) 13 [],p 20 (f_ 1 19) 13 [],p 21 (v_ .lss 3 16 20 3 4) 13 [],q 22 (x_ 13 21) 8 [],y 23 8 22,m 3 23]) (S (S (R [d 24 0 1,l 25 5 24,ca 26 140 25,w 27 .neq 30 26 0 30 4,m 28 27,q 29 (m_ 3) 28 [],q 30 (j_ 4 29 4) 28 [],y 31 28 30,m 32 31,q 33 (d_ 9 1) 32 [],q 34 (f_ 1 33) 32 [],q 35 (k_ 34) 32 [],q 36 (d_ 0 1) 32 [],q 37 (d_ 4 36) 32 [],q 38 (f_ 1 37) 32 [],q 39 (v_ .neq 3 35 38 3 4) 32 [],y 40 32 39,m 41 40,q 42 (d_ 9 1) 41 [],q 43 (f_ 1 42) 41 [],q 44 (ca_ 118 43) 41 [],q 45 (w_ .neq 30 44 0 30 4) 41 [],y 46 41 45]) (C 46 (S (R [n 2 8]) N) K)) (S (R [n 2 0]) N))))).c
def a146:AFunc:=⟨47,c146,[.tmp 2],1⟩
def c147:ACode:=({c:=_}:TbD (S (R [n 2 0]) (S (S (R [m 3 0,o 4 (.call (.func 202) [(t 3),(.func 203)]),m 5 4,q 6 (m_ 0) 5 [],q 7 (ca_ 150 6) 5 [],q 8 (w_ .gtr 3 7 8192 3 4) 5 [],y 9 5 8,m 10 9,q 11 (m_ 0) 10 [],q 12 (ca_ 204 11) 10 [],q 13 (j_ 4 12 4) 10 [],y 14 10 13,m 15 14,q 16 (m_ 0) 15 [],q 17 (ca_ 153 16) 15 [],q 18 (m_ 0) 15 [],q 19 (cb_ 205 17 18) 15 [],q 20 (j_ 4 19 4) 15 [],y 21 15 20]) (C 21 (S (R [n 2 8]) N) K)) (S (R [n 2 0]) N)))).c
def a147:AFunc:=⟨22,c147,[.tmp 2],1⟩
def c148:ACode:=({c:=_}:TbD (S (R [b 3 48 1,n 4 0,n 5 0]) (S (S (R [m 10 0,k 11 10,n 12 0]) (B 0 (L (S (R [v 13 .lss 3 12 11 3 0]) (S (C 13 K (X 0)) (S (B 1 (S (R [m 14 12,i 15 10 10 12,l 16 10 15,o 7 (.alloc 172 Z8),m 6 14,s 10 7 16]) (S (R [d 18 0 7,l 19 5 18,l 20 4 3,cb 21 91 19 20,m 17 21,e 22 17 0,e 23 17 1,m 8 22,m 9 23]) (S (R [m 24 9]) (C 24 (S (R [m 25 6,m 26 8,m 4 25,m 5 26]) N) K))))) (R [w 27 .add 3 12 1 3 3,m 12 27]))))))) (S (R [n 4 (-1),n 5 0]) N)))).c
def a148:AFunc:=⟨28,c148,[.tmp 4,.tmp 5],1⟩
def c149:ACode:=({c:=_}:TbD (S (R [b 2 67 0,o 4 (.alloc 48 Z10),n 5 0]) (S (S (R [l 7 5 2,ca 8 140 7,m 6 8]) (S (R [m 9 6,w 10 .neq 30 9 0 30 4]) (C 10 (S (R [o 11 (.build Z10 []),m 12 6,s 4 4 11,m 5 12]) N) K))) (S (S (R [m 13 1,w 14 .lss 3 13 0 3 4,m 15 14,q 16 (m_ 1) 15 [],q 17 (d_ 4 2) 15 [],q 18 (f_ 1 17) 15 [],q 19 (v_ .geq 3 16 18 3 4) 15 [],y 20 15 19]) (C 20 (S (R [o 21 (.build Z10 []),s 4 4 21,n 5 2]) N) K)) (S (R [d 22 0 2,l 23 4 22,m 24 1,cb 25 156 23 24,s 4 4 25,n 5 0]) N))))).c
def a149:AFunc:=⟨26,c149,[.cell 4 4 true,.tmp 5],1⟩
def c150:ACode:=({c:=_}:TbD (S (R [n 2 0]) (S (S (R [m 5 0,k 6 5,n 7 0]) (B 0 (L (S (R [v 8 .lss 3 7 6 3 0]) (S (C 8 K (X 0)) (S (B 1 (S (R [i 9 10 5 7,l 10 10 9,o 4 (.alloc 172 Z8),s 10 4 10]) (R [m 11 2,d 12 0 4,d 13 4 12,f 14 1 13,v 15 .add 3 11 14 3 3,m 2 15]))) (R [w 16 .add 3 7 1 3 3,m 7 16]))))))) (S (R [m 17 2,m 2 17]) N)))).c
def a150:AFunc:=⟨18,c150,[.tmp 2],1⟩
def c151:ACode:=({c:=_}:TbD (S (R [b 3 48 1,z 4,n 5 0]) (S (S (R [l 11 4 3,o 12 (.build Z10 []),v 13 .eql 48 11 12 48 4]) (C 13 (S (R [m 14 0,m 4 14,n 5 0]) N) K)) (S (R [m 16 0,l 17 4 3,cb 18 148 16 17,m 15 18,e 19 15 0,e 20 15 1,m 6 19,m 7 20]) (S (S (R [m 22 0,m 23 6,i 24 10 22 23,l 25 10 24,m 26 7,w 27 .add 3 26 1 3 3,cb 28 206 25 27,m 21 28,e 29 21 0,e 30 21 1,e 31 21 2,o 8 (.alloc 172 Z8),o 9 (.alloc 172 Z8),s 10 8 29,s 10 9 30,m 10 31]) (S (R [m 32 10,w 33 .eql 30 32 0 30 4]) (C 33 (D [m' 34 0 [1,3,4,5,6,7,8,9],m' 35 6 [0,3,4,5,6,7,8,9],u 36 (.slc 10 (t 34) none (some (t 35)) none) [3,4,5,6,7,8,9],l' 37 10 8 [0,1,2,4,6,7,8,9],l' 38 10 9 [0,1,2,3,6,7,8,9],u 39 (.bsl 172 10 Z8 2 [(0,10,(t 37)),(10,10,(t 38))]) [0,1,2,6,7,8,9],m' 40 0 [0,1,2,3,4,5,7,8],m' 41 6 [0,1,2,3,4,5,6],w' 42 .add 3 41 1 3 3 [0,1,2,3,4,5,6],u 43 (.slc 10 (t 40) (some (t 42)) none none) [0,1,2,3,4,5],o 44 (.bsl 109 1 (.slice none 0 0) 3 [(0,1,(t 36)),(1,1,(t 39)),(2,1,(t 43))]),ca 45 207 44,m 0 45]) K))) (S (R [m 46 0,m 47 6,w 48 .add 3 47 1 3 3,m 4 46,m 5 48]) N)))))).c
def a151:AFunc:=⟨49,c151,[.tmp 4,.tmp 5],1⟩
def c152:ACode:=({c:=_}:TbD (S (R [b 2 48 0,b 3 48 1,bf 4]) (S (B 0 (S (R [d 6 3 2,f 7 1 6,d 8 3 3,f 9 1 8,v 10 .neq 3 7 9 3 4,m 5 10]) (C 5 (S (R [d 11 3 2,f 12 1 11,d 13 3 3,f 14 1 13,v 15 .lss 3 12 14 3 4,m 4 15]) N) (S (R [d 17 0 2,d 18 0 17,l 19 2 18,d 20 0 3,d 21 0 20,l 22 2 21,v 23 .neq 24 19 22 24 4,m 16 23]) (C 16 (S (R [d 24 0 2,d 25 0 24,l 26 2 25,d 27 0 3,d 28 0 27,l 29 2 28,cb 30 208 26 29,m 4 30]) N) K))))) (S (R [d 31 0 2,d 32 2 31,f 33 1 32,d 34 0 3,d 35 2 34,f 36 1 35,v 37 .lss 5 33 36 5 4,m 4 37]) N)))).c
def a152:AFunc:=⟨38,c152,[.tmp 4],1⟩
def c153:ACode:=({c:=_}:TbD (S (R [z 2]) (S (S (R [m 13 0,k 14 13,n 15 0]) (B 0 (L (S (R [v 16 .lss 3 15 14 3 0]) (S (C 16 K (X 0)) (S (B 1 (S (R [i 17 10 13 15,l 18 10 17,o 4 (.alloc 172 Z8),s 10 4 18]) (S (R [m 19 2,k 20 19,w 21 .sub 3 20 1 3 3,m 5 21]) (S (D [m 22 5,w 23 .geq 3 22 0 3 4,m 24 23,p 25 (d_ 5 4) 24 [5,6,7,8,9],p 26 (l_ 4 25) 24 [5,6,7,8,9],p 27 (m_ 2) 24 [3,4,6],p 28 (m_ 5) 24 [3,4,5],p 29 (i_ 10 27 28) 24 [3,4],p 30 (l_ 10 29) 24 [3,4],p 31 (ca_ 209 30) 24 [3,4],p 32 (v_ .eql 48 26 31 48 4) 24 [],x 33 24 32,m 34 33,p 35 (d_ 0 4) 34 [16,17,18,19,20,21,22,23],p 36 (d_ 0 35) 34 [16,17,18,19,20,21,22,23],p 37 (l_ 4 36) 34 [16,17,18,19,20,21,22,23],p 38 (d_ 5 4) 34 [13,14,15,19,20,21,22],p 39 (d_ 0 38) 34 [13,14,15,19,20,21,22],p 40 (l_ 3 39) 34 [13,14,15,19,20,21,22],p 41 (d_ 5 4) 34 [13,14,15,16,17,18],p 42 (d_ 3 41) 34 [13,14,15,16,17,18],p 43 (f_ 1 42) 34 [13,14,15,16,17,18],p 44 (w_ .add 3 43 1 3 3) 34 [13,14,15,16,17,18],p 45 (.build Z10 [(0,3,(t 40)),(3,1,(t 44))]) 34 [13,14,15],p 46 (v_ .eql 48 37 45 48 4) 34 [],x 47 34 46,m 6 47]) (S (S (R [m 48 6]) (C 48 (S (R [m 49 2,m 50 5,i 51 10 49 50,d 52 0 51,d 53 4 52,f 54 1 53,o 55 (.pur (mkO (.binOp .sub 3 (.const (.int .i64 64)) (t 54) 3) 3)),m 7 55]) (S (R [l 57 10 4,m 58 7,cb 59 206 57 58,m 56 59,e 60 56 0,e 61 56 1,e 62 56 2,o 8 (.alloc 172 Z8),o 9 (.alloc 172 Z8),s 10 8 60,s 10 9 61,m 10 62]) (S (R [m 63 10,w 64 .eql 30 63 0 30 4]) (C 64 (S (D [m' 66 2 [1,2,3,4,5,6,7,8,9,10],m' 67 5 [0,2,3,4,5,6,7,8,9,10],m' 68 2 [0,1,3,6],m' 69 5 [0,1,2,6],i' 70 10 68 69 [0,1,6],l' 71 10 70 [0,1,6],l' 72 10 8 [0,1,2,3,4,5],cb' 73 210 71 72 [0,1],m' 65 73 [0,1],e' 74 65 0 [0,1,10],e' 75 65 1 [0,1,9,11,12],i' 76 10 66 67 [10],s' 10 76 74 [10]]) (R [l 77 10 9,s 10 4 77])) (S (D [m' 79 2 [1,4,9],m' 80 5 [0,4,9],i' 81 10 79 80 [4,9],l' 82 10 81 [4,9],l' 83 10 4 [0,1,2,3,9],cb' 84 210 82 83 [9],m' 78 84 [9],e' 85 78 0 [8,9],e' 86 78 1 [7,9,10],u 11 (.alloc 172 Z8) [0,1,2,3,4,5,6,7,8],s' 10 11 85 [8],m 12 86]) (S (R [m 87 12,w 88 .eql 30 87 0 30 4]) (C 88 (S (R [m 89 2,m 90 5,l 91 10 11,i 92 10 89 90,s 10 92 91]) (X 1)) K))))))) K)) (R [m 93 2,l 94 10 4,ca 95 211 94,o 96 (.bsl 172 10 Z8 1 [(0,10,(t 95))]),o 97 (.app 172 10 80 Z8 (t 93) (t 96)),m 2 97])))))) (R [w 98 .add 3 15 1 3 3,m 15 98]))))))) (S (R [m 99 2,m 2 99]) N)))).c
def a153:AFunc:=⟨100,c153,[.tmp 2],1⟩
def c154:ACode:=({c:=_}:TbD (S (R [z 6]) (S (R [m 10 0,m 11 1,o 12 (.slc 10 (t 10) (some (t 11)) none none)]) (S (R [m 13 2,k 14 13,m 7 14]) (S (S (R [m 15 7,w 16 .eql 3 15 0 3 4]) (C 16 (S (R [m 17 0,m 6 17]) N) K)) (S (R [m 18 0,k 19 18,m 8 19]) (S (S (R [m 20 1,m 21 8,v 22 .eql 3 20 21 3 4]) (C 22 (S (R [m 23 0,m 24 2,o 25 (.app 172 10 80 Z8 (t 23) (t 24)),m 6 25]) N) K)) (S (S (R [m 26 8,m 27 7,v 28 .add 3 26 27 3 3,m 29 0,o 30 (.cap (t 29)),v 31 .gtr 3 28 30 3 4]) (C 31 (S (R [m 32 0,m 33 1,o 34 (.slc 10 (t 32) none (some (t 33)) none),m 35 8,m 36 7,v 37 .add 3 35 36 3 3,m 38 1,v 39 .sub 3 37 38 3 3,o 40 (.appz 172 10 80 Z8 (t 34) (t 39)),m 9 40]) (S (R [m 41 9,m 42 1,o 43 (.slc 10 (t 41) (some (t 42)) none none),m 44 2,o 45 (.cpy 10 (t 43) (t 44))]) (S (D [m' 46 9 [1,2,3,5,6,7],m' 47 1 [0,2,5,6,7],m' 48 7 [0,1,5,6,7],v' 49 .add 3 47 48 3 3 [0,5,6,7],u 50 (.slc 10 (t 46) (some (t 49)) none none) [5,6,7],m' 51 0 [0,1,2,3,4,6],m' 52 1 [0,1,2,3,4,5],u 53 (.slc 10 (t 51) (some (t 52)) none none) [0,1,2,3,4],o 54 (.cpy 10 (t 50) (t 53))]) (S (R [m 55 9,m 6 55]) N)))) K)) (S (R [m 56 0,m 57 8,m 58 7,v 59 .add 3 57 58 3 3,o 60 (.slc 10 (t 56) none (some (t 59)) none),m 0 60]) (S (S (R [m 61 2,m 62 0,m 63 1,m 64 7,v 65 .add 3 63 64 3 3,o 66 (.slc 10 (t 62) (some (t 65)) none none),o 67 (.ovl 10 (t 61) (t 66)),j 68 4 67 4]) (C 68 (S (D [m' 69 0 [1,2,3,5,6,7],m' 70 1 [0,2,5,6,7],m' 71 7 [0,1,5,6,7],v' 72 .add 3 70 71 3 3 [0,5,6,7],u 73 (.slc 10 (t 69) (some (t 72)) none none) [5,6,7],m' 74 0 [0,1,2,3,4,6],m' 75 1 [0,1,2,3,4,5],u 76 (.slc 10 (t 74) (some (t 75)) none none) [0,1,2,3,4],o 77 (.cpy 10 (t 73) (t 76))]) (S (R [m 78 0,m 79 1,o 80 (.slc 10 (t 78) (some (t 79)) none none),m 81 2,o 82 (.cpy 10 (t 80) (t 81))]) (S (R [m 83 0,m 6 83]) N))) K)) (S (R [m 84 0,m 85 8,o 86 (.slc 10 (t 84) (some (t 85)) none none),m 87 2,o 88 (.cpy 10 (t 86) (t 87))]) (S (R [m 89 0,m 90 1,o 91 (.slc 10 (t 89) (some (t 90)) none none),m 92 7,cb 93 213 91 92]) (S (R [m 94 0,m 6 94]) N))))))))))))).c
def a154:AFunc:=⟨95,c154,[.tmp 6],0⟩
def c155:ACode:=({c:=_}:TbD (S (R [z 2]) (S (S (R [m 3 0,o 4 (.eqnil false 1 (t 3) (mkO (.binOp .eql 109 (t 3) (.const (.slice none 0 0)) 109) 4))]) (C 4 (S (R [z 2]) N) K)) (S (R [o 5 (.bsl 172 10 Z8 0 []),m 6 0,o 7 (.app 172 10 80 Z8 (t 5) (t 6)),m 2 7]) N)))).c
def a155:AFunc:=⟨8,c155,[.tmp 2],0⟩
def c156:ACode:=({c:=_}:TbD (S (R [b 2 48 0,o 4 (.alloc 48 Z10)]) (S (R [d 5 3 2,f 6 1 5,m 7 1,v 8 .add 3 6 7 3 3,d 9 3 2,s 1 9 8]) (S (R [l 10 4 2,s 4 4 10]) N)))).c
def a156:AFunc:=⟨11,c156,[.cell 4 4 true],1⟩
def c157:ACode:=({c:=_}:TbD (S (R [n 2 0]) (S (S (R [m 5 0,k 6 5,w 7 .gtr 3 6 2048 3 4]) (C 7 (S (R [n 2 4]) N) K)) (S (S (R [m 8 0,k 9 8,n 10 0]) (B 0 (L (S (R [v 11 .lss 3 10 9 3 0]) (S (C 11 K (X 0)) (S (B 1 (S (R [m 12 10,i 13 17 8 10,l 14 17 13,o 4 (.alloc 69 Z13),m 3 12,s 17 4 14]) (S (D [l 15 17 4,ca 16 84 15,w 17 .neq 30 16 0 30 4,m 18 17,q 19 (m_ 0) 18 [5,7],q 20 (m_ 3) 18 [4,7],q 21 (.slc 17 (t 19) none (some (t 20)) none) 18 [7],q 22 (l_ 17 4) 18 [4,5,6],q 23 (cb_ 214 21 22) 18 [],q 24 (j_ 4 23 4) 18 [],y 25 18 24]) (C 25 (S (R [n 2 8]) N) K)))) (R [w 26 .add 3 10 1 3 3,m 10 26]))))))) (S (R [n 2 0]) N))))).c
def a157:AFunc:=⟨27,c157,[.tmp 2],2⟩
def c158:ACode:=({c:=_}:TbD (S (R [b 1 48 0,n 2 0]) (S (R [d 3 0 1,l 4 3 3,ca 5 24 4,w 6 .eql 30 5 0 30 4,m 7 6,p 8 (d_ 3 1) 7 [],p 9 (f_ 1 8) 7 [],p 10 (w_ .geq 3 9 1 3 4) 7 [],x 11 7 10,m 12 11,p 13 (d_ 3 1) 12 [],p 14 (f_ 1 13) 12 [],p 15 (w_ .leq 3 14 1099511627776 3 4) 12 [],x 16 12 15,ca 17 51 16,m 2 17]) N))).c
def a158:AFunc:=⟨18,c158,[.tmp 2],1⟩
def c159:ACode:=({c:=_}:TbD (S (R [n 4 0]) (S (S (R [m 6 0,k 7 6,n 8 0]) (B 0 (L (S (R [v 9 .lss 3 8 7 3 0]) (S (C 9 K (X 0)) (S (B 1 (S (R [m 10 8,m 5 10]) (S (R [m 11 1,m 12 0,m 13 5,i 14 2 12 13,l 15 2 14,o 16 (.call (t 11) [(t 15)])]) (C 16 (S (R [m 17 5,m 4 17]) N) K)))) (R [w 18 .add 3 8 1 3 3,m 8 18]))))))) (S (R [n 4 (-1)]) N)))).c
def a159:AFunc:=⟨19,c159,[.tmp 4],0⟩
def c160:ACode:=({c:=_}:TbD (S (R [b 3 31 0,b 4 48 1,b 5 24 2,o 6 (.mov (.const .nilFunc))]) (S (R [o 7 (.mkfn 215 [] [(t 3),(t 4),(t 5)]),m 6 7]) N))).c
def a160:AFunc:=⟨8,c160,[.tmp 6],0⟩
def c161:ACode:=({c:=_}:TbD (S (R [b 3 24 1,bf 4]) (S (R [m 5 0,l 6 2 3,cb 7 216 5 6,w 8 .geq 3 7 0 3 4,m 4 8]) N))).c
def a161:AFunc:=⟨9,c161,[.tmp 4],2⟩
def c162:ACode:=({c:=_}:TbD (S (R [n 4 0]) (S (S (R [m 6 0,k 7 6,n 8 0]) (B 0 (L (S (R [v 9 .lss 3 8 7 3 0]) (S (C 9 K (X 0)) (S (B 1 (S (R [m 10 8,m 5 10]) (S (R [m 11 1,m 12 0,m 13 5,i 14 1 12 13,f 15 1 14,v 16 .eql 21 11 15 21 4]) (C 16 (S (R [m 17 5,m 4 17]) N) K)))) (R [w 18 .add 3 8 1 3 3,m 8 18]))))))) (S (R [n 4 (-1)]) N)))).c
def a162:AFunc:=⟨19,c162,[.tmp 4],1⟩
def c163:ACode:=({c:=_}:TbD (S (R [n 4 0]) (S (B 0 (S (R [m 6 1,k 7 6,w 8 .gtr 3 7 900 3 4,m 5 8]) (C 5 (S (R [n 4 4]) N) (S (S (R [m 10 0,o 11 (.nilck (t 10)),d 12 0 11,d 13 2 12,f 14 1 13,k 15 14,w 16 .geq 3 15 32 3 4,m 9 16]) (C 9 K (R [m 17 0,o 18 (.nilck (t 17)),d 19 0 18,d 20 1 19,f 21 1 20,w 22 .add 3 21 1 3 3,w 23 .geq 3 22 16777216 3 4,m 9 23]))) (C 9 (S (R [n 4 9]) N) K))))) (S (D [m' 24 0 [1,2,3,4,5,6,7,8,9,10,11,12,13,14,15],m' 25 0 [0,6,7,8,9,10,11,12,13,14],u 26 (.nilck (t 25)) [0,6,7,8,9,10,11,12,13,14],d' 27 0 26 [0,6,7,8,9,10,11,12,13,14],d' 28 2 27 [0,6,7,8,9,10,11,12,13,14],f' 29 1 28 [0,6,7,8,9,10,11,12,13,14],m' 30 0 [0,1,2,3,4,5,11,12],u 31 (.nilck (t 30)) [0,1,2,3,4,5,11,12],d' 32 0 31 [0,1,2,3,4,5,11,12],d' 33 1 32 [0,1,2,3,4,5,11,12],f' 34 1 33 [0,1,2,3,4,5,11,12],m' 35 1 [0,1,2,3,4,5,6,7,8,9,10],ca' 36 106 35 [0,1,2,3,4,5,6,7,8,9,10],u 37 (.build Z4 [(0,1,(t 34)),(1,1,(t 36))]) [0,1,2,3,4,5],u 38 (.bsl 99 2 Z4 1 [(0,2,(t 37))]) [0,1,2,3,4,5],u 39 (.app 99 2 32 Z4 (t 29) (t 38)) [0],o 40 (.nilck (t 24)),d 41 0 40,d 42 2 41,s 1 42 39]) (S (R [m 43 0,o 44 (.nilck (t 43)),d 45 0 44,d 46 1 45,f 47 1 46,w 48 .add 3 47 1 3 3,o 49 (.nilck (t 43)),d 50 0 49,d 51 1 50,s 1 51 48]) (S (R [n 4 0]) N)))))).c
def a163:AFunc:=⟨52,c163,[.tmp 4],0⟩
def c164:ACode:=({c:=_}:TbD (S (R [o 0 (.alloc 257 Z1)]) (S (R [o 1 (.build Z1 [(0,1,(.const (.int .i64 64))),(1,1,(.const (.int .i64 256))),(2,1,(.const (.int .i64 1024)))]),s 3 0 1]) N))).c
def a164:AFunc:=⟨2,c164,[.cell 0 3 true],1⟩
def c165:ACode:=({c:=_}:TbD (S (R [n 2 0]) (S (B 0 (S (R [m 4 0,w 5 .lss 3 4 0 3 4,m 6 5,q 7 (m_ 0) 6 [],q 8 (w_ .geq 3 7 72057594037927936 3 4) 6 [],y 9 6 8,m 3 9]) (C 3 (S (R [n 2 0]) N) (S (R [m 11 0,w 12 .lss 3 11 248 3 4,m 10 12]) (C 10 (S (R [n 2 1]) N) K))))) (S (R [m 13 0,ca 14 217 13,o 15 (.pur (mkO (.binOp .add 3 (.const (.int .i64 1)) (t 14) 3) 3)),m 2 15]) N)))).c
def a165:AFunc:=⟨16,c165,[.tmp 2],1⟩
def c166:ACode:=({c:=_}:TbD (S (R [z 2]) (S (S (R [m 5 0,k 6 5,n 7 0]) (B 0 (L (S (R [v 8 .lss 3 7 6 3 0]) (S (C 8 K (X 0)) (S (B 1 (S (R [i 9 1 5 7,f 10 1 9,m 4 10]) (R [m 11 2,m 12 4,o 13 (.app 5 1 1 (.int .u8 0) (t 11) (t 12)),m 2 13]))) (R [w 14 .add 3 7 1 3 3,m 7 14]))))))) (S (R [m 15 2,m 2 15]) N)))).c
def a166:AFunc:=⟨16,c166,[.tmp 2],1⟩
def c167:ACode:=({c:=_}:TbD (S (R [bf 2]) (S (R [m 4 0,k 5 4,w 6 .sub 3 5 3 3 3,m 3 6]) (S (D [m 7 3,w 8 .geq 3 7 0 3 4,m 9 8,p 10 (m_ 0) 9 [4,5,7,8,9,10,11,13],p 11 (m_ 3) 9 [3,5,7,8,9,10,11,13],p 12 (m_ 3) 9 [3,4,7,8,9,10,11,13],p 13 (.slc 1 (t 10) none (some (t 11)) (some (t 12))) 9 [7,8,9,10,11,13],p 14 (m_ 0) 9 [3,4,5,6,8,13],p 15 (m_ 3) 9 [3,4,5,6,7,13],p 16 (.slc 1 (t 14) none (some (t 15)) none) 9 [3,4,5,6,13],p 17 (ca_ 103 16) 9 [3,4,5,6,13],p 18 (ca_ 102 17) 9 [3,4,5,6,13],p 19 (.app 5 1 1 (.int .u8 0) (t 13) (t 18)) 9 [13],p 20 (m_ 0) 9 [3,4,5,6,7,8,9,10,11,12],p 21 (cb_ 169 19 20) 9 [],x 22 9 21,m 2 22]) N)))).c
def a167:AFunc:=⟨23,c167,[.tmp 2],1⟩
def c168:ACode:=({c:=_}:TbD (S (R [n 2 0,n 3 0,n 4 0]) (S (S (R [m 8 0,k 9 8,w 10 .eql 3 9 0 3 4]) (C 10 (S (R [n 2 0,n 3 0,n 4 8]) N) K)) (S (R [m 11 0,o 12 (.iad 1 (t 11) (.const (.int .i64 0))),f 13 1 12,o 14 (.pur (mkO (.convert 5 3 (t 13)) 3)),w 15 .sub 3 14 248 3 3,w 16 .add 3 15 1 3 3,o 17 (.pur (mkO (.call ⟨.builtin .max,#[(.const (.int .i64 0)),(t 16)],#[3,3]⟩) 3)),m 5 17]) (S (S (R [m 18 5,w 19 .eql 3 18 0 3 4]) (C 19 (S (R [m 20 0,o 21 (.iad 1 (t 20) (.const (.int .i64 0))),f 22 1 21,o 23 (.pur (mkO (.convert 5 3 (t 22)) 3)),m 2 23,n 3 1,n 4 0]) N) K)) (S (S (R [m 24 5,w 25 .gtr 3 24 7 3 4,m 26 25,q 27 (m_ 0) 26 [],q 28 (k_ 27) 26 [],q 29 (m_ 5) 26 [],q 30 (v_ .leq 3 28 29 3 4) 26 [],y 31 26 30]) (C 31 (S (R [n 2 0,n 3 0,n 4 8]) N) K)) (S (S (R [m 32 0,m 33 5,o 34 (.pur (mkO (.binOp .add 3 (.const (.int .i64 1)) (t 33) 3) 3)),o 35 (.slc 1 (t 32) (some (.const (.int .i64 1))) (some (t 34)) none),k 36 35,n 37 0]) (B 0 (L (S (R [v 38 .lss 3 37 36 3 0]) (S (C 38 K (X 0)) (S (B 1 (S (R [i 39 1 35 37,f 40 1 39,m 7 40]) (R [m 41 2,o 42 (.pur (mkO (.binOp .shl 3 (t 41) (.const (.int .u64 8)) 260) 3)),m 43 7,o 44 (.pur (mkO (.convert 5 3 (t 43)) 3)),v 45 .or 3 42 44 3 3,m 2 45]))) (R [w 46 .add 3 37 1 3 3,m 37 46]))))))) (S (S (R [m 47 2,ca 48 165 47,m 49 5,o 50 (.pur (mkO (.binOp .add 3 (.const (.int .i64 1)) (t 49) 3) 3)),v 51 .neq 3 48 50 3 4]) (C 51 (S (R [n 2 0,n 3 0,n 4 8]) N) K)) (S (R [m 52 2,m 53 5,o 54 (.pur (mkO (.binOp .add 3 (.const (.int .i64 1)) (t 53) 3) 3)),m 2 52,m 3 54,n 4 0]) N))))))))).c
def a168:AFunc:=⟨55,c168,[.tmp 2,.tmp 3,.tmp 4],1⟩
def c169:ACode:=({c:=_}:TbD (S (R [bf 4]) (S (R [m 5 0,o 6 (.b2s (t 5)),m 7 1,o 8 (.b2s (t 7)),v 9 .eql 9 6 8 9 4,m 4 9]) N))).c
def a169:AFunc:=⟨10,c169,[.tmp 4],1⟩
def c170:ACode:=({c:=_}:TbD (S (R [b 2 99 0,bf 3]) (S (R [d 4 0 2,f 5 1 4,f 6 1 1,v 7 .leq 3 5 6 3 4,m 3 7]) N))).c
def a170:AFunc:=⟨8,c170,[.tmp 3],0⟩
def c171:ACode:=({c:=_}:TbD (S (R [bf 4]) (S (R [m 5 0,m 6 1,cb 7 218 5 6,w 8 .geq 3 7 0 3 4,m 4 8]) N))).c
def a171:AFunc:=⟨9,c171,[.tmp 4],0⟩
def c172:ACode:=({c:=_}:TbD (S (R [z 4]) (S (R [m 8 0,m 9 1,cb 10 218 8 9,m 5 10]) (S (S (R [m 11 5,o 12 (.pur (mkO (.binOp .eql 3 (t 11) (.const (.int .i64 (-1))) 3) 4))]) (C 12 (S (R [m 13 0,m 4 13]) N) K)) (S (S (R [m 14 5,w 15 .add 3 14 1 3 3,m 6 15]) (B 0 (L (S (S (R [m 16 6,m 17 0,k 18 17,v 19 .lss 3 16 18 3 4]) (C 19 K (X 0))) (S (B 1 (S (R [m 22 0,m 23 6,i 24 2 22 23,l 25 2 24,o 7 (.alloc 99 Z4),s 2 7 25]) (S (R [m 26 1,l 27 2 7,o 28 (.call (t 26) [(t 27)]),j 29 4 28 4]) (C 29 (S (R [m 30 0,m 31 5,l 32 2 7,i 33 2 30 31,s 2 33 32]) (R [m 34 5,w 35 .add 3 34 1 3 3,m 5 35])) K)))) (R [m 20 6,w 21 .add 3 20 1 3 3,m 6 21])))))) (S (R [m 36 0,m 37 5,o 38 (.slc 2 (t 36) (some (t 37)) none none),O (.clr 2 Z4 (t 38))]) (S (R [m 39 0,m 40 5,o 41 (.slc 2 (t 39) none (some (t 40)) none),m 4 41]) N))))))).c
def a172:AFunc:=⟨42,c172,[.tmp 4],0⟩
def c173:ACode:=({c:=_}:TbD (S (R [b 1 61 0,n 2 0]) (S (R [l 6 12 1,ca 7 37 6,m 5 7,e 8 5 0,e 9 5 1,m 3 8,m 4 9]) (S (R [m 10 4,m 2 10]) N)))).c
def a173:AFunc:=⟨11,c173,[.tmp 2],1⟩
def c174:ACode:=({c:=_}:TbD (S (.region [m 2 0,m 3 0,m 4 0,o 5 (.nilck (t 2)),d 6 0 5,d 7 10 6,O (.store 1 (t 7) (.const (.int .u8 0))),o 8 (.nilck (t 3)),d 9 0 8,d 10 17 9,O (.store 1 (t 10) (.const (.bool false))),o 11 (.nilck (t 4)),d 12 0 11,d 13 18 12,O (.store 1 (t 13) (.const (.int .u8 0)))] false) (S (R [m 14 0,o 15 (.nilck (t 14)),d 16 0 15,d 17 15 16,f 18 1 17]) (C 18 (S (.region [m 19 0,o 20 (.nilck (t 19)),d 21 0 20,d 22 15 21,O (.store 1 (t 22) (.const (.bool false)))] false) (R [m 23 0,o 24 (.nilck (t 23)),d 25 0 24,d 26 16 25,f 27 1 26,w 28 .sub 3 27 1 3 3,o 29 (.nilck (t 23)),d 30 0 29,d 31 16 30,s 1 31 28])) K)))).c
def a174:AFunc:=⟨32,c174,[],0⟩
def c175:ACode:=({c:=_}:TbD (S (R [m 5 0,o 6 (.nilck (t 5)),d 7 0 6,d 8 14 7,f 9 1 8,o 10 (.slc 17 (t 9) (some (.const (.int .i64 1))) none none),m 2 10]) (S (R [m 11 0,o 12 (.nilck (t 11)),d 13 0 12,d 14 14 13,O (.store 1 (t 14) (.const (.slice none 0 0)))]) (S (R [m 15 2,k 16 15,n 17 0]) (B 0 (L (S (R [v 18 .lss 3 17 16 3 0]) (S (C 18 K (X 0)) (S (B 1 (S (R [i 19 17 15 17,l 20 17 19,o 4 (.alloc 69 Z13),s 17 4 20]) (S (D [m' 21 0 [5],u 22 (.nilck (t 21)) [5],d' 23 0 22 [5],l' 24 28 23 [5],ca' 25 20 24 [5],l' 26 17 4 [0,1,2,3,4],cb 27 42 25 26,w 28 .eql 30 27 0 30 4]) (C 28 (D [m' 29 0 [1,2,3,4,5,6,7,8],m' 30 0 [0,6,7],u 31 (.nilck (t 30)) [0,6,7],d' 32 0 31 [0,6,7],d' 33 14 32 [0,6,7],f' 34 1 33 [0,6,7],l' 35 17 4 [0,1,2,3,4,5],u 36 (.bsl 69 17 Z13 1 [(0,17,(t 35))]) [0,1,2,3,4,5],u 37 (.app 69 17 112 Z13 (t 34) (t 36)) [0],o 38 (.nilck (t 29)),d 39 0 38,d 40 14 39,s 1 40 37]) K)))) (R [w 41 .add 3 17 1 3 3,m 17 41])))))))))).c
def a175:AFunc:=⟨42,c175,[],0⟩
def c176:ACode:=({c:=_}:TbD (S (R [b 5 24 1,z 8,n 9 0]) (S (S (D [m' 14 0 [2],ca' 15 60 14 [2],l' 16 2 5 [0,1],ca 17 52 16,o 18 (.pur (mkO (.call ⟨.builtin .max,#[(t 15),(t 17)],#[30,30]⟩) 30)),m 10 18]) (B 0 (S (R [m 20 10,w 21 .neq 30 20 0 30 4,m 19 21]) (C 19 (S (R [m 22 10,z 8,m 9 22]) N) (S (R [m 24 3,k 25 24,w 26 .gtr 3 25 3 3 4,m 23 26]) (C 23 (S (R [z 8,n 9 4]) N) (S (R [m 28 2,m 29 0,k 30 29,v 31 .neq 3 28 30 3 4,m 27 31]) (C 27 (S (R [z 8,n 9 6]) N) K)))))))) (S (R [o 32 (.mkfn 219 [] [(t 5)]),m 11 32]) (S (S (R [m 33 0,m 34 3,o 35 (.bsl 31 1 (.slice none 0 0) 2 [(0,1,(t 33)),(1,1,(t 34))]),ca 36 41 35,k 37 36,n 38 0]) (B 1 (L (S (R [v 39 .lss 3 38 37 3 0]) (S (C 39 K (X 1)) (S (B 2 (S (R [i 40 17 36 38,l 41 17 40,o 13 (.alloc 69 Z13),s 17 13 41]) (R [m 42 8,l 43 17 13,ca 44 86 43,o 45 (.bsl 69 17 Z13 1 [(0,17,(t 44))]),o 46 (.app 69 17 112 Z13 (t 42) (t 45)),m 8 46]))) (R [w 47 .add 3 38 1 3 3,m 38 47]))))))) (S (S (R [m 48 3,m 49 11,cb 50 59 48 49,m 51 50,q 52 (m_ 8) 51 [],q 53 (ca_ 60 52) 51 [],q 54 (w_ .neq 30 53 0 30 4) 51 [],y 55 51 54]) (C 55 (S (R [z 8,n 9 8]) N) K)) (S (R [m 56 8,m 8 56,n 9 0]) N))))))).c
def a176:AFunc:=⟨57,c176,[.tmp 8,.tmp 9],1⟩
def c177:ACode:=({c:=_}:TbD (S (R [z 4]) (S (R [m 8 0,m 9 1,cb 10 97 8 9,m 5 10]) (S (S (R [m 11 5,o 12 (.pur (mkO (.binOp .eql 3 (t 11) (.const (.int .i64 (-1))) 3) 4))]) (C 12 (S (R [m 13 0,m 4 13]) N) K)) (S (S (R [m 14 5,w 15 .add 3 14 1 3 3,m 6 15]) (B 0 (L (S (S (R [m 16 6,m 17 0,k 18 17,v 19 .lss 3 16 18 3 4]) (C 19 K (X 0))) (S (B 1 (S (R [m 22 0,m 23 6,i 24 17 22 23,l 25 17 24,o 7 (.alloc 69 Z13),s 17 7 25]) (S (R [m 26 1,l 27 17 7,o 28 (.call (t 26) [(t 27)]),j 29 4 28 4]) (C 29 (S (R [m 30 0,m 31 5,l 32 17 7,i 33 17 30 31,s 17 33 32]) (R [m 34 5,w 35 .add 3 34 1 3 3,m 5 35])) K)))) (R [m 20 6,w 21 .add 3 20 1 3 3,m 6 21])))))) (S (R [m 36 0,m 37 5,o 38 (.slc 17 (t 36) (some (t 37)) none none),O (.clr 17 Z13 (t 38))]) (S (R [m 39 0,m 40 5,o 41 (.slc 17 (t 39) none (some (t 40)) none),m 4 41]) N))))))).c
def a177:AFunc:=⟨42,c177,[.tmp 4],0⟩
def c178:ACode:=({c:=_}:TbD (S (R [b 3 69 1,bf 4]) (S (R [m 5 0,o 6 (.nilck (t 5)),d 7 0 6,d 8 12 7,f 9 1 8,o 10 (.mkfn 220 [] [(t 3)]),cb 11 59 9 10,m 4 11]) N))).c
def a178:AFunc:=⟨12,c178,[.tmp 4],0⟩
def c179:ACode:=({c:=_}:TbD (S (R [z 2]) (S (S (R [m 3 0,o 4 (.eqnil false 1 (t 3) (mkO (.binOp .eql 27 (t 3) (.const (.slice none 0 0)) 27) 4))]) (C 4 (S (R [z 2]) N) K)) (S (R [o 5 (.bsl 99 2 Z4 0 []),m 6 0,o 7 (.app 99 2 32 Z4 (t 5) (t 6)),m 2 7]) N)))).c
def a179:AFunc:=⟨8,c179,[.tmp 2],0⟩
def c180:ACode:=({c:=_}:TbD (S (R [bf 2]) (S (R [m 3 0,o 4 (.pur (mkO (.binOp .neq 21 (t 3) (.const (.int .i32 (-1))) 21) 4)),m 5 4,p 6 (m_ 0) 5 [],p 7 (ca_ 181 6) 5 [],p 8 (j_ 4 7 4) 5 [],x 9 5 8,m 2 9]) N))).c
def a180:AFunc:=⟨10,c180,[.tmp 2],1⟩
def c181:ACode:=({c:=_}:TbD (S (R [bf 2]) (S (B 0 (S (R [m 4 0,o 5 (.pur (mkO (.binOp .leq 21 (.const (.int .i32 0)) (t 4) 21) 4)),m 6 5,p 7 (m_ 0) 6 [],p 8 (.pur (mkO (.binOp .lss 21 (t 7) (.const (.int .i32 55296)) 21) 4)) 6 [],x 9 6 8,m 3 9]) (C 3 (S (R [bt 2]) N) (S (R [m 11 0,o 12 (.pur (mkO (.binOp .lss 21 (.const (.int .i32 57343)) (t 11) 21) 4)),m 13 12,p 14 (m_ 0) 13 [],p 15 (.pur (mkO (.binOp .leq 21 (t 14) (.const (.int .i32 1114111)) 21) 4)) 13 [],x 16 13 15,m 10 16]) (C 10 (S (R [bt 2]) N) K))))) (S (R [bf 2]) N)))).c
def a181:AFunc:=⟨17,c181,[.tmp 2],1⟩
def c182:ACode:=({c:=_}:TbD (S (R [bf 4]) (S (R [m 5 0,m 6 1,cb 7 221 5 6,w 8 .geq 3 7 0 3 4,m 4 8]) N))).c
def a182:AFunc:=⟨9,c182,[.tmp 4],1⟩
def c183:ACode:=({c:=_}:TbD (S (R [m 2 0,o 3 (.nilck (t 2)),d 4 0 3,f 5 1 4,o 6 (.eqnil false 0 (t 5) (mkO (.binOp .eql 209 (t 5) (.const (.pointer none)) 209) 4))]) (C 6 (R [m 7 0,m 8 0,o 9 (.pur (mkO (.convert 209 299 (t 8)) 299)),o 10 (.bad "op"),o 11 (.pur (mkO (.convert 299 209 (t 10)) 209)),o 12 (.nilck (t 7)),d 13 0 12,s 1 13 11]) (S (R [m 14 0,o 15 (.nilck (t 14)),d 16 0 15,f 17 1 16,m 18 0,v 19 .neq 209 17 18 209 4]) (C 19 (.bad "(*strings.Builder).copyCheck builder.go:41: unsupported: a written strings.Builder's value in another place: whether the library's copy check passes hangs on where the compiler lays the two") K))))).c
def a183:AFunc:=⟨20,c183,[],1⟩
def c184:ACode:=({c:=_}:TbD (S (R [z 4]) (S (S (R [m 5 1,o 6 (.pur (mkO (.convert 21 22 (t 5)) 22)),o 7 (.pur (mkO (.binOp .leq 22 (t 6) (.const (.int .u32 127)) 22) 4))]) (C 7 (S (R [m 8 0,m 9 1,o 10 (.pur (mkO (.convert 21 5 (t 9)) 5)),o 11 (.bsl 5 1 (.int .u8 0) 1 [(0,1,(t 10))]),o 12 (.app 5 1 1 (.int .u8 0) (t 8) (t 11)),m 4 12]) N) K)) (S (R [m 13 0,m 14 1,cb 15 223 13 14,m 4 15]) N)))).c
def a184:AFunc:=⟨16,c184,[.tmp 4],1⟩
def c185:ACode:=({c:=_}:TbD (S (R [b 1 69 0,z 2,n 3 0]) (S (S (R [l 15 17 1,ca 16 84 15,m 4 16]) (S (R [m 17 4,w 18 .neq 30 17 0 30 4]) (C 18 (S (R [m 19 4,z 2,m 3 19]) N) K))) (S (R [d 21 1 1,l 22 3 21,ca 23 224 22,m 20 23,e 24 20 0,e 25 20 1,m 5 24,m 6 25]) (S (R [d 27 5 1,d 28 0 27,l 29 4 28,ca 30 225 29,m 26 30,e 31 26 0,e 32 26 1,m 7 31,m 8 32]) (S (R [d 33 0 1,f 34 1 33,o 35 (.bsl 5 1 (.int .u8 0) 1 [(0,1,(t 34))]),m 36 5,d 37 4 1,f 38 1 37,o 39 (.pur (mkO (.binOp .shr 3 (t 38) (.const (.int .u64 16)) 260) 3)),o 40 (.pur (mkO (.convert 3 5 (t 39)) 5)),d 41 4 1,f 42 1 41,o 43 (.pur (mkO (.binOp .shr 3 (t 42) (.const (.int .u64 8)) 260) 3)),o 44 (.pur (mkO (.convert 3 5 (t 43)) 5)),d 45 4 1,f 46 1 45,o 47 (.pur (mkO (.convert 3 5 (t 46)) 5)),o 48 (.bsl 5 1 (.int .u8 0) 3 [(0,1,(t 40)),(1,1,(t 44)),(2,1,(t 47))]),m 49 7,d 50 5 1,d 51 4 50,f 52 1 51,o 53 (.pur (mkO (.convert 3 5 (t 52)) 5)),o 54 (.bsl 5 1 (.int .u8 0) 1 [(0,1,(t 53))]),o 55 (.bsl 86 1 (.slice none 0 0) 5 [(0,1,(t 35)),(1,1,(t 36)),(2,1,(t 48)),(3,1,(t 49)),(4,1,(t 54))]),ca 56 226 55,m 9 56]) (S (S (R [d 57 0 1,f 58 1 57]) (B 0 (S (R [o 60 (.pur (mkO (.binOp .eql 5 (t 58) (.const (.int .u8 1)) 5) 4)),m 59 60]) (C 59 (S (R [o 61 (.mksl 5 1 1 (.int .u8 0) (.const (.int .i64 13)) (.const (.int .i64 13))),m 10 61]) (S (S (R [d 62 10 1,l 63 4 62,o 64 (.build Z10 []),v 65 .neq 48 63 64 48 4]) (C 65 (R [d 67 10 1,l 68 4 67,ca 69 225 68,m 66 69,e 70 66 0,e 71 66 1,m 10 70]) K)) (S (R [d 73 16 1,f 74 1 73,ca 75 227 74,m 72 75,e 76 72 0,e 77 72 1,m 11 76,m 12 77]) (R [m 78 9,m 79 10,m 80 11,o 81 (.bsl 86 1 (.slice none 0 0) 3 [(0,1,(t 78)),(1,1,(t 79)),(2,1,(t 80))]),ca 82 226 81,m 9 82])))) (S (R [o 84 (.pur (mkO (.binOp .eql 5 (t 58) (.const (.int .u8 3)) 5) 4)),m 83 84]) (C 83 (S (R [d 86 14 1,l 87 2 86,o 88 (.build Z11 [(0,2,(t 87))]),ca 89 224 88,m 85 89,e 90 85 0,e 91 85 1,m 13 90,m 14 91]) (R [m 92 9,m 93 13,o 94 (.slc 1 (t 93) none (some (.const (.int .i64 5))) none),o 95 (.app 5 1 1 (.int .u8 0) (t 92) (t 94)),m 9 95])) K)))))) (S (R [m 96 9,m 2 96,n 3 0]) N)))))))).c
def a185:AFunc:=⟨97,c185,[.tmp 2,.tmp 3],0⟩
def c186:ACode:=({c:=_}:TbD (S (R [o 2 (.alloc 69 Z13),n 3 0,n 4 0]) (S (.region [m 15 0,o 16 (.build (.agg #[(.slice none 0 0),(.int .i64 0),(.bool false)]) [(0,1,(t 15))]),b 17 306 16,m 5 17] false) (S (R [m 18 5,o 19 (.mkfn 228 [(t 18)] []),m 20 5,o 21 (.mkfn 229 [(t 20)] []),m 6 19,m 7 21]) (S (R [m 22 6,o 23 (.call (t 22) [(.const (.int .i64 1))]),o 24 (.iad 1 (t 23) (.const (.int .i64 0))),f 25 1 24,d 26 0 2,s 1 26 25]) (S (R [m 28 6,o 29 (.call (t 28) [(.const (.int .i64 6))]),ca 30 230 29,m 27 30,e 31 27 0,e 32 27 1,o 8 (.alloc 26 Z11),s 3 8 31,m 9 32]) (S (R [m 33 6,o 34 (.call (t 33) [(.const (.int .i64 3))]),m 10 34]) (S (D [l' 35 3 8 [1,2,3,4,5,6,7,8,9,10,11,12,13,14,15,16],m' 36 10 [0,6,7,8,9,10,12,13,14,15,17,18],u 37 (.iad 1 (t 36) (.const (.int .i64 0))) [0,6,7,8,9,10,12,13,14,15,17,18],f' 38 1 37 [0,6,7,8,9,10,12,13,14,15,17,18],u 39 (.pur (mkO (.convert 5 3 (t 38)) 3)) [0,6,7,8,9,10,12,13,14,15,17,18],u 40 (.pur (mkO (.binOp .shl 3 (t 39) (.const (.int .u64 16)) 260) 3)) [0,6,7,8,9,10,12,13,14,15,17,18],m' 41 10 [0,1,2,3,4,5,12,13,14,15,17,18],u 42 (.iad 1 (t 41) (.const (.int .i64 1))) [0,1,2,3,4,5,12,13,14,15,17,18],f' 43 1 42 [0,1,2,3,4,5,12,13,14,15,17,18],u 44 (.pur (mkO (.convert 5 3 (t 43)) 3)) [0,1,2,3,4,5,12,13,14,15,17,18],u 45 (.pur (mkO (.binOp .shl 3 (t 44) (.const (.int .u64 8)) 260) 3)) [0,1,2,3,4,5,12,13,14,15,17,18],v' 46 .or 3 40 45 3 3 [0,12,13,14,15,17,18],m' 47 10 [0,1,2,3,4,5,6,7,8,9,10,11,17,18],u 48 (.iad 1 (t 47) (.const (.int .i64 2))) [0,1,2,3,4,5,6,7,8,9,10,11,17,18],f' 49 1 48 [0,1,2,3,4,5,6,7,8,9,10,11,17,18],u 50 (.pur (mkO (.convert 5 3 (t 49)) 3)) [0,1,2,3,4,5,6,7,8,9,10,11,17,18],v' 51 .or 3 46 50 3 3 [0,17,18],d' 52 1 2 [1,2,3,4,5,6,7,8,9,10,11,12,13,14,15,16],s' 3 52 35 [1,2,3,4,5,6,7,8,9,10,11,12,13,14,15,16],d 53 4 2,s 1 53 51]) (S (.region [m 54 7,o 55 (.call (t 54) [(.const (.bool false))]),d 56 5 2,d 57 0 56,s 4 57 55] false) (S (R [m 58 6,o 59 (.call (t 58) [(.const (.int .i64 1))]),o 60 (.iad 1 (t 59) (.const (.int .i64 0))),f 61 1 60,o 62 (.pur (mkO (.convert 5 3 (t 61)) 3)),d 63 5 2,d 64 4 63,s 1 64 62]) (S (S (R [m 65 5,o 66 (.nilck (t 65)),d 67 2 66,f 68 1 67,m 69 68,q 70 (m_ 9) 69 [],q 71 (w_ .neq 30 70 0 30 4) 69 [],y 72 69 71,m 73 72,q 74 (d_ 5 2) 73 [],q 75 (d_ 4 74) 73 [],q 76 (f_ 1 75) 73 [],q 77 (w_ .gtr 3 76 64 3 4) 73 [],y 78 73 77]) (C 78 (S (R [o 79 (.build Z13 []),s 17 2 79,n 3 0,n 4 8]) N) K)) (S (S (R [d 80 0 2,f 81 1 80]) (B 0 (S (R [o 83 (.pur (mkO (.binOp .eql 5 (t 81) (.const (.int .u8 1)) 5) 4)),m 82 83]) (C 82 (S (.region [m 84 7,o 85 (.call (t 84) [(.const (.bool true))]),d 86 10 2,s 4 86 85] false) (S (R [m 88 6,d 89 5 2,d 90 4 89,f 91 1 90,o 92 (.pur (mkO (.binOp .mul 3 (.const (.int .i64 4)) (t 91) 3) 3)),o 93 (.call (t 88) [(t 92)]),ca 94 231 93,m 87 94,e 95 87 0,e 96 87 1,m 11 95,m 12 96]) (R [m 97 5,m 98 11,m 99 5,o 100 (.nilck (t 99)),d 101 2 100,f 102 1 101,m 103 102,q 104 (m_ 12) 103 [],q 105 (w_ .neq 30 104 0 30 4) 103 [],y 106 103 105,d 107 16 2,s 1 107 98,o 108 (.nilck (t 97)),d 109 2 108,s 1 109 106]))) (S (R [o 111 (.pur (mkO (.binOp .eql 5 (t 81) (.const (.int .u8 3)) 5) 4)),m 110 111]) (C 110 (S (R [m 113 6,o 114 (.call (t 113) [(.const (.int .i64 5))]),ca 115 106 114,o 116 (.bsl 5 1 (.int .u8 0) 1 [(0,1,(.const (.int .u8 0)))]),o 117 (.app 5 1 1 (.int .u8 0) (t 115) (t 116)),ca 118 230 117,m 112 118,e 119 112 0,e 120 112 1,o 13 (.alloc 26 Z11),s 3 13 119,m 14 120]) (D [m' 121 5 [1,2,3,4,5,6,7,8,9,10,11,12],d' 122 0 13 [0,3,4,5,6,7,8,9,10],l' 123 2 122 [0,3,4,5,6,7,8,9,10],m' 124 5 [0,1,2,11],u 125 (.nilck (t 124)) [0,1,2,11],d' 126 2 125 [0,1,2,11],f' 127 1 126 [0,1,2,11],m' 128 127 [0,1,2,11],q 129 (m_ 14) 128 [0,1,2,11,12],q 130 (w_ .neq 30 129 0 30 4) 128 [0,1,2,11,12],y' 131 128 130 [0,1,2,11,12],d' 132 14 2 [0,3,4,5,6,7,8,9,10],s' 2 132 123 [0,8,9,10],o 133 (.nilck (t 121)),d 134 2 133,s 1 134 131])) K)))))) (S (S (R [m 135 5,o 136 (.nilck (t 135)),d 137 2 136,f 138 1 137,m 139 138,q 140 (l_ 17 2) 139 [],q 141 (ca_ 84 140) 139 [],q 142 (w_ .neq 30 141 0 30 4) 139 [],y 143 139 142]) (C 143 (S (R [o 144 (.build Z13 []),s 17 2 144,n 3 0,n 4 8]) N) K)) (S (D [l' 145 17 2 [1,2,3,4],m' 146 5 [0,5],u 147 (.nilck (t 146)) [0,5],d' 148 1 147 [0,5],f' 149 1 148 [0,5],s' 17 2 145 [1,2,3,4],m 3 149,n 4 0]) N)))))))))))))).c
def a186:AFunc:=⟨150,c186,[.cell 2 17 true,.tmp 3,.tmp 4],1⟩
def c187:ACode:=({c:=_}:TbD (S (R [bf 4]) (S (S (R [m 6 0,k 7 6,m 8 1,k 9 8,v 10 .neq 3 7 9 3 4]) (C 10 (S (R [bf 4]) N) K)) (S (S (R [m 11 0,k 12 11,n 13 0]) (B 0 (L (S (R [v 14 .lss 3 13 12 3 0]) (S (C 14 K (X 0)) (S (B 1 (S (R [m 15 13,m 5 15]) (S (D [m' 16 0 [1,4,5,6,7],m' 17 5 [0,4,5,6,7],i' 18 1 16 17 [4,5,6,7],f' 19 1 18 [4,5,6,7],m' 20 1 [0,1,2,3,5],m' 21 5 [0,1,2,3,4],i' 22 1 20 21 [0,1,2,3],f' 23 1 22 [0,1,2,3],v 24 .neq 21 19 23 21 4]) (C 24 (S (R [bf 4]) N) K)))) (R [w 25 .add 3 13 1 3 3,m 13 25]))))))) (S (R [bt 4]) N))))).c
def a187:AFunc:=⟨26,c187,[.tmp 4],1⟩
def c188:ACode:=({c:=_}:TbD (S (R [b 1 69 0,bf 2]) (S (R [d 3 10 1,l 4 4 3,o 5 (.build Z10 []),v 6 .eql 48 4 5 48 4,m 7 6,p 8 (d_ 16 1) 7 [],p 9 (f_ 1 8) 7 [],p 10 (k_ 9) 7 [],p 11 (w_ .eql 3 10 0 3 4) 7 [],x 12 7 11,m 2 12]) N))).c
def a188:AFunc:=⟨13,c188,[.tmp 2],0⟩
def c189:ACode:=({c:=_}:TbD (S (R [b 1 69 0,bf 2]) (S (D [d' 3 14 1 [2],l' 4 2 3 [2],u 5 (.call (.func 190) []) [0,1],v 6 .eql 24 4 5 24 4,m 2 6]) N))).c
def a189:AFunc:=⟨7,c189,[.tmp 2],0⟩
def c190:ACode:=({c:=_}:TbD (S (R [o 0 (.alloc 24 Z12)]) (S (R [o 1 (.build Z12 []),s 2 0 1]) N))).c
def a190:AFunc:=⟨2,c190,[.cell 0 2 true],1⟩
def c191:ACode:=({c:=_}:TbD (S (R [b 2 69 0,bf 3]) (S (R [d 5 10 2,l 6 4 5,o 7 (.build Z10 []),v 8 .eql 48 6 7 48 4,m 9 8,q 10 (d_ 10 2) 9 [],q 11 (l_ 4 10) 9 [],q 12 (ca_ 158 11) 9 [],q 13 (w_ .eql 30 12 0 30 4) 9 [],y 14 9 13,m 4 14]) (S (R [f 15 1 1,l 16 17 2,o 17 (.call (t 15) [(t 16)]),m 18 17,p 19 (m_ 4) 18 [],x 20 18 19,m 21 20,p 22 (d_ 5 2) 21 [],p 23 (d_ 0 22) 21 [],p 24 (d_ 0 23) 21 [],p 25 (l_ 3 24) 21 [],p 26 (d_ 1 2) 21 [],p 27 (l_ 3 26) 21 [],p 28 (v_ .eql 26 25 27 26 4) 21 [],x 29 21 28,m 30 29,p 31 (d_ 16 2) 30 [],p 32 (f_ 1 31) 30 [],p 33 (k_ 32) 30 [],p 34 (d_ 5 2) 30 [],p 35 (d_ 4 34) 30 [],p 36 (f_ 1 35) 30 [],p 37 (v_ .eql 3 33 36 3 4) 30 [],x 38 30 37,m 39 38,p 40 (d_ 16 2) 39 [],p 41 (f_ 1 40) 39 [],p 42 (ca_ 118 41) 39 [],p 43 (w_ .eql 30 42 0 30 4) 39 [],x 44 39 43,m 3 44]) N)))).c
def a191:AFunc:=⟨45,c191,[.tmp 3],0⟩
def c192:ACode:=({c:=_}:TbD (S (R [n 2 0]) (S (R [m 3 0,o 4 (.pur (mkO (.binOp .mul 3 (.const (.int .i64 4)) (t 3) 3) 3)),o 5 (.pur (mkO (.binOp .add 3 (.const (.int .i64 13)) (t 4) 3) 3)),m 2 5]) N))).c
def a192:AFunc:=⟨6,c192,[.tmp 2],0⟩
def c193:ACode:=({c:=_}:TbD (S (R [b 3 69 0,bf 4]) (S (R [f 5 1 1,l 6 17 3,o 7 (.call (t 5) [(t 6)]),m 8 7,p 9 (f_ 1 2) 8 [],p 10 (l_ 17 3) 8 [],p 11 (.call (t 9) [(t 10)]) 8 [],x 12 8 11,m 4 12]) N))).c
def a193:AFunc:=⟨13,c193,[.tmp 4],0⟩
def c194:ACode:=({c:=_}:TbD (S (R [n 2 0]) (S (R [n 2 0]) N))).c
def a194:AFunc:=⟨3,c194,[.tmp 2],0⟩
def c195:ACode:=({c:=_}:TbD (S (R [b 2 69 0,bf 3]) (S (R [f 4 1 1,l 5 17 2,o 6 (.call (t 4) [(t 5)]),m 7 6,p 8 (d_ 14 2) 7 [],p 9 (l_ 2 8) 7 [],p 10 (ca_ 52 9) 7 [],p 11 (w_ .eql 30 10 0 30 4) 7 [],x 12 7 11,m 3 12]) N))).c
def a195:AFunc:=⟨13,c195,[.tmp 3],0⟩
def c196:ACode:=({c:=_}:TbD (S (R [n 2 0]) (S (R [n 2 5]) N))).c
def a196:AFunc:=⟨3,c196,[.tmp 2],0⟩
def c197:ACode:=({c:=_}:TbD (S (R [b 4 69 1,b 5 48 2,bf 6]) (S (.region [m' 7 0 [4],u 8 (.nilck (t 7)) [4],d' 9 1 8 [4],f' 10 1 9 [4],l' 11 4 5 [0,1,2,3],o 12 (.lookup 48 (.bool false) (t 10) (t 11) false),m 13 12,p 14 (d_ 0 5) 13 [10,11,12],p 15 (d_ 0 14) 13 [10,11,12],p 16 (l_ 2 15) 13 [10,11,12],p 17 (d_ 1 4) 13 [7,8,9],p 18 (d_ 0 17) 13 [7,8,9],p 19 (l_ 2 18) 13 [7,8,9],p 20 (cb_ 55 16 19) 13 [],x 21 13 20,m 6 21] true) N))).c
def a197:AFunc:=⟨22,c197,[.tmp 6],0⟩
def c198:ACode:=({c:=_}:TbD (S (R [bf 4]) (S (R [m 5 0,m 6 1,cb 7 232 5 6,w 8 .geq 3 7 0 3 4,m 4 8]) N))).c
def a198:AFunc:=⟨9,c198,[.tmp 4],0⟩
def c199:ACode:=({c:=_}:TbD (S (R [b 2 48 0,bf 3]) (S (.region [f' 4 1 1 [4],u 5 (.nilck (t 4)) [4],d' 6 1 5 [4],f' 7 1 6 [4],l' 8 4 2 [0,1,2,3],o 9 (.lookup 48 (.bool false) (t 7) (t 8) false),m 3 9] true) N))).c
def a199:AFunc:=⟨10,c199,[.tmp 3],0⟩
def c200:ACode:=({c:=_}:TbD (S (R [b 2 166 0,b 3 69 1,bf 4]) (S (R [d 5 5 3,l 6 5 5,ca 7 139 6,o 8 (.mkfn 233 [] [(t 2),(t 3)]),cb 9 198 7 8,j 10 4 9 4,m 4 10]) N))).c
def a200:AFunc:=⟨11,c200,[.tmp 4],0⟩
def c201:ACode:=({c:=_}:TbD (S (R [b 3 69 1,bf 4,n 5 0]) (S (S (R [m 8 0,ca 9 157 8,m 6 9]) (S (R [m 10 6,w 11 .neq 30 10 0 30 4]) (C 11 (S (R [m 12 6,bf 4,m 5 12]) N) K))) (S (S (R [l 13 17 3,ca 14 84 13,m 7 14]) (S (R [m 15 7,w 16 .neq 30 15 0 30 4]) (C 16 (S (R [m 17 7,bf 4,m 5 17]) N) K))) (S (R [m 18 0,l 19 17 3,cb 20 214 18 19,m 4 20,n 5 0]) N))))).c
def a201:AFunc:=⟨21,c201,[.tmp 4,.tmp 5],0⟩
def c202:ACode:=({c:=_}:TbD (S (R [bf 4]) (S (R [m 5 0,m 6 1,cb 7 234 5 6,w 8 .geq 3 7 0 3 4,m 4 8]) N))).c
def a202:AFunc:=⟨9,c202,[.tmp 4],1⟩
def c203:ACode:=({c:=_}:TbD (S (R [b 1 172 0,bf 2]) (S (R [l 3 10 1,ca 4 146 3,w 5 .neq 30 4 0 30 4,m 2 5]) N))).c
def a203:AFunc:=⟨6,c203,[.tmp 2],1⟩
def c204:ACode:=({c:=_}:TbD (S (.region [o 2 (.alloc 4 (.bool false))] false) (S (R [o 3 (.alloc 227 (.slice none 0 0))]) (S (R [o 9 (.mkmap),o 4 (.alloc 314 (.map none)),s 1 4 9]) (S (S (R [m 10 0,ca 11 235 10]) (B 0 (.rangeFunc (.tmp 11) [12,13] (S (R [o 5 (.alloc 48 Z10),s 4 5 12]) (R [o 6 (.alloc 48 Z10),s 4 6 13])) (B 1 (.scope (S (R [o 7 (.alloc 48 Z10)]) (S .label (S (B 2 (L (S (S (R [f 14 1 3,k 15 14,w 16 .gtr 3 15 0 3 4]) (C 16 K (X 2))) (B 3 (S (R [f 17 1 3,f 18 1 3,k 19 18,w 20 .sub 3 19 1 3 3,i 21 4 17 20,l 22 4 21,o 8 (.alloc 48 Z10),s 4 8 22]) (S (S (R [l 23 4 8,l 24 4 6,v 25 .eql 48 23 24 48 4]) (C 25 (X 2) K)) (D [l' 26 4 8 [1,2,3,4,5],f' 27 1 3 [0,2,3,4,6],f' 28 1 3 [0,1,6],k' 29 28 [0,1,6],w' 30 .sub 3 29 1 3 3 [0,1,6],u 31 (.slc 4 (t 27) none (some (t 30)) none) [0,6],s' 4 7 26 [1,2,3,4,5],s 1 3 31]))))))) (S (S (.region [f 32 1 3,k 33 32,w 34 .eql 3 33 0 3 4,m 35 34,p 36 (l_ 4 6) 35 [],p 37 (.build Z10 []) 35 [],p 38 (v_ .neq 48 36 37 48 4) 35 [],x 39 35 38,m 40 39,q 41 (l_ 4 7) 40 [],q 42 (.build Z10 []) 40 [],q 43 (v_ .neq 48 41 42 48 4) 40 [],q 44 (m_ 43) 40 [],p 45 (l_ 4 5) 44 [],p 46 (l_ 4 7) 44 [],p 47 (cb_ 152 45 46) 44 [],p 48 (j_ 4 47 4) 44 [],q 49 (x_ 44 48) 40 [],y 50 40 49,m 51 50,q 52 (f_ 1 4) 51 [],q 53 (l_ 4 5) 51 [],q 54 (.lookup 48 (.int .i64 0) (t 52) (t 53) false) 51 [],q 55 (w_ .gtr 3 54 0 3 4) 51 [],y 56 51 55] false) (C 56 (S (.region [O (.store 1 (t 2) (.const (.bool false)))] false) N) K)) (S (R [f 57 1 4,l 58 4 5,O (.mupd 48 (t 57) (t 58) (.const (.int .i64 1)))]) (R [f 59 1 3,l 60 4 5,o 61 (.bsl 48 4 Z10 1 [(0,4,(t 60))]),o 62 (.app 48 4 24 Z10 (t 59) (t 61)),s 1 3 62]))))))))))) (S (.region [O (.store 1 (t 2) (.const (.bool true)))] false) N)))))).c
def a204:AFunc:=⟨63,c204,[.cell 2 1 false],1⟩
def c205:ACode:=({c:=_}:TbD (S (R [bf 4]) (S (R [m 5 0,m 6 1,o 7 (.call (.func 236) [(t 5),(t 6),(.func 237)]),m 4 7]) N))).c
def a205:AFunc:=⟨8,c205,[.tmp 4],1⟩
def c206:ACode:=({c:=_}:TbD (S (R [b 2 172 0,o 4 (.alloc 172 Z8),o 5 (.alloc 172 Z8),n 6 0]) (S (S (R [l 11 10 2,ca 12 146 11,m 7 12]) (S (R [m 13 7,w 14 .neq 30 13 0 30 4]) (C 14 (S (D [l' 15 10 4 [1,2],l' 16 10 5 [0,2,3],m' 17 7 [0,1,3,4],s' 10 4 15 [1,2],s' 10 5 16 [2],m 6 17]) N) K))) (S (R [d 19 0 2,l 20 5 19,m 21 1,cb 22 238 20 21,m 18 22,e 23 18 0,e 24 18 1,e 25 18 2,o 8 (.alloc 67 Z9),o 9 (.alloc 67 Z9),s 5 8 23,s 5 9 24,m 6 25]) (S (S (R [m 26 6,w 27 .neq 30 26 0 30 4]) (C 27 (S (D [l' 28 10 4 [1,2],l' 29 10 5 [0,2,3],m' 30 6 [0,1,3,4],s' 10 4 28 [1,2],s' 10 5 29 [2],m 6 30]) N) K)) (S (R [l 32 5 8,m 33 1,w 34 .sub 3 33 1 3 3,cb 35 149 32 34,m 31 35,e 36 31 0,e 37 31 1,o 10 (.alloc 48 Z10),s 4 10 36,m 6 37]) (S (D [l' 38 5 8 [1,2,3,4,5,6,9,10,11,12,13,14,15,17],d' 39 5 2 [0,3,4,5,6,9,10,11,12,13,14,15,17],l' 40 4 39 [0,3,4,5,6,9,10,11,12,13,14,15,17],d' 41 9 2 [0,1,2,5,9,10,11,12,13,14,15,17],f' 42 1 41 [0,1,2,5,9,10,11,12,13,14,15,17],m' 43 1 [0,1,2,3,4,9,10,11,12,13,14,15,17],u 44 (.slc 1 (t 42) none (some (t 43)) none) [0,1,2,9,10,11,12,13,14,15,17],u 45 (.build Z8 [(0,5,(t 38)),(5,4,(t 40)),(9,1,(t 44))]) [9,10,11,12,13,14,15,17],ca' 46 239 45 [9,10,11,12,13,14,15,17],l' 47 5 9 [0,1,2,3,4,5,6,7,8,10,11,12,13,14,17],l' 48 4 10 [0,1,2,3,4,5,6,7,8,9,11,12,13,14,17],d' 49 9 2 [0,1,2,3,4,5,6,7,8,9,10,13,17],f' 50 1 49 [0,1,2,3,4,5,6,7,8,9,10,13,17],m' 51 1 [0,1,2,3,4,5,6,7,8,9,10,11,12,17],u 52 (.slc 1 (t 50) (some (t 51)) none none) [0,1,2,3,4,5,6,7,8,9,10,17],u 53 (.build Z8 [(0,5,(t 47)),(5,4,(t 48)),(9,1,(t 52))]) [0,1,2,3,4,5,6,7,8,17],ca' 54 239 53 [17],m' 55 6 [0,1,2,3,4,5,6,7,8,9,10,11,12,13,14,15,16,18,19],s' 10 4 46 [17],s' 10 5 54 [17],m 6 55]) N))))))).c
def a206:AFunc:=⟨56,c206,[.cell 4 10 true,.cell 5 10 true,.tmp 6],1⟩
def c207:ACode:=({c:=_}:TbD (S (R [z 2]) (S (R [n 3 0]) (S (S (R [m 9 0,k 10 9,n 11 0]) (B 0 (L (S (R [v 12 .lss 3 11 10 3 0]) (S (C 12 K (X 0)) (S (B 1 (S (R [i 13 1 9 11,f 14 1 13,m 5 14]) (S (R [m 15 3,m 16 5,k 17 16,v 18 .add 3 15 17 3 3,m 3 18]) (S (R [m 19 3,w 20 .lss 3 19 0 3 4]) (C 20 (R [o 21 (.bad "op"),O (.bad "op")]) K))))) (R [w 22 .add 3 11 1 3 3,m 11 22]))))))) (S (R [m 23 3,o 24 (.call (.func 240) [(.const (.slice none 0 0)),(t 23)]),m 6 24]) (S (S (R [m 25 0,k 26 25,n 27 0]) (B 2 (L (S (R [v 28 .lss 3 27 26 3 0]) (S (C 28 K (X 2)) (S (B 3 (S (R [i 29 1 25 27,f 30 1 29,m 8 30]) (R [m 31 6,m 32 8,o 33 (.app 172 10 80 Z8 (t 31) (t 32)),m 6 33]))) (R [w 34 .add 3 27 1 3 3,m 27 34]))))))) (S (R [m 35 6,m 2 35]) N))))))).c
def a207:AFunc:=⟨36,c207,[.tmp 2],0⟩
def c208:ACode:=({c:=_}:TbD (S (R [b 2 24 0,b 3 24 1,bf 4]) (S (R [d 6 0 3,f 7 1 6,d 8 1 2,f 9 1 8,o 10 (.build Z12 [(0,1,(t 7)),(1,1,(t 9))]),o 5 (.alloc 24 Z12),s 2 5 10]) (S (R [d 11 0 2,f 12 1 11,d 13 0 3,f 14 1 13,v 15 .lss 5 12 14 5 4,m 16 15,q 17 (l_ 2 2) 16 [],q 18 (l_ 2 5) 16 [],q 19 (v_ .eql 24 17 18 24 4) 16 [],q 20 (m_ 19) 16 [],p 21 (d_ 1 2) 20 [],p 22 (f_ 1 21) 20 [],p 23 (d_ 1 3) 20 [],p 24 (f_ 1 23) 20 [],p 25 (v_ .lss 22 22 24 22 4) 20 [],q 26 (x_ 20 25) 16 [],y 27 16 26,m 4 27]) N)))).c
def a208:AFunc:=⟨28,c208,[.tmp 4],1⟩
def c209:ACode:=({c:=_}:TbD (S (R [b 1 172 0,o 2 (.alloc 48 Z10)]) (S (R [d 6 0 1,l 7 5 6,d 8 0 1,d 9 4 8,f 10 1 9,w 11 .sub 3 10 1 3 3,cb 12 149 7 11,m 5 12,e 13 5 0,e 14 5 1,o 3 (.alloc 48 Z10),s 4 3 13,m 4 14]) (S (R [l 15 4 3,s 4 2 15]) N)))).c
def a209:AFunc:=⟨16,c209,[.cell 2 4 true],1⟩
def c210:ACode:=({c:=_}:TbD (S (R [b 2 172 0,b 3 172 1,o 4 (.alloc 172 Z8),n 5 0]) (S (S (D [l' 11 10 2 [2],ca' 12 146 11 [2],l' 13 10 3 [0,1],ca 14 146 13,o 15 (.pur (mkO (.call ⟨.builtin .max,#[(t 12),(t 14)],#[30,30]⟩) 30)),m 6 15]) (S (R [m 16 6,w 17 .neq 30 16 0 30 4]) (C 17 (S (R [o 18 (.build Z8 []),m 19 6,s 10 4 18,m 5 19]) N) K))) (S (D [d' 20 0 2 [3,4,5,6,7,8,9,11,12,13,14,15,16,18],d' 21 0 20 [3,4,5,6,7,8,9,11,12,13,14,15,16,18],l' 22 4 21 [3,4,5,6,7,8,9,11,12,13,14,15,16,18],d' 23 0 2 [0,1,2,6,7,8,11,12,13,14,15,16,18],d' 24 4 23 [0,1,2,6,7,8,11,12,13,14,15,16,18],f' 25 1 24 [0,1,2,6,7,8,11,12,13,14,15,16,18],d' 26 0 3 [0,1,2,3,4,5,11,12,13,14,15,16,18],d' 27 4 26 [0,1,2,3,4,5,11,12,13,14,15,16,18],f' 28 1 27 [0,1,2,3,4,5,11,12,13,14,15,16,18],v' 29 .add 3 25 28 3 3 [0,1,2,11,12,13,14,15,16,18],u 30 (.build Z9 [(0,4,(t 22)),(4,1,(t 29))]) [11,12,13,14,15,16,18],d' 31 5 2 [0,1,2,3,4,5,6,7,8,9,10,13,14,15,16,18],l' 32 4 31 [0,1,2,3,4,5,6,7,8,9,10,13,14,15,16,18],l' 33 10 2 [0,1,2,3,4,5,6,7,8,9,10,11,12,14,18],l' 34 10 3 [0,1,2,3,4,5,6,7,8,9,10,11,12,13,18],u 35 (.bsl 172 10 Z8 2 [(0,10,(t 33)),(10,10,(t 34))]) [0,1,2,3,4,5,6,7,8,9,10,11,12,18],ca' 36 241 35 [0,1,2,3,4,5,6,7,8,9,10,11,12,18],u 37 (.build Z8 [(0,5,(t 30)),(5,4,(t 32)),(9,1,(t 36))]) [18],u 7 (.alloc 172 Z8) [0,1,2,3,4,5,6,7,8,9,10,11,12,13,14,15,16,17],s 10 7 37]) (S (S (R [l 39 10 7,d 40 0 2,d 41 4 40,f 42 1 41,cb 43 206 39 42,m 38 43,e 44 38 0,e 45 38 1,e 46 38 2,o 8 (.alloc 172 Z8),o 9 (.alloc 172 Z8),s 10 8 44,s 10 9 45,m 10 46]) (S (R [m 47 10,w 48 .neq 30 47 0 30 4,m 49 48,q 50 (l_ 10 8) 49 [],q 51 (l_ 10 2) 49 [],q 52 (cb_ 237 50 51) 49 [],q 53 (j_ 4 52 4) 49 [],y 54 49 53,m 55 54,q 56 (l_ 10 9) 55 [],q 57 (l_ 10 3) 55 [],q 58 (cb_ 237 56 57) 55 [],q 59 (j_ 4 58 4) 55 [],y 60 55 59]) (C 60 (S (R [o 61 (.build Z8 []),s 10 4 61,n 5 2]) N) K))) (S (R [l 62 10 7,s 10 4 62,n 5 0]) N)))))).c
def a210:AFunc:=⟨63,c210,[.cell 4 10 true,.tmp 5],1⟩
def c211:ACode:=({c:=_}:TbD (S (R [b 1 172 0,o 2 (.alloc 172 Z8)]) (S (R [d 3 9 1,f 4 1 3,ca 5 145 4,d 6 9 1,s 1 6 5]) (S (R [l 7 10 1,s 10 2 7]) N)))).c
def a211:AFunc:=⟨8,c211,[.cell 2 10 true],1⟩
def c213:ACode:=({c:=_}:TbD (R [m 4 0,m 5 0,k 6 5,m 7 1,v 8 .sub 3 6 7 3 3,cb 9 242 4 8])).c
def a213:AFunc:=⟨10,c213,[],0⟩
def c214:ACode:=({c:=_}:TbD (S (R [b 3 69 1,bf 4]) (.scope (S (S (R [d 9 0 3,f 10 1 9,o 11 (.pur (mkO (.binOp .neq 5 (t 10) (.const (.int .u8 3)) 5) 4))]) (C 11 (S (R [bt 4]) N) K)) (S (R [d 12 1 3,d 13 0 12,l 14 2 13,d 15 14 3,l 16 2 15,cb 17 55 14 16,m 5 17]) (S .label (S (S (R [d 18 5 3,d 19 4 18,f 20 1 19,n 21 0]) (B 0 (L (S (R [v 22 .lss 3 21 20 3 4]) (S (C 22 K (X 0)) (S (B 1 (S (R [m 23 21,m 6 23]) (S (R [d 25 5 3,l 26 5 25,m 27 6,cb 28 149 26 27,m 24 28,e 29 24 0,e 30 24 1,o 7 (.alloc 48 Z10),s 4 7 29,m 8 30]) (S (D [m 31 5,m 32 31,p 33 (m_ 0) 32 [3,4,5,6,8,9,10],p 34 (l_ 4 7) 32 [2,4,5,6,8,9,10],p 35 (d_ 1 3) 32 [2,3,8,9,10],p 36 (d_ 0 35) 32 [2,3,8,9,10],p 37 (l_ 2 36) 32 [2,3,8,9,10],p 38 (cd_ 95 33 34 37) 32 [8,9,10],p 39 (d_ 1 3) 32 [2,3,4,5,6,7],p 40 (d_ 0 39) 32 [2,3,4,5,6,7],p 41 (l_ 2 40) 32 [2,3,4,5,6,7],p 42 (cb_ 161 38 41) 32 [],x 43 32 42,m 5 43]) (S (R [m 44 5,j 45 4 44 4]) (C 45 (X 0) K)))))) (R [w 46 .add 3 21 1 3 3,m 21 46]))))))) (S (R [m 47 5,m 4 47]) N)))))))).c
def a214:AFunc:=⟨48,c214,[.tmp 4],2⟩
def c215:ACode:=({c:=_}:TbD (S (R [f 9 1 1,k 10 9,n 11 0]) (B 0 (L (S (R [v 12 .lss 3 11 10 3 0]) (S (C 12 K (X 0)) (S (B 1 (S (R [i 13 17 9 11,l 14 17 13,o 6 (.alloc 69 Z13),s 17 6 14]) (S (R [d 16 5 6,l 17 5 16,l 18 4 2,cb 19 91 17 18,m 15 19,e 20 15 0,e 21 15 1,m 7 20,m 8 21]) (S (R [d 22 0 6,f 23 1 22,o 24 (.pur (mkO (.binOp .eql 5 (t 23) (.const (.int .u8 3)) 5) 4)),m 25 24,p 26 (m_ 8) 25 [],x 27 25 26,m 28 27,p 29 (d_ 1 6) 28 [],p 30 (d_ 0 29) 28 [],p 31 (l_ 2 30) 28 [],p 32 (l_ 2 3) 28 [],p 33 (cb_ 55 31 32) 28 [],x 34 28 33,m 35 34,p 36 (m_ 0) 35 [],p 37 (d_ 14 6) 35 [],p 38 (l_ 2 37) 35 [],p 39 (.call (t 36) [(t 38)]) 35 [],p 40 (j_ 4 39 4) 35 [],x 41 35 40]) (C 41 N K))))) (R [w 42 .add 3 11 1 3 3,m 11 42])))))))).c
def a215:AFunc:=⟨43,c215,[],0⟩
def c216:ACode:=({c:=_}:TbD (S (R [b 3 24 1,n 4 0]) (S (S (R [m 6 0,k 7 6,n 8 0]) (B 0 (L (S (R [v 9 .lss 3 8 7 3 0]) (S (C 9 K (X 0)) (S (B 1 (S (R [m 10 8,m 5 10]) (S (D [l' 11 2 3 [1,2,3,4],m' 12 0 [0,2],m' 13 5 [0,1],i' 14 2 12 13 [0],l' 15 2 14 [0],v 16 .eql 24 11 15 24 4]) (C 16 (S (R [m 17 5,m 4 17]) N) K)))) (R [w 18 .add 3 8 1 3 3,m 8 18]))))))) (S (R [n 4 (-1)]) N)))).c
def a216:AFunc:=⟨19,c216,[.tmp 4],1⟩
def c217:ACode:=({c:=_}:TbD (S (R [n 2 0]) (.scope (S .label (S (B 0 (L (B 1 (S (R [m 3 2,w 4 .add 3 3 1 3 3,m 2 4]) (S (R [m 5 0,o 6 (.pur (mkO (.binOp .shr 3 (t 5) (.const (.int .u64 8)) 260) 3)),m 0 6]) (S (R [m 7 0,w 8 .eql 3 7 0 3 4]) (C 8 (X 0) K))))))) (S (R [m 9 2,m 2 9]) N)))))).c
def a217:AFunc:=⟨10,c217,[.tmp 2],1⟩
def c218:ACode:=({c:=_}:TbD (S (R [n 4 0]) (S (S (R [m 6 0,k 7 6,n 8 0]) (B 0 (L (S (R [v 9 .lss 3 8 7 3 0]) (S (C 9 K (X 0)) (S (B 1 (S (R [m 10 8,m 5 10]) (S (R [m 11 1,m 12 0,m 13 5,i 14 2 12 13,l 15 2 14,o 16 (.call (t 11) [(t 15)])]) (C 16 (S (R [m 17 5,m 4 17]) N) K)))) (R [w 18 .add 3 8 1 3 3,m 8 18]))))))) (S (R [n 4 (-1)]) N)))).c
def a218:AFunc:=⟨19,c218,[.tmp 4],0⟩
def c219:ACode:=({c:=_}:TbD (S (R [b 2 69 0,bf 3]) (S (R [d 4 1 2,d 5 0 4,l 6 2 5,l 7 2 1,cb 8 55 6 7,j 9 4 8 4,m 3 9]) N))).c
def a219:AFunc:=⟨10,c219,[.tmp 3],0⟩
def c220:ACode:=({c:=_}:TbD (S (R [b 2 69 0,bf 3]) (S (R [d 4 1 2,l 5 3 4,d 6 1 1,l 7 3 6,v 8 .eql 26 5 7 26 4,m 9 8,p 10 (d_ 4 2) 9 [],p 11 (f_ 1 10) 9 [],p 12 (d_ 4 1) 9 [],p 13 (f_ 1 12) 9 [],p 14 (v_ .eql 3 11 13 3 4) 9 [],x 15 9 14,m 3 15]) N))).c
def a220:AFunc:=⟨16,c220,[.tmp 3],0⟩
def c221:ACode:=({c:=_}:TbD (S (R [n 4 0]) (S (S (R [m 6 0,k 7 6,n 8 0]) (B 0 (L (S (R [v 9 .lss 3 8 7 3 0]) (S (C 9 K (X 0)) (S (B 1 (S (R [m 10 8,m 5 10]) (S (R [m 11 1,m 12 0,m 13 5,i 14 1 12 13,f 15 1 14,o 16 (.call (t 11) [(t 15)])]) (C 16 (S (R [m 17 5,m 4 17]) N) K)))) (R [w 18 .add 3 8 1 3 3,m 8 18]))))))) (S (R [n 4 (-1)]) N)))).c
def a221:AFunc:=⟨19,c221,[.tmp 4],1⟩
def c223:ACode:=({c:=_}:TbD (S (R [z 4]) (S (R [m 6 1,o 7 (.pur (mkO (.convert 21 22 (t 6)) 22)),m 5 7]) (B 0 (S (R [m 12 5,o 13 (.pur (mkO (.binOp .leq 22 (t 12) (.const (.int .u32 2047)) 22) 4)),m 11 13]) (C 11 (S (R [m 14 0,m 15 1,o 16 (.pur (mkO (.binOp .shr 21 (t 15) (.const (.int .u64 6)) 260) 21)),o 17 (.pur (mkO (.convert 21 5 (t 16)) 5)),o 18 (.pur (mkO (.binOp .or 5 (.const (.int .u8 192)) (t 17) 5) 5)),m 19 1,o 20 (.pur (mkO (.convert 21 5 (t 19)) 5)),o 21 (.pur (mkO (.binOp .and 5 (t 20) (.const (.int .u8 63)) 5) 5)),o 22 (.pur (mkO (.binOp .or 5 (.const (.int .u8 128)) (t 21) 5) 5)),o 23 (.bsl 5 1 (.int .u8 0) 2 [(0,1,(t 18)),(1,1,(t 22))]),o 24 (.app 5 1 1 (.int .u8 0) (t 14) (t 23)),m 4 24]) N) (S (S (R [m 26 5,o 27 (.pur (mkO (.binOp .lss 22 (t 26) (.const (.int .u32 55296)) 22) 4)),m 25 27]) (C 25 K (R [m 28 5,o 29 (.pur (mkO (.binOp .lss 22 (.const (.int .u32 57343)) (t 28) 22) 4)),m 30 29,p 31 (m_ 5) 30 [],p 32 (.pur (mkO (.binOp .leq 22 (t 31) (.const (.int .u32 65535)) 22) 4)) 30 [],x 33 30 32,m 25 33]))) (C 25 (S (R [m 34 0,m 35 1,o 36 (.pur (mkO (.binOp .shr 21 (t 35) (.const (.int .u64 12)) 260) 21)),o 37 (.pur (mkO (.convert 21 5 (t 36)) 5)),o 38 (.pur (mkO (.binOp .or 5 (.const (.int .u8 224)) (t 37) 5) 5)),m 39 1,o 40 (.pur (mkO (.binOp .shr 21 (t 39) (.const (.int .u64 6)) 260) 21)),o 41 (.pur (mkO (.convert 21 5 (t 40)) 5)),o 42 (.pur (mkO (.binOp .and 5 (t 41) (.const (.int .u8 63)) 5) 5)),o 43 (.pur (mkO (.binOp .or 5 (.const (.int .u8 128)) (t 42) 5) 5)),m 44 1,o 45 (.pur (mkO (.convert 21 5 (t 44)) 5)),o 46 (.pur (mkO (.binOp .and 5 (t 45) (.const (.int .u8 63)) 5) 5)),o 47 (.pur (mkO (.binOp .or 5 (.const (.int .u8 128)) (t 46) 5) 5)),o 48 (.bsl 5 1 (.int .u8 0) 3 [(0,1,(t 38)),(1,1,(t 43)),(2,1,(t 47))]),o 49 (.app 5 1 1 (.int .u8 0) (t 34) (t 48)),m 4 49]) N) (S (R [m 51 5,o 52 (.pur (mkO (.binOp .gtr 22 (t 51) (.const (.int .u32 65535)) 22) 4)),m 53 52,p 54 (m_ 5) 53 [],p 55 (.pur (mkO (.binOp .leq 22 (t 54) (.const (.int .u32 1114111)) 22) 4)) 53 [],x 56 53 55,m 50 56]) (C 50 (S (R [m 57 0,m 58 1,o 59 (.pur (mkO (.binOp .shr 21 (t 58) (.const (.int .u64 18)) 260) 21)),o 60 (.pur (mkO (.convert 21 5 (t 59)) 5)),o 61 (.pur (mkO (.binOp .or 5 (.const (.int .u8 240)) (t 60) 5) 5)),m 62 1,o 63 (.pur (mkO (.binOp .shr 21 (t 62) (.const (.int .u64 12)) 260) 21)),o 64 (.pur (mkO (.convert 21 5 (t 63)) 5)),o 65 (.pur (mkO (.binOp .and 5 (t 64) (.const (.int .u8 63)) 5) 5)),o 66 (.pur (mkO (.binOp .or 5 (.const (.int .u8 128)) (t 65) 5) 5)),m 67 1,o 68 (.pur (mkO (.binOp .shr 21 (t 67) (.const (.int .u64 6)) 260) 21)),o 69 (.pur (mkO (.convert 21 5 (t 68)) 5)),o 70 (.pur (mkO (.binOp .and 5 (t 69) (.const (.int .u8 63)) 5) 5)),o 71 (.pur (mkO (.binOp .or 5 (.const (.int .u8 128)) (t 70) 5) 5)),m 72 1,o 73 (.pur (mkO (.convert 21 5 (t 72)) 5)),o 74 (.pur (mkO (.binOp .and 5 (t 73) (.const (.int .u8 63)) 5) 5)),o 75 (.pur (mkO (.binOp .or 5 (.const (.int .u8 128)) (t 74) 5) 5)),o 76 (.bsl 5 1 (.int .u8 0) 4 [(0,1,(t 61)),(1,1,(t 66)),(2,1,(t 71)),(3,1,(t 75))]),o 77 (.app 5 1 1 (.int .u8 0) (t 57) (t 76)),m 4 77]) N) (S (R [m 8 0,o 9 (.bsl 5 1 (.int .u8 0) 3 [(0,1,(.const (.int .u8 239))),(1,1,(.const (.int .u8 191))),(2,1,(.const (.int .u8 189)))]),o 10 (.app 5 1 1 (.int .u8 0) (t 8) (t 9)),m 4 10]) N))))))))))).c
def a223:AFunc:=⟨78,c223,[.tmp 4],1⟩
def c224:ACode:=({c:=_}:TbD (S (R [b 1 26 0,z 2,n 3 0]) (S (S (R [l 5 3 1,ca 6 24 5,m 4 6]) (S (R [m 7 4,w 8 .neq 30 7 0 30 4]) (C 8 (S (R [m 9 4,z 2,m 3 9]) N) K))) (S (D [d' 10 0 1 [4,5,6,7,8,10,11,12],d' 11 0 10 [4,5,6,7,8,10,11,12],f' 12 1 11 [4,5,6,7,8,10,11,12],u 13 (.bsl 5 1 (.int .u8 0) 1 [(0,1,(t 12))]) [4,5,6,7,8,10,11,12],d' 14 0 1 [0,1,2,3,10,11,12],d' 15 1 14 [0,1,2,3,10,11,12],f' 16 1 15 [0,1,2,3,10,11,12],u 17 (.pur (mkO (.convert 22 3 (t 16)) 3)) [0,1,2,3,10,11,12],u 18 (.call (.func 243) [(t 17),(.const (.int .i64 4))]) [0,1,2,3,10,11,12],u 19 (.app 5 1 1 (.int .u8 0) (t 13) (t 18)) [10,11,12],d' 20 2 1 [0,1,2,3,4,5,6,7,8,9],f' 21 1 20 [0,1,2,3,4,5,6,7,8,9],u 22 (.bsl 5 1 (.int .u8 0) 1 [(0,1,(t 21))]) [0,1,2,3,4,5,6,7,8,9],o 23 (.app 5 1 1 (.int .u8 0) (t 19) (t 22)),m 2 23,n 3 0]) N)))).c
def a224:AFunc:=⟨24,c224,[.tmp 2,.tmp 3],0⟩
def c225:ACode:=({c:=_}:TbD (S (R [b 1 48 0,z 2,n 3 0]) (S (S (R [l 7 4 1,ca 8 158 7,m 4 8]) (S (R [m 9 4,w 10 .neq 30 9 0 30 4]) (C 10 (S (R [m 11 4,z 2,m 3 11]) N) K))) (S (R [d 13 0 1,l 14 3 13,ca 15 224 14,m 12 15,e 16 12 0,e 17 12 1,m 5 16,m 6 17]) (S (R [m 18 5,d 19 3 1,f 20 1 19,o 21 (.call (.func 243) [(t 20),(.const (.int .i64 7))]),o 22 (.app 5 1 1 (.int .u8 0) (t 18) (t 21)),m 23 6,m 2 22,m 3 23]) N))))).c
def a225:AFunc:=⟨24,c225,[.tmp 2,.tmp 3],0⟩
def c226:ACode:=({c:=_}:TbD (S (R [z 2]) (S (R [n 3 0]) (S (S (R [m 9 0,k 10 9,n 11 0]) (B 0 (L (S (R [v 12 .lss 3 11 10 3 0]) (S (C 12 K (X 0)) (S (B 1 (S (R [i 13 1 9 11,f 14 1 13,m 5 14]) (S (R [m 15 3,m 16 5,k 17 16,v 18 .add 3 15 17 3 3,m 3 18]) (S (R [m 19 3,w 20 .lss 3 19 0 3 4]) (C 20 (R [o 21 (.bad "op"),O (.bad "op")]) K))))) (R [w 22 .add 3 11 1 3 3,m 11 22]))))))) (S (R [m 23 3,o 24 (.call (.func 244) [(.const (.slice none 0 0)),(t 23)]),m 6 24]) (S (S (R [m 25 0,k 26 25,n 27 0]) (B 2 (L (S (R [v 28 .lss 3 27 26 3 0]) (S (C 28 K (X 2)) (S (B 3 (S (R [i 29 1 25 27,f 30 1 29,m 8 30]) (R [m 31 6,m 32 8,o 33 (.app 5 1 1 (.int .u8 0) (t 31) (t 32)),m 6 33]))) (R [w 34 .add 3 27 1 3 3,m 27 34]))))))) (S (R [m 35 6,m 2 35]) N))))))).c
def a226:AFunc:=⟨36,c226,[.tmp 2],1⟩
def c227:ACode:=({c:=_}:TbD (S (R [z 2,n 3 0]) (S (S (R [m 8 0,ca 9 118 8,m 4 9]) (S (R [m 10 4,w 11 .neq 30 10 0 30 4]) (C 11 (S (R [m 12 4,z 2,m 3 12]) N) K))) (S (R [z 5]) (S (S (R [m 13 0,k 14 13,n 15 0]) (B 0 (L (S (R [v 16 .lss 3 15 14 3 0]) (S (C 16 K (X 0)) (S (B 1 (S (R [i 17 1 13 15,f 18 1 17,m 7 18]) (R [m 19 5,m 20 7,o 21 (.pur (mkO (.binOp .shr 21 (t 20) (.const (.int .u64 24)) 260) 21)),o 22 (.pur (mkO (.convert 21 5 (t 21)) 5)),m 23 7,o 24 (.pur (mkO (.binOp .shr 21 (t 23) (.const (.int .u64 16)) 260) 21)),o 25 (.pur (mkO (.convert 21 5 (t 24)) 5)),m 26 7,o 27 (.pur (mkO (.binOp .shr 21 (t 26) (.const (.int .u64 8)) 260) 21)),o 28 (.pur (mkO (.convert 21 5 (t 27)) 5)),m 29 7,o 30 (.pur (mkO (.convert 21 5 (t 29)) 5)),o 31 (.bsl 5 1 (.int .u8 0) 4 [(0,1,(t 22)),(1,1,(t 25)),(2,1,(t 28)),(3,1,(t 30))]),o 32 (.app 5 1 1 (.int .u8 0) (t 19) (t 31)),m 5 32]))) (R [w 33 .add 3 15 1 3 3,m 15 33]))))))) (S (R [m 34 5,m 2 34,n 3 0]) N)))))).c
def a227:AFunc:=⟨35,c227,[.tmp 2,.tmp 3],0⟩
def c228:ACode:=({c:=_}:TbD (S (R [z 4]) (S (S (D [m' 5 0 [1,2,3,4,5,6,7,8,9,10,11,12,13,14,15,16,17,18],m' 6 0 [0],u 7 (.nilck (t 6)) [0],d' 8 2 7 [0],f' 9 1 8 [0],m' 10 9 [0],q 11 (m_ 0) 10 [0,11,12,13,14,16],q 12 (.nilck (t 11)) 10 [0,11,12,13,14,16],q 13 (d_ 0 12) 10 [0,11,12,13,14,16],q 14 (f_ 1 13) 10 [0,11,12,13,14,16],q 15 (k_ 14) 10 [0,11,12,13,14,16],q 16 (m_ 0) 10 [0,6,7,8,9,10,16],q 17 (.nilck (t 16)) 10 [0,6,7,8,9,10,16],q 18 (d_ 1 17) 10 [0,6,7,8,9,10,16],q 19 (f_ 1 18) 10 [0,6,7,8,9,10,16],q 20 (v_ .sub 3 15 19 3 3) 10 [0,16],q 21 (m_ 1) 10 [0,6,7,8,9,10,11,12,13,14,15],q 22 (v_ .lss 3 20 21 3 4) 10 [0],y' 23 10 22 [0],o 24 (.nilck (t 5)),d 25 2 24,s 1 25 23]) (S (R [m 26 0,o 27 (.nilck (t 26)),d 28 2 27,f 29 1 28]) (C 29 (S (R [m 30 1,o 31 (.mksl 5 1 1 (.int .u8 0) (t 30) (t 30)),m 4 31]) N) K))) (S (R [m 32 0,o 33 (.nilck (t 32)),d 34 1 33,f 35 1 34,m 36 1,v 37 .add 3 35 36 3 3,o 38 (.nilck (t 32)),d 39 1 38,s 1 39 37]) (S (D [m' 40 0 [4,5,6,7,8,9,10,11,12,13],u 41 (.nilck (t 40)) [4,5,6,7,8,9,10,11,12,13],d' 42 0 41 [4,5,6,7,8,9,10,11,12,13],f' 43 1 42 [4,5,6,7,8,9,10,11,12,13],m' 44 0 [0,1,2,3,8,10,11,12,13],u 45 (.nilck (t 44)) [0,1,2,3,8,10,11,12,13],d' 46 1 45 [0,1,2,3,8,10,11,12,13],f' 47 1 46 [0,1,2,3,8,10,11,12,13],m' 48 1 [0,1,2,3,4,5,6,7,10,11,12,13],v' 49 .sub 3 47 48 3 3 [0,1,2,3,10,11,12,13],m' 50 0 [0,1,2,3,4,5,6,7,8,9],u 51 (.nilck (t 50)) [0,1,2,3,4,5,6,7,8,9],d' 52 1 51 [0,1,2,3,4,5,6,7,8,9],f' 53 1 52 [0,1,2,3,4,5,6,7,8,9],o 54 (.slc 1 (t 43) (some (t 49)) (some (t 53)) none),m 4 54]) N))))).c
def a228:AFunc:=⟨55,c228,[.tmp 4],0⟩
def c229:ACode:=({c:=_}:TbD (S (R [o 4 (.alloc 48 Z10)]) (S (R [m 9 0,o 10 (.call (.func 228) [(t 9),(.const (.int .i64 13))]),m 5 10]) (S (R [m 12 5,ca 13 245 12,m 11 13,e 14 11 0,e 15 11 1,o 6 (.alloc 48 Z10),s 4 6 14,m 7 15]) (S (R [m 16 1,m 17 16,p 18 (m_ 5) 17 [],p 19 (.mksl 5 1 1 (.int .u8 0) (.const (.int .i64 13)) (.const (.int .i64 13))) 17 [],p 20 (cb_ 169 18 19) 17 [],x 21 17 20,m 8 21]) (S (R [m 22 0,m 23 0,o 24 (.nilck (t 23)),d 25 2 24,f 26 1 25,m 27 26,q 28 (m_ 7) 27 [],q 29 (w_ .neq 30 28 0 30 4) 27 [],q 30 (m_ 29) 27 [],p 31 (m_ 8) 30 [],p 32 (j_ 4 31 4) 30 [],q 33 (x_ 30 32) 27 [],y 34 27 33,o 35 (.nilck (t 22)),d 36 2 35,s 1 36 34]) (S (R [l 37 4 6,s 4 4 37]) N))))))).c
def a229:AFunc:=⟨38,c229,[.cell 4 4 true],0⟩
def c230:ACode:=({c:=_}:TbD (S (R [o 2 (.alloc 26 Z11),n 3 0]) (S (S (R [m 5 0,k 6 5,w 7 .neq 3 6 6 3 4]) (C 7 (S (R [o 8 (.build Z11 []),s 3 2 8,n 3 8]) N) K)) (S (R [m 9 0,ca 10 246 9,o 4 (.alloc 332 Z10),s 4 4 10]) (S (S (R [d 11 3 4,f 12 1 11,w 13 .neq 30 12 0 30 4]) (C 13 (S (D [u 14 (.build Z11 []) [1,2],d' 15 3 4 [0,3],f' 16 1 15 [0,3],s' 3 2 14 [1,2],m 3 16]) N) K)) (S (R [d 17 0 4,l 18 3 17,s 3 2 18,n 3 0]) N)))))).c
def a230:AFunc:=⟨19,c230,[.cell 2 3 true,.tmp 3],1⟩
def c231:ACode:=({c:=_}:TbD (S (R [o 2 (.alloc 43 (.slice none 0 0)),n 3 0]) (S (B 0 (S (R [m 7 0,k 8 7,w 9 .gtr 3 8 256 3 4,m 6 9]) (C 6 (S (R [O (.store 1 (t 2) (.const (.slice none 0 0))),n 3 4]) N) (S (R [m 11 0,k 12 11,w 13 .rem 3 12 4 3 3,w 14 .gtr 3 13 0 3 4,m 10 14]) (C 10 (S (R [O (.store 1 (t 2) (.const (.slice none 0 0))),n 3 8]) N) K))))) (S (S (R [m 15 0,o 16 (.call (.func 247) [(t 15),(.const (.int .i64 4))])]) (B 1 (.rangeFunc (.tmp 16) [17] (R [m 4 17]) (B 2 (D [f' 18 1 2 [1,2,3,4,5,6,7,8,9,10,11,12,13,14,15,16,17,18,19,20,21,22,23,24],m' 19 4 [0,6,7,8,9,10,12,13,14,15,16,18,19,20,21],u 20 (.iad 1 (t 19) (.const (.int .i64 0))) [0,6,7,8,9,10,12,13,14,15,16,18,19,20,21],f' 21 1 20 [0,6,7,8,9,10,12,13,14,15,16,18,19,20,21],u 22 (.pur (mkO (.convert 5 22 (t 21)) 22)) [0,6,7,8,9,10,12,13,14,15,16,18,19,20,21],u 23 (.pur (mkO (.binOp .shl 22 (t 22) (.const (.int .u64 24)) 260) 22)) [0,6,7,8,9,10,12,13,14,15,16,18,19,20,21],m' 24 4 [0,1,2,3,4,5,12,13,14,15,16,18,19,20,21],u 25 (.iad 1 (t 24) (.const (.int .i64 1))) [0,1,2,3,4,5,12,13,14,15,16,18,19,20,21],f' 26 1 25 [0,1,2,3,4,5,12,13,14,15,16,18,19,20,21],u 27 (.pur (mkO (.convert 5 22 (t 26)) 22)) [0,1,2,3,4,5,12,13,14,15,16,18,19,20,21],u 28 (.pur (mkO (.binOp .shl 22 (t 27) (.const (.int .u64 16)) 260) 22)) [0,1,2,3,4,5,12,13,14,15,16,18,19,20,21],v' 29 .or 22 23 28 22 22 [0,12,13,14,15,16,18,19,20,21],m' 30 4 [0,1,2,3,4,5,6,7,8,9,10,11,18,19,20,21],u 31 (.iad 1 (t 30) (.const (.int .i64 2))) [0,1,2,3,4,5,6,7,8,9,10,11,18,19,20,21],f' 32 1 31 [0,1,2,3,4,5,6,7,8,9,10,11,18,19,20,21],u 33 (.pur (mkO (.convert 5 22 (t 32)) 22)) [0,1,2,3,4,5,6,7,8,9,10,11,18,19,20,21],u 34 (.pur (mkO (.binOp .shl 22 (t 33) (.const (.int .u64 8)) 260) 22)) [0,1,2,3,4,5,6,7,8,9,10,11,18,19,20,21],v' 35 .or 22 29 34 22 22 [0,18,19,20,21],m' 36 4 [0,1,2,3,4,5,6,7,8,9,10,11,12,13,14,15,16,17],u 37 (.iad 1 (t 36) (.const (.int .i64 3))) [0,1,2,3,4,5,6,7,8,9,10,11,12,13,14,15,16,17],f' 38 1 37 [0,1,2,3,4,5,6,7,8,9,10,11,12,13,14,15,16,17],u 39 (.pur (mkO (.convert 5 22 (t 38)) 22)) [0,1,2,3,4,5,6,7,8,9,10,11,12,13,14,15,16,17],v' 40 .or 22 35 39 22 22 [0],u 41 (.pur (mkO (.convert 22 21 (t 40)) 21)) [0],u 42 (.bsl 21 1 (.int .i32 0) 1 [(0,1,(t 41))]) [0],o 43 (.app 21 1 4 (.int .i32 0) (t 18) (t 42)),s 1 2 43]))))) (S (S (R [f 44 1 2,ca 45 118 44,m 5 45]) (S (R [m 46 5,w 47 .neq 30 46 0 30 4]) (C 47 (S (R [m 48 5,O (.store 1 (t 2) (.const (.slice none 0 0))),m 3 48]) N) K))) (S (R [f 49 1 2,s 1 2 49,n 3 0]) N)))))).c
def a231:AFunc:=⟨50,c231,[.cell 2 1 false,.tmp 3],1⟩
def c232:ACode:=({c:=_}:TbD (S (R [n 4 0]) (S (S (R [m 6 0,k 7 6,n 8 0]) (B 0 (L (S (R [v 9 .lss 3 8 7 3 0]) (S (C 9 K (X 0)) (S (B 1 (S (R [m 10 8,m 5 10]) (S (R [m 11 1,m 12 0,m 13 5,i 14 4 12 13,l 15 4 14,o 16 (.call (t 11) [(t 15)])]) (C 16 (S (R [m 17 5,m 4 17]) N) K)))) (R [w 18 .add 3 8 1 3 3,m 8 18]))))))) (S (R [n 4 (-1)]) N)))).c
def a232:AFunc:=⟨19,c232,[.tmp 4],0⟩
def c233:ACode:=({c:=_}:TbD (S (R [b 3 48 0,bf 4]) (S (R [f 5 1 1,l 6 17 2,l 7 4 3,cd 8 197 5 6 7,j 9 4 8 4,m 4 9]) N))).c
def a233:AFunc:=⟨10,c233,[.tmp 4],0⟩
def c234:ACode:=({c:=_}:TbD (S (R [n 4 0]) (S (S (R [m 6 0,k 7 6,n 8 0]) (B 0 (L (S (R [v 9 .lss 3 8 7 3 0]) (S (C 9 K (X 0)) (S (B 1 (S (R [m 10 8,m 5 10]) (S (R [m 11 1,m 12 0,m 13 5,i 14 10 12 13,l 15 10 14,o 16 (.call (t 11) [(t 15)])]) (C 16 (S (R [m 17 5,m 4 17]) N) K)))) (R [w 18 .add 3 8 1 3 3,m 8 18]))))))) (S (R [n 4 (-1)]) N)))).c
def a234:AFunc:=⟨19,c234,[.tmp 4],0⟩
def c235:ACode:=({c:=_}:TbD (S (R [b 1 109 0,o 2 (.mov (.const .nilFunc))]) (S (R [o 3 (.mkfn 248 [] [(t 1)]),m 2 3]) N))).c
def a235:AFunc:=⟨4,c235,[.tmp 2],0⟩
def c236:ACode:=({c:=_}:TbD (S (R [bf 6]) (S (S (R [m 10 0,k 11 10,m 12 1,k 13 12,v 14 .neq 3 11 13 3 4]) (C 14 (S (R [bf 6]) N) K)) (S (S (R [m 15 0,k 16 15,n 17 0]) (B 0 (L (S (R [v 18 .lss 3 17 16 3 0]) (S (C 18 K (X 0)) (S (B 1 (S (R [m 19 17,i 20 10 15 17,l 21 10 20,o 8 (.alloc 172 Z8),m 7 19,s 10 8 21]) (S (R [m 22 1,m 23 7,i 24 10 22 23,l 25 10 24,o 9 (.alloc 172 Z8),s 10 9 25]) (S (R [m 26 2,l 27 10 8,l 28 10 9,o 29 (.call (t 26) [(t 27),(t 28)]),j 30 4 29 4]) (C 30 (S (R [bf 6]) N) K))))) (R [w 31 .add 3 17 1 3 3,m 17 31]))))))) (S (R [bt 6]) N))))).c
def a236:AFunc:=⟨32,c236,[.tmp 6],1⟩
def c237:ACode:=({c:=_}:TbD (S (R [b 2 172 0,b 3 172 1,bf 4]) (S (R [d 5 0 2,l 6 5 5,d 7 0 3,l 8 5 7,v 9 .eql 67 6 8 67 4,m 10 9,p 11 (d_ 5 2) 10 [],p 12 (l_ 4 11) 10 [],p 13 (d_ 5 3) 10 [],p 14 (l_ 4 13) 10 [],p 15 (v_ .eql 48 12 14 48 4) 10 [],x 16 10 15,m 17 16,p 18 (d_ 9 2) 17 [],p 19 (f_ 1 18) 17 [],p 20 (d_ 9 3) 17 [],p 21 (f_ 1 20) 17 [],p 22 (cb_ 187 19 21) 17 [],x 23 17 22,m 4 23]) N))).c
def a237:AFunc:=⟨24,c237,[.tmp 4],1⟩
def c238:ACode:=({c:=_}:TbD (S (R [b 2 67 0,o 4 (.alloc 67 Z9),o 5 (.alloc 67 Z9),n 6 0]) (S (R [l 9 5 2,m 10 1,cb 11 149 9 10,m 8 11,e 12 8 0,e 13 8 1,o 7 (.alloc 48 Z10),s 4 7 12,m 6 13]) (S (S (R [m 14 6,w 15 .eql 30 14 0 30 4,m 16 15,p 17 (m_ 1) 16 [],p 18 (w_ .eql 3 17 0 3 4) 16 [],x 19 16 18]) (C 19 (R [n 6 2]) K)) (S (S (R [m 20 6,w 21 .neq 30 20 0 30 4]) (C 21 (S (D [l' 22 5 4 [1,2],l' 23 5 5 [0,2,3],m' 24 6 [0,1,3,4],s' 5 4 22 [1,2],s' 5 5 23 [2],m 6 24]) N) K)) (S (D [d' 25 0 2 [2,4,5,6,7,8,9],l' 26 4 25 [2,4,5,6,7,8,9],m' 27 1 [0,1,4,5,6,7,8,9],u 28 (.build Z9 [(0,4,(t 26)),(4,1,(t 27))]) [4,5,6,7,8,9],l' 29 4 7 [0,1,2,3,5,6,7,8,10],d' 30 4 2 [0,1,2,3,4,7,10],f' 31 1 30 [0,1,2,3,4,7,10],m' 32 1 [0,1,2,3,4,5,6,10],v' 33 .sub 3 31 32 3 3 [0,1,2,3,4,10],u 34 (.build Z9 [(0,4,(t 29)),(4,1,(t 33))]) [0,1,2,3,10],s' 5 4 28 [4,5,6,7,8,9],s 5 5 34,n 6 0]) N)))))).c
def a238:AFunc:=⟨35,c238,[.cell 4 5 true,.cell 5 5 true,.tmp 6],1⟩
def c239:ACode:=({c:=_}:TbD (S (R [b 1 323 0,o 2 (.alloc 172 Z8)]) (S (D [d' 3 0 1 [2,3,4,5,6],l' 4 5 3 [2,3,4,5,6],d' 5 5 1 [0,1,4,5,6],l' 6 4 5 [0,1,4,5,6],d' 7 9 1 [0,1,2,3],f' 8 1 7 [0,1,2,3],ca' 9 145 8 [0,1,2,3],o 10 (.build Z8 [(0,5,(t 4)),(5,4,(t 6)),(9,1,(t 9))]),s 10 2 10]) N))).c
def a239:AFunc:=⟨11,c239,[.cell 2 10 true],1⟩
def c240:ACode:=({c:=_}:TbD (S (R [z 4]) (S (S (R [m 5 1,w 6 .lss 3 5 0 3 4]) (C 6 (R [o 7 (.bad "op"),O (.bad "op")]) K)) (S (S (R [m 8 1,m 9 0,o 10 (.cap (t 9)),m 11 0,k 12 11,v 13 .sub 3 10 12 3 3,v 14 .sub 3 8 13 3 3,m 1 14]) (S (R [m 15 1,w 16 .gtr 3 15 0 3 4]) (C 16 (R [m 17 0,m 18 0,o 19 (.cap (t 18)),o 20 (.slc 10 (t 17) none (some (t 19)) none),m 21 1,o 22 (.appz 172 10 80 Z8 (t 20) (t 21)),m 23 0,k 24 23,o 25 (.slc 10 (t 22) none (some (t 24)) none),m 0 25]) K))) (S (R [m 26 0,m 4 26]) N))))).c
def a240:AFunc:=⟨27,c240,[.tmp 4],0⟩
def c241:ACode:=({c:=_}:TbD (S (R [z 2]) (S (S (R [m 5 0,k 6 5,n 7 0]) (B 0 (L (S (R [v 8 .lss 3 7 6 3 0]) (S (C 8 K (X 0)) (S (B 1 (S (R [i 9 10 5 7,l 10 10 9,o 4 (.alloc 172 Z8),s 10 4 10]) (R [m 11 2,d 12 9 4,f 13 1 12,o 14 (.app 21 1 4 (.int .i32 0) (t 11) (t 13)),m 2 14]))) (R [w 15 .add 3 7 1 3 3,m 7 15]))))))) (S (R [m 16 2,m 2 16]) N)))).c
def a241:AFunc:=⟨17,c241,[.tmp 2],0⟩
def c242:ACode:=({c:=_}:TbD (S (R [m 4 0,m 5 1,o 6 (.slc 10 (t 4) none (some (t 5)) none),ca 7 249 6]) (S (R [m 8 0,m 9 1,o 10 (.slc 10 (t 8) (some (t 9)) none none),ca 11 249 10]) (R [m 12 0,ca 13 249 12])))).c
def a242:AFunc:=⟨14,c242,[],0⟩
def c243:ACode:=({c:=_}:TbD (S (R [z 4]) (S (S (R [m 6 1,w 7 .sub 3 6 1 3 3,m 5 7]) (B 0 (L (S (S (R [m 8 5,w 9 .geq 3 8 0 3 4]) (C 9 K (X 0))) (S (B 1 (R [m 12 4,m 13 0,m 14 5,o 15 (.pur (mkO (.binOp .mul 3 (.const (.int .i64 8)) (t 14) 3) 3)),v 16 .shr 3 13 15 3 3,o 17 (.pur (mkO (.convert 3 5 (t 16)) 5)),o 18 (.bsl 5 1 (.int .u8 0) 1 [(0,1,(t 17))]),o 19 (.app 5 1 1 (.int .u8 0) (t 12) (t 18)),m 4 19])) (R [m 10 5,w 11 .sub 3 10 1 3 3,m 5 11])))))) (S (R [m 20 4,m 4 20]) N)))).c
def a243:AFunc:=⟨21,c243,[.tmp 4],0⟩
def c244:ACode:=({c:=_}:TbD (S (R [z 4]) (S (S (R [m 5 1,w 6 .lss 3 5 0 3 4]) (C 6 (R [o 7 (.bad "op"),O (.bad "op")]) K)) (S (S (R [m 8 1,m 9 0,o 10 (.cap (t 9)),m 11 0,k 12 11,v 13 .sub 3 10 12 3 3,v 14 .sub 3 8 13 3 3,m 1 14]) (S (R [m 15 1,w 16 .gtr 3 15 0 3 4]) (C 16 (R [m 17 0,m 18 0,o 19 (.cap (t 18)),o 20 (.slc 1 (t 17) none (some (t 19)) none),m 21 1,o 22 (.appz 5 1 1 (.int .u8 0) (t 20) (t 21)),m 23 0,k 24 23,o 25 (.slc 1 (t 22) none (some (t 24)) none),m 0 25]) K))) (S (R [m 26 0,m 4 26]) N))))).c
def a244:AFunc:=⟨27,c244,[.tmp 4],0⟩
def c245:ACode:=({c:=_}:TbD (S (R [o 2 (.alloc 48 Z10),n 3 0]) (S (S (R [m 6 0,k 7 6,w 8 .neq 3 7 13 3 4]) (C 8 (S (R [o 9 (.build Z10 []),s 4 2 9,n 3 8]) N) K)) (S (D [m' 10 0 [3,4,7],ca' 11 246 10 [3,4,7],u 12 (.fld 0 3 true (t 11)) [3,4,5,7],m' 13 0 [0,1,2,7],u 14 (.slc 1 (t 13) (some (.const (.int .i64 6))) none none) [0,1,2,7],ca' 15 250 14 [2,7],u 16 (.build Z10 [(0,3,(t 12)),(3,1,(t 15))]) [7],u 4 (.alloc 48 Z10) [0,1,2,3,4,5,6],s 4 4 16]) (S (S (R [l 17 4 4,ca 18 158 17,m 5 18]) (S (R [m 19 5,w 20 .neq 30 19 0 30 4]) (C 20 (S (R [o 21 (.build Z10 []),m 22 5,s 4 2 21,m 3 22]) N) K))) (S (R [l 23 4 4,s 4 2 23,n 3 0]) N)))))).c
def a245:AFunc:=⟨24,c245,[.cell 2 4 true,.tmp 3],1⟩
def c246:ACode:=({c:=_}:TbD (S (R [o 2 (.alloc 332 Z10)]) (S (D [m' 4 0 [3,4,5,6,8,9,10,13],u 5 (.iad 1 (t 4) (.const (.int .i64 0))) [3,4,5,6,8,9,10,13],f' 6 1 5 [3,4,5,6,8,9,10,13],m' 7 0 [0,1,2,8,9,10,13],u 8 (.slc 1 (t 7) (some (.const (.int .i64 1))) (some (.const (.int .i64 5))) none) [0,1,2,8,9,10,13],ca' 9 250 8 [0,1,2,8,9,10,13],u 10 (.pur (mkO (.convert 3 22 (t 9)) 22)) [0,1,2,8,9,10,13],u 11 (.build Z12 [(0,1,(t 6)),(1,1,(t 10))]) [8,9,10,13],m' 12 0 [0,1,2,3,4,5,6,7,13],u 13 (.iad 1 (t 12) (.const (.int .i64 5))) [0,1,2,3,4,5,6,7,13],f' 14 1 13 [0,1,2,3,4,5,6,7,13],u 15 (.build Z11 [(0,2,(t 11)),(2,1,(t 14))]) [13],u 16 (.build Z10 [(0,3,(t 15))]) [13],u 3 (.alloc 332 Z10) [0,1,2,3,4,5,6,7,8,9,10,11,12],s 4 3 16]) (S (R [d 17 0 3,l 18 3 17,ca 19 24 18,d 20 3 3,s 1 20 19]) (S (R [l 21 4 3,s 4 2 21]) N))))).c
def a246:AFunc:=⟨22,c246,[.cell 2 4 true],1⟩
def c247:ACode:=({c:=_}:TbD (S (R [b 2 86 0,b 3 3 1,o 4 (.mov (.const .nilFunc))]) (S (S (R [f 5 1 3,w 6 .lss 3 5 1 3 4]) (C 6 (R [o 7 (.bad "op"),O (.bad "op")]) K)) (S (R [o 8 (.mkfn 251 [] [(t 2),(t 3)]),m 4 8]) N)))).c
def a247:AFunc:=⟨9,c247,[.tmp 4],0⟩
def c248:ACode:=({c:=_}:TbD (S (R [f 10 1 1,k 11 10,n 12 0]) (B 0 (L (S (R [v 13 .lss 3 12 11 3 0]) (S (C 13 K (X 0)) (S (B 1 (S (R [i 14 10 10 12,l 15 10 14,o 4 (.alloc 172 Z8),s 10 4 15]) (S (R [d 16 0 4,d 17 4 16,f 18 1 17,n 19 0]) (B 2 (L (S (R [v 20 .lss 3 19 18 3 4]) (S (C 20 K (X 2)) (S (B 3 (S (R [m 21 19,m 5 21]) (S (R [l 23 10 4,m 24 5,cb 25 89 23 24,m 22 25,e 26 22 0,e 27 22 1,e 28 22 2,e 29 22 3,o 6 (.alloc 48 Z10),o 7 (.alloc 48 Z10),s 4 6 26,s 4 7 27,m 8 28,m 9 29]) (S (R [m 30 0,l 31 4 6,l 32 4 7,o 33 (.call (t 30) [(t 31),(t 32)]),j 34 4 33 4]) (C 34 N K))))) (R [w 35 .add 3 19 1 3 3,m 19 35]))))))))) (R [w 36 .add 3 12 1 3 3,m 12 36])))))))).c
def a248:AFunc:=⟨37,c248,[],0⟩
def c249:ACode:=({c:=_}:TbD (S (R [m 4 0,k 5 4,w 6 .sub 3 5 1 3 3,n 2 0,m 3 6]) (B 0 (L (S (S (R [m 7 2,m 8 3,v 9 .lss 3 7 8 3 4]) (C 9 K (X 0))) (S (B 1 (D [m' 14 0 [1,2,3,4,5,6,7,8,9,10,11],m' 15 2 [0,2,3,4,5,6,7,8,9,10,11],m' 16 0 [0,1,3,4,5,6,7,8,9,10,11,12,13],m' 17 3 [0,1,2,4,5,6,7,8,9,10,11,12,13],m' 18 0 [0,1,2,3,5,8,9,10,11],m' 19 3 [0,1,2,3,4,8,9,10,11],i' 20 10 18 19 [0,1,2,3,8,9,10,11],l' 21 10 20 [0,1,2,3,8,9,10,11],m' 22 0 [0,1,2,3,4,5,6,7,9],m' 23 2 [0,1,2,3,4,5,6,7,8],i' 24 10 22 23 [0,1,2,3,4,5,6,7],l' 25 10 24 [0,1,2,3,4,5,6,7],i' 26 10 14 15 [2,3],s' 10 26 21 [2,3],i 27 10 16 17,s 10 27 25])) (R [m 10 2,w 11 .add 3 10 1 3 3,m 12 3,w 13 .sub 3 12 1 3 3,m 2 11,m 3 13]))))))).c
def a249:AFunc:=⟨28,c249,[],0⟩
def c250:ACode:=({c:=_}:TbD (S (R [n 2 0]) (S (S (R [m 5 0,k 6 5,n 7 0]) (B 0 (L (S (R [v 8 .lss 3 7 6 3 0]) (S (C 8 K (X 0)) (S (B 1 (S (R [i 9 1 5 7,f 10 1 9,m 4 10]) (R [m 11 2,o 12 (.pur (mkO (.binOp .shl 3 (t 11) (.const (.int .u64 8)) 260) 3)),m 13 4,o 14 (.pur (mkO (.convert 5 3 (t 13)) 3)),v 15 .or 3 12 14 3 3,m 2 15]))) (R [w 16 .add 3 7 1 3 3,m 7 16]))))))) (S (R [m 17 2,m 2 17]) N)))).c
def a250:AFunc:=⟨18,c250,[.tmp 2],1⟩
def c251:ACode:=({c:=_}:TbD (S (R [n 4 0]) (B 0 (L (S (S (R [m 6 4,f 7 1 1,k 8 7,v 9 .lss 3 6 8 3 4]) (C 9 K (X 0))) (S (B 1 (S (D [f' 13 1 2 [1,2,3,4],f' 14 1 1 [0,2],m' 15 4 [0,1],u 16 (.slc 1 (t 14) (some (t 15)) none none) [0],k' 17 16 [0],o 18 (.pur (mkO (.call ⟨.builtin .min,#[(t 13),(t 17)],#[3,3]⟩) 3)),m 5 18]) (S (R [m 19 0,f 20 1 1,m 21 4,m 22 4,m 23 5,v 24 .add 3 22 23 3 3,m 25 4,m 26 5,v 27 .add 3 25 26 3 3,o 28 (.slc 1 (t 20) (some (t 21)) (some (t 24)) (some (t 27))),o 29 (.call (t 19) [(t 28)]),j 30 4 29 4]) (C 30 N K)))) (R [m 10 4,f 11 1 2,v 12 .add 3 10 11 3 3,m 4 12]))))))).c
def a251:AFunc:=⟨31,c251,[],0⟩
def tbl:List (Option AFunc):=[none,none,none,some a3,some a4,some a5,some a6,some a7,some a8,some a9,some a10,some a11,some a12,some a13,some a14,some a15,some a16,some a17,some a18,some a19,some a20,some a21,some a22,some a23,some a24,some a25,some a26,some a27,some a28,some a29,some a30,some a31,some a32,some a33,some a34,some a35,some a36,some a37,some a38,some a39,some a40,some a41,some a42,some a43,some a44,some a45,some a46,some a47,some a48,some a49,some a50,some a51,some a52,some a53,some a54,some a55,some a56,some a57,some a58,some a59,some a60,some a61,some a62,some a63,some a64,some a65,some a66,some a67,some a68,some a69,some a70,some a71,some a72,some a73,some a74,some a75,some a76,some a77,some a78,some a79,some a80,some a81,some a82,some a83,some a84,some a85,some a86,some a87,some a88,some a89,some a90,some a91,some a92,some a93,some a94,some a95,some a96,some a97,some a98,some a99,some a100,some a101,some a102,some a103,some a104,some a105,some a106,some a107,some a108,some a109,some a110,some a111,some a112,some a113,some a114,some a115,some a116,some a117,some a118,some a119,some a120,some a121,some a122,some a123,some a124,some a125,some a126,some a127,some a128,some a129,some a130,some a131,some a132,some a133,some a134,some a135,some a136,some a137,some a138,some a139,some a140,some a141,some a142,some a143,some a144,some a145,some a146,some a147,some a148,some a149,some a150,some a151,some a152,some a153,some a154,some a155,some a156,some a157,some a158,some a159,some a160,some a161,some a162,some a163,some a164,some a165,some a166,some a167,some a168,some a169,some a170,some a171,some a172,some a173,some a174,some a175,some a176,some a177,some a178,some a179,some a180,some a181,some a182,some a183,some a184,some a185,some a186,some a187,some a188,some a189,some a190,some a191,some a192,some a193,some a194,some a195,some a196,some a197,some a198,some a199,some a200,some a201,some a202,some a203,some a204,some a205,some a206,some a207,some a208,some a209,some a210,some a211,none,some a213,some a214,some a215,some a216,some a217,some a218,some a219,some a220,some a221,none,some a223,some a224,some a225,some a226,some a227,some a228,some a229,some a230,some a231,some a232,some a233,some a234,some a235,some a236,some a237,some a238,some a239,some a240,some a241,some a242,some a243,some a244,some a245,some a246,some a247,some a248,some a249,some a250,some a251]
noncomputable abbrev zCN (f d n:Nat):=zAF Tryz.prog (fsT tbl) f d (.fn n)
theorem tf3:fsT tbl 3=some a3:=rfl
theorem tf4:fsT tbl 4=some a4:=rfl
theorem tf5:fsT tbl 5=some a5:=rfl
theorem tf6:fsT tbl 6=some a6:=rfl
theorem tf7:fsT tbl 7=some a7:=rfl
theorem tf8:fsT tbl 8=some a8:=rfl
theorem tf9:fsT tbl 9=some a9:=rfl
theorem tf10:fsT tbl 10=some a10:=rfl
theorem tf11:fsT tbl 11=some a11:=rfl
theorem tf12:fsT tbl 12=some a12:=rfl
theorem tf15:fsT tbl 15=some a15:=rfl
theorem tf16:fsT tbl 16=some a16:=rfl
theorem tf17:fsT tbl 17=some a17:=rfl
theorem tf18:fsT tbl 18=some a18:=rfl
theorem tf19:fsT tbl 19=some a19:=rfl
theorem tf20:fsT tbl 20=some a20:=rfl
theorem tf21:fsT tbl 21=some a21:=rfl
theorem tf22:fsT tbl 22=some a22:=rfl
theorem tf23:fsT tbl 23=some a23:=rfl
theorem tf24:fsT tbl 24=some a24:=rfl
theorem tf25:fsT tbl 25=some a25:=rfl
theorem tf26:fsT tbl 26=some a26:=rfl
theorem tf27:fsT tbl 27=some a27:=rfl
theorem tf32:fsT tbl 32=some a32:=rfl
theorem tf33:fsT tbl 33=some a33:=rfl
theorem tf38:fsT tbl 38=some a38:=rfl
theorem tf39:fsT tbl 39=some a39:=rfl
theorem tf40:fsT tbl 40=some a40:=rfl
theorem tf41:fsT tbl 41=some a41:=rfl
theorem tf42:fsT tbl 42=some a42:=rfl
theorem tf43:fsT tbl 43=some a43:=rfl
theorem tf44:fsT tbl 44=some a44:=rfl
theorem tf45:fsT tbl 45=some a45:=rfl
theorem tf46:fsT tbl 46=some a46:=rfl
theorem tf47:fsT tbl 47=some a47:=rfl
theorem tf48:fsT tbl 48=some a48:=rfl
theorem tf49:fsT tbl 49=some a49:=rfl
theorem tf50:fsT tbl 50=some a50:=rfl
theorem tf51:fsT tbl 51=some a51:=rfl
theorem tf52:fsT tbl 52=some a52:=rfl
theorem tf53:fsT tbl 53=some a53:=rfl
theorem tf54:fsT tbl 54=some a54:=rfl
theorem tf55:fsT tbl 55=some a55:=rfl
theorem tf56:fsT tbl 56=some a56:=rfl
theorem tf57:fsT tbl 57=some a57:=rfl
theorem tf58:fsT tbl 58=some a58:=rfl
theorem tf59:fsT tbl 59=some a59:=rfl
theorem tf60:fsT tbl 60=some a60:=rfl
theorem tf61:fsT tbl 61=some a61:=rfl
theorem tf62:fsT tbl 62=some a62:=rfl
theorem tf63:fsT tbl 63=some a63:=rfl
theorem tf68:fsT tbl 68=some a68:=rfl
theorem tf74:fsT tbl 74=some a74:=rfl
theorem tf80:fsT tbl 80=some a80:=rfl
theorem tf82:fsT tbl 82=some a82:=rfl
theorem tf83:fsT tbl 83=some a83:=rfl
theorem tf84:fsT tbl 84=some a84:=rfl
theorem tf85:fsT tbl 85=some a85:=rfl
theorem tf86:fsT tbl 86=some a86:=rfl
theorem tf87:fsT tbl 87=some a87:=rfl
theorem tf88:fsT tbl 88=some a88:=rfl
theorem tf89:fsT tbl 89=some a89:=rfl
theorem tf90:fsT tbl 90=some a90:=rfl
theorem tf91:fsT tbl 91=some a91:=rfl
theorem tf92:fsT tbl 92=some a92:=rfl
theorem tf93:fsT tbl 93=some a93:=rfl
theorem tf94:fsT tbl 94=some a94:=rfl
theorem tf95:fsT tbl 95=some a95:=rfl
theorem tf96:fsT tbl 96=some a96:=rfl
theorem tf97:fsT tbl 97=some a97:=rfl
theorem tf98:fsT tbl 98=some a98:=rfl
theorem tf106:fsT tbl 106=some a106:=rfl
theorem tf115:fsT tbl 115=some a115:=rfl
theorem tf116:fsT tbl 116=some a116:=rfl
theorem tf118:fsT tbl 118=some a118:=rfl
theorem tf139:fsT tbl 139=some a139:=rfl
theorem tf140:fsT tbl 140=some a140:=rfl
theorem tf141:fsT tbl 141=some a141:=rfl
theorem tf142:fsT tbl 142=some a142:=rfl
theorem tf143:fsT tbl 143=some a143:=rfl
theorem tf144:fsT tbl 144=some a144:=rfl
theorem tf145:fsT tbl 145=some a145:=rfl
theorem tf146:fsT tbl 146=some a146:=rfl
theorem tf147:fsT tbl 147=some a147:=rfl
theorem tf148:fsT tbl 148=some a148:=rfl
theorem tf149:fsT tbl 149=some a149:=rfl
theorem tf150:fsT tbl 150=some a150:=rfl
theorem tf151:fsT tbl 151=some a151:=rfl
theorem tf152:fsT tbl 152=some a152:=rfl
theorem tf153:fsT tbl 153=some a153:=rfl
theorem tf154:fsT tbl 154=some a154:=rfl
theorem tf156:fsT tbl 156=some a156:=rfl
theorem tf157:fsT tbl 157=some a157:=rfl
theorem tf158:fsT tbl 158=some a158:=rfl
theorem tf159:fsT tbl 159=some a159:=rfl
theorem tf160:fsT tbl 160=some a160:=rfl
theorem tf161:fsT tbl 161=some a161:=rfl
theorem tf162:fsT tbl 162=some a162:=rfl
theorem tf167:fsT tbl 167=some a167:=rfl
theorem tf179:fsT tbl 179=some a179:=rfl
theorem tf180:fsT tbl 180=some a180:=rfl
theorem tf181:fsT tbl 181=some a181:=rfl
theorem tf182:fsT tbl 182=some a182:=rfl
theorem tf187:fsT tbl 187=some a187:=rfl
theorem tf188:fsT tbl 188=some a188:=rfl
theorem tf189:fsT tbl 189=some a189:=rfl
theorem tf190:fsT tbl 190=some a190:=rfl
theorem tf191:fsT tbl 191=some a191:=rfl
theorem tf193:fsT tbl 193=some a193:=rfl
theorem tf195:fsT tbl 195=some a195:=rfl
theorem tf197:fsT tbl 197=some a197:=rfl
theorem tf198:fsT tbl 198=some a198:=rfl
theorem tf199:fsT tbl 199=some a199:=rfl
theorem tf200:fsT tbl 200=some a200:=rfl
theorem tf201:fsT tbl 201=some a201:=rfl
theorem tf202:fsT tbl 202=some a202:=rfl
theorem tf203:fsT tbl 203=some a203:=rfl
theorem tf204:fsT tbl 204=some a204:=rfl
theorem tf205:fsT tbl 205=some a205:=rfl
theorem tf206:fsT tbl 206=some a206:=rfl
theorem tf207:fsT tbl 207=some a207:=rfl
theorem tf208:fsT tbl 208=some a208:=rfl
theorem tf209:fsT tbl 209=some a209:=rfl
theorem tf210:fsT tbl 210=some a210:=rfl
theorem tf211:fsT tbl 211=some a211:=rfl
theorem tf214:fsT tbl 214=some a214:=rfl
theorem tf215:fsT tbl 215=some a215:=rfl
theorem tf216:fsT tbl 216=some a216:=rfl
theorem tf221:fsT tbl 221=some a221:=rfl
theorem tf232:fsT tbl 232=some a232:=rfl
theorem tf233:fsT tbl 233=some a233:=rfl
theorem tf234:fsT tbl 234=some a234:=rfl
theorem tf235:fsT tbl 235=some a235:=rfl
theorem tf236:fsT tbl 236=some a236:=rfl
theorem tf237:fsT tbl 237=some a237:=rfl
theorem tf238:fsT tbl 238=some a238:=rfl
theorem tf239:fsT tbl 239=some a239:=rfl
theorem tf240:fsT tbl 240=some a240:=rfl
theorem tf241:fsT tbl 241=some a241:=rfl
theorem tf248:fsT tbl 248=some a248:=rfl
theorem zB00{p:Prop}(h:p:=by
 refine zBB (I:=fun n t N => ∃ (i:Nat),n=m - i/\i<=m/\nth zA3 t 0=a/\nth zA3 t 3 = .ptr 0 0/\nth zA3 t 40=I64 m/\nth zA3 t 41=I64 i/\Wf N/\N.get 0=some (.row false (rnR x ra))/\(∀ j,j<i->zBI l (x.sp.at (j:Nat))=none)/\N.size<=i+1) (n:=m) (by omega) ?_ ?_
 ·refine⟨0,rfl,Nat.zero_le _, ?_, ?_, ?_, ?_,Wf.mem0.add _,by simp (disch:=try exact SX) only[RV,seval],(fun _ h=>absurd h (by omega)),Nat.le_refl _⟩ <;> simp (disch:=try exact SX) only[RV,seval,h0,hmn]
  all_goals first | rfl | assumption | done
 ·rintro n t N hlt ⟨i,rfl,hi,g0,g3,g40,g41,w,g,hj,sz⟩
  simp only[ht] at hlt ⊢
  have lg:=Mem.get_lt g
  by_cases hc:i<m
  ·have q1:decide ((i:Int)<m)=true:=DT
   have w1:IntKind.i64.wrap ((i:Int)+1)=((i+1:Nat):Int):=WI
   have iai:=ia i hc
   have hwi:=hwh (x.sp.at (i:Nat))
   cases hwl:zBI l (x.sp.at (i:Nat)) with
   | some p =>
    have e2:putE l x=2:=by rw[hiE,if_pos ⟨i,by omega,by rw[hwl];simp⟩]
    have er:insR l x=[]:=by unfold insR;rw[e2];rfl
    rw[hwl] at hwi
    have qp:decide ((0:Int)<=((p.1:Nat):Int))=true:=DT
    rw[e2,er]
    simp (disch:=try exact SX) only[RV,seval,g0,g3,g40,g41,q1,iai,g,hwi,wN,wK,qp]
    exact⟨NIL,.inl ⟨rfl,rfl⟩,rfl⟩
   | none =>
    rw[hwl] at hwi
    simp (disch:=try exact SX) only[RV,seval,g0,g3,g40,g41,q1,iai,g,w,hwi,wN,wK,w1]
    refine⟨hlt,m - (i+1),by omega,i+1,rfl,by omega,rfl,fun j hj'=>?_,by omega⟩
    rcases Nat.lt_succ_iff_lt_or_eq.1 hj' with h | rfl
    ·exact hj j h
    ·exact hwl
  ·obtain rfl:i=m:=by omega
   have q1:decide ((i:Int)<i)=false:=DF
   have hno:¬∃ j:Nat,(j:Int)<x.sp.n/\zBI l (x.sp.at j)≠none:=fun⟨j,h1,h2⟩=>h2 (hj j (by omega))
   rw[if_neg hno] at hiE
   have hct:=fun M=>@zIU fuel (d+9) a l hS hok.1 (by omega) (by omega) M
   have hcl:=zF7 hok.1
   have w2:IntKind.i64.wrap (zB8 l+x.sp.n)=zB8 l+x.sp.n:=WI
   by_cases h4:8192<zB8 l+x.sp.n
   ·have e4:putE l x=4:=by rw[hiE,if_pos h4]
    have er:insR l x=[]:=by unfold insR;rw[e4];rfl
    have q4:decide (8192<zB8 l+x.sp.n)=true:=decide_eq_true h4
    rw[e4,er]
    simp (disch:=try exact SX) only[RV,seval,g0,g3,g40,g41,g,hct,w2,q4]
    exact⟨NIL,.inl ⟨rfl,rfl⟩,rfl⟩
   ·have e0:putE l x=0:=by rw[hiE,if_neg h4]
    have er:insR l x=insL l x:=by unfold insR;rw[if_pos e0]
    have q4:decide (8192<zB8 l+x.sp.n)=false:=decide_eq_false h4
    obtain⟨r',hr',hpart⟩:=zNZ (fuel:=fuel) (d:=d+2) hS hok.1 hx6 (by omega) (by omega)
    obtain⟨p1,p2,p3,p4⟩:=zPM hok.1 hx6
    have hpl:=zMC l x.af
    have hsk:=zWO (x:=x.sp.f) p1
    have hss:=fun h=>@zO8 (zBC l x.af).1 x.sp.f (zBC l x.af).2 h
    have hmt:=fun D hD i=>@zR4 (zBC l x.af).1 x (zBC l x.af).2 D hD i
    have eL:insL l x=zBU ((zBC l x.af).1.take (zFV (zBC l x.af).1 x.sp.f (zBC l x.af).2)++[x]++(zBC l x.af).1.drop (zFV (zBC l x.af).1 x.sp.f (zBC l x.af).2)):=rfl
    unfold zFV at hsk hss eL
    rw[e0,er,eL]
    generalize hD:((zBC l x.af).1.drop (zBC l x.af).2).takeWhile (fun q=>x.sp.f.less q.sp.f)=D at *
    have hmt:=fun i=>hmt D rfl (i:=i)
    generalize (zBC l x.af).1=l' at *
    generalize (zBC l x.af).2=n0 at *
    have lr':=hr'.len
    simp (disch:=try exact SX) only[RV,seval,g0,g3,g40,g41,g,hct,w2,q4,hpart]
    refine zBB (I:=fun n2 t2 N2 => ∃ (i2:Nat),n2=l'.length - n0 - i2/\i2<=l'.length - n0/\nth zA3 t2 0=r'/\nth zA3 t2 3 = .ptr 0 0/\nth zA3 t2 14=I64 ((n0+i2:Nat):Int)/\Wf N2/\N2.size<=70/\N2.get 0=some (.row false (rnR x ra))/\i2<=D.length) (n:=l'.length - n0) (by omega) ?_ ?_
    ·refine⟨0,rfl,Nat.zero_le _, ?_, ?_, ?_,w,by omega,g,Nat.zero_le _⟩ <;> simp (disch:=try exact SX) only[RV,seval,g0,g3]
     all_goals first | rfl | assumption | done
    ·rintro n2 t2 N2 hlt2 ⟨i2,rfl,hi2,g20,g23,g214,wf2,sz2,gg,hi2⟩
     simp only[hlt] at hlt2 ⊢
     have lgg:=Mem.get_lt gg
     by_cases hc2:n0+i2<l'.length
     ·have q2:decide (((n0+i2:Nat):Int)<l'.length)=true:=DT
      have w3:IntKind.i64.wrap (((n0+i2:Nat):Int)+1)=((n0+(i2+1):Nat):Int):=WI
      obtain⟨r2,hiad2,hre,hrl2⟩:=hr'.iad (n0+i2) hc2
      by_cases hd2:i2<D.length
      ·have hlt3:=(hmt i2 hd2 hc2).1
       generalize l'[n0+i2]=e2 at *
       obtain⟨rb,rfl,hrb,_⟩:=hre
       have hls:=fun M=>@zFQ fuel (d+8) x.sp.f e2.sp.f M
       rw[hlt3] at hls
       simp (disch:=try exact SX) only[RV,seval,g20,g23,g214,q2,lr',hiad2,gg,wf2,hls,w3]
       exact⟨hlt2,l'.length - n0 - (i2+1),by omega,i2+1,rfl,by omega,rfl,by omega⟩
      ·obtain rfl:i2=D.length:=by omega
       have hlt3:=hss hc2
       generalize l'[n0+D.length]=e2 at *
       obtain⟨rb,rfl,hrb,_⟩:=hre
       have hls:=fun M=>@zFQ fuel (d+8) x.sp.f e2.sp.f M
       rw[hlt3] at hls
       simp (disch:=try exact SX) only[RV,seval,g20,g23,g214,q2,lr',hiad2,gg,hls]
       refine zLA zDH.cel tf155 Tryz.underlying109 hr' (by omega) (by omega) (by simp (disch:=try exact SX) only[RV,seval,wf2]) fun o3 M3 wf3 le3 kp3 sn3 nr3 wm3 di3 sz3=>?_
       have hd3:M3.dirty=false:=di3
       have z0:M3.get 0=some (.row false (rnR x ra)):=(kp3 0 lgg).trans gg
       have lz0:=Mem.get_lt z0
       have sm3:=sn3.slm
       have on3:=sm3.one
       have oc3:=sm3.cells
       have rl3:=zB3 sm3.rl (Nat.le_refl M3.size)
       have rl3':=zB3 sm3.rl (Nat.le_succ M3.size)
       simp (disch:=try exact SX) only[RV,seval,zAB,g23,g214,hd3,z0,zaU,zBD]
       have sz3':M3.size<=N2.size+2:=sz3
       have hb0:Nat.ble N2.size 0=false:=by
        cases hb:Nat.ble N2.size 0 with
        | false=>rfl
        | true=>have:=Nat.le_of_ble_eq_true hb;omega
       refine⟨by simp [zBS,FP.apart,FP.reads,FP.writes,hb0],by simp [zBS,FP.apart,FP.reads,FP.writes], ?_⟩
       have eX:((N2.bk M3).add (.row false (rnR x ra))).lo=(⟨M3.t,M3.size,M3.size+1,false⟩:Mem).add (.row false (rnR x ra)):=rfl
       show W3 (insO _ (((N2.bk M3).add (.row false (rnR x ra))).lo) 154 10 80 o3 (I64 ((n0+D.length:Nat):Int)) (.sl M3.size 0 1 (some 1) 10)) _
       rw[eX]
       have wX:Wf (⟨M3.t,M3.size,M3.size+1,false⟩:Mem):=wf3
       have sX:(⟨M3.t,M3.size,M3.size+1,false⟩:Mem).size=M3.size:=rfl
       have snX:SlN (⟨M3.t,M3.size,M3.size+1,false⟩:Mem) 10 isRn o3 l':=sn3
       generalize (⟨M3.t,M3.size,M3.size+1,false⟩:Mem)=X3 at *
       have key:W3 (insO (zAF Tryz.prog (fsT tbl) fuel (d+10)) (X3.add (.row false (rnR x ra))) 154 10 80 o3 (I64 ((n0+D.length:Nat):Int)) (.sl M3.size 0 1 (some 1) 10)) (fun o4 M4=>SlM M4 10 isRn o4 (l'.take (n0+D.length)++[x]++l'.drop (n0+D.length))/\Wf M4):=by
        rw[<- sX]
        by_cases hz:l'=[]
        ·subst hz
         have e0:n0+D.length=0:=by simp only[List.length_nil] at hsk;omega
         rw[e0]
         have hc0:((0:Nat):Int)=0:=rfl
         rw[hc0]
         have h0':W3 (zCN fuel (d+10) 154 [o3,I64 0,.sl X3.size 0 1 (some 1) 10] (X3.add (.row false (rnR x ra)))) (fun o4 M4=>SlM M4 10 isRn o4 [x]/\Wf M4):=zQW (d:=d+9) wX snX ⟨ra,rfl,hR,hx⟩ rfl (fun o' M' a b _ _ _ _=>⟨a,b⟩)
         have e1:insO (zAF Tryz.prog (fsT tbl) fuel (d+10)) (X3.add (.row false (rnR x ra))) 154 10 80 o3 (I64 0) (.sl X3.size 0 1 (some 1) 10)=zCN fuel (d+10) 154 [o3,I64 0,.sl X3.size 0 1 (some 1) 10] (X3.add (.row false (rnR x ra))):=by
          rcases snX with⟨_,rfl | ⟨id,rfl,_⟩⟩ | ⟨hn,_⟩
          ·exact zLX ..
          ·exact zLW ..
          ·exact absurd rfl hn
         rw[e1]
         exact h0'
        ·exact snX.ins (bytes:=80) (g:=154) wX hz zDH.cel ⟨ra,rfl,hR,hx⟩ rfl (by omega) (by omega) (by omega) (by omega) (by omega) fun o' M' a b _ _ _=>⟨a,b⟩
       obtain⟨o4,M4,he4,sm4,wf4⟩:=key
       rw[he4]
       clear he4 eX hmt hss snX sn3 sm3 kp3 hno hwh hwa hck hcx hcl ia hj hpart hct
       have on4:=sm4.one
       have oc4:=sm4.cells
       have rl4:=zB3 sm4.rl (Nat.le_refl M4.size)
       simp (disch:=try exact SX) only[RV,seval]
       refine zMX (n:=d+9) (R:=fun r=>Sl 10 isRn r (zBU (l'.take (n0+D.length)++[x]++l'.drop (n0+D.length)))) tf153 rfl (sm4.keep fun _ _=>rfl) (show Wf _ from wf4) zDH (fun a' ha'=>?_) fun r X' hr wX' sX' kX'=>?_
       ·refine zGZ (d:=d+1) ha' (by simp only[List.length_append,List.length_take,List.length_drop,List.length_singleton];omega) (fun q hq=>?_) (by simp only[List.length_append,List.length_take,List.length_drop,List.length_singleton];omega)
        have hq64:q.rs.length<=64:=by
         rcases List.mem_append.1 hq with hq | hq
         ·rcases List.mem_append.1 hq with hq | hq
          ·exact zG1 p2 q (List.mem_of_mem_take hq)
          ·rw[List.mem_singleton] at hq;subst hq
           exact(Rn.may_iff.1 hxm).2.2.2.1
         ·exact zG1 p2 q (List.mem_of_mem_drop hq)
        omega
       ·simp (disch:=try exact SX) only[RV,seval,hr.fz.frz,zBD]
        exact⟨r,hr,rfl⟩
     ·obtain rfl:i2=D.length:=by omega
      have q2:decide (((n0+D.length:Nat):Int)<l'.length)=false:=DF
      simp (disch:=try exact SX) only[RV,seval,g20,g214,q2,lr']
      refine zLA zDH.cel tf155 Tryz.underlying109 hr' (by omega) (by omega) (by simp (disch:=try exact SX) only[RV,seval,wf2]) fun o3 M3 wf3 le3 kp3 sn3 nr3 wm3 di3 sz3=>?_
      have hd3:M3.dirty=false:=di3
      have z0:M3.get 0=some (.row false (rnR x ra)):=(kp3 0 lgg).trans gg
      have lz0:=Mem.get_lt z0
      have sm3:=sn3.slm
      have on3:=sm3.one
      have oc3:=sm3.cells
      have rl3:=zB3 sm3.rl (Nat.le_refl M3.size)
      have rl3':=zB3 sm3.rl (Nat.le_succ M3.size)
      simp (disch:=try exact SX) only[RV,seval,zAB,g23,g214,hd3,z0,zaU,zBD]
      have sz3':M3.size<=N2.size+2:=sz3
      have hb0:Nat.ble N2.size 0=false:=by
       cases hb:Nat.ble N2.size 0 with
       | false=>rfl
       | true=>have:=Nat.le_of_ble_eq_true hb;omega
      refine⟨by simp [zBS,FP.apart,FP.reads,FP.writes,hb0],by simp [zBS,FP.apart,FP.reads,FP.writes], ?_⟩
      have eX:((N2.bk M3).add (.row false (rnR x ra))).lo=(⟨M3.t,M3.size,M3.size+1,false⟩:Mem).add (.row false (rnR x ra)):=rfl
      show W3 (insO _ (((N2.bk M3).add (.row false (rnR x ra))).lo) 154 10 80 o3 (I64 ((n0+D.length:Nat):Int)) (.sl M3.size 0 1 (some 1) 10)) _
      rw[eX]
      have wX:Wf (⟨M3.t,M3.size,M3.size+1,false⟩:Mem):=wf3
      have sX:(⟨M3.t,M3.size,M3.size+1,false⟩:Mem).size=M3.size:=rfl
      have snX:SlN (⟨M3.t,M3.size,M3.size+1,false⟩:Mem) 10 isRn o3 l':=sn3
      generalize (⟨M3.t,M3.size,M3.size+1,false⟩:Mem)=X3 at *
      have key:W3 (insO (zAF Tryz.prog (fsT tbl) fuel (d+10)) (X3.add (.row false (rnR x ra))) 154 10 80 o3 (I64 ((n0+D.length:Nat):Int)) (.sl M3.size 0 1 (some 1) 10)) (fun o4 M4=>SlM M4 10 isRn o4 (l'.take (n0+D.length)++[x]++l'.drop (n0+D.length))/\Wf M4):=by
       rw[<- sX]
       by_cases hz:l'=[]
       ·subst hz
        have e0:n0+D.length=0:=by simp only[List.length_nil] at hsk;omega
        rw[e0]
        have hc0:((0:Nat):Int)=0:=rfl
        rw[hc0]
        have h0':W3 (zCN fuel (d+10) 154 [o3,I64 0,.sl X3.size 0 1 (some 1) 10] (X3.add (.row false (rnR x ra)))) (fun o4 M4=>SlM M4 10 isRn o4 [x]/\Wf M4):=zQW (d:=d+9) wX snX ⟨ra,rfl,hR,hx⟩ rfl (fun o' M' a b _ _ _ _=>⟨a,b⟩)
        have e1:insO (zAF Tryz.prog (fsT tbl) fuel (d+10)) (X3.add (.row false (rnR x ra))) 154 10 80 o3 (I64 0) (.sl X3.size 0 1 (some 1) 10)=zCN fuel (d+10) 154 [o3,I64 0,.sl X3.size 0 1 (some 1) 10] (X3.add (.row false (rnR x ra))):=by
         rcases snX with⟨_,rfl | ⟨id,rfl,_⟩⟩ | ⟨hn,_⟩
         ·exact zLX ..
         ·exact zLW ..
         ·exact absurd rfl hn
        rw[e1]
        exact h0'
       ·exact snX.ins (bytes:=80) (g:=154) wX hz zDH.cel ⟨ra,rfl,hR,hx⟩ rfl (by omega) (by omega) (by omega) (by omega) (by omega) fun o' M' a b _ _ _=>⟨a,b⟩
      obtain⟨o4,M4,he4,sm4,wf4⟩:=key
      rw[he4]
      clear he4 eX hmt hss snX sn3 sm3 kp3 hno hwh hwa hck hcx hcl ia hj hpart hct
      have on4:=sm4.one
      have oc4:=sm4.cells
      have rl4:=zB3 sm4.rl (Nat.le_refl M4.size)
      simp (disch:=try exact SX) only[RV,seval]
      refine zMX (n:=d+9) (R:=fun r=>Sl 10 isRn r (zBU (l'.take (n0+D.length)++[x]++l'.drop (n0+D.length)))) tf153 rfl (sm4.keep fun _ _=>rfl) (show Wf _ from wf4) zDH (fun a' ha'=>?_) fun r X' hr wX' sX' kX'=>?_
      ·refine zGZ (d:=d+1) ha' (by simp only[List.length_append,List.length_take,List.length_drop,List.length_singleton];omega) (fun q hq=>?_) (by simp only[List.length_append,List.length_take,List.length_drop,List.length_singleton];omega)
       have hq64:q.rs.length<=64:=by
        rcases List.mem_append.1 hq with hq | hq
        ·rcases List.mem_append.1 hq with hq | hq
         ·exact zG1 p2 q (List.mem_of_mem_take hq)
         ·rw[List.mem_singleton] at hq;subst hq
          exact(Rn.may_iff.1 hxm).2.2.2.1
        ·exact zG1 p2 q (List.mem_of_mem_drop hq)
       omega
      ·simp (disch:=try exact SX) only[RV,seval,hr.fz.frz,zBD]
       exact⟨r,hr,rfl⟩):p:=h
theorem zB01{p:Prop}(h:p:=by
 refine zNR zLT wY l2 y2 hset x.1 fun obj' hset'=>?_
 simp only[c5,if_false] at hset'
 simp (disch:=try exact SX) only[RV,seval,zAB,g3,g5,y1,ya]
 refine⟨spY.rows (by omega),SlP.app1 (bytes:=24) (x:=x.1) (wY.upd 2 obj') (spY.keep fun j hj=>zA0 wY _ _ _ (by have:=(ro j (ro' ▸ hj)).2;omega)) zID ⟨rfl,hx⟩ rfl (by omega) (by rw[List.length_reverse];omega) (by rw[List.length_reverse];omega) fun o2 M2 sp2 w2 le2 kp2 nw2 rl2 on2 oc2=>?_⟩
 rw[zA7] at le2 kp2 nw2
 have hS:ordS x (stk pre) (pre.map (·.1))=true:=by
  unfold ordS
  rw[hpop]
  simp [*]
 have hst:(stk (pre++[x])).reverse=q.reverse++[x.1]:=by rw[zES,hpop,List.reverse_cons]
 have ro2:∀ j,rowOf o'=some j->O j/\7<=j:=fun j hj=>ro j (ro' ▸ hj)
 have k2:∀ j,j<M.size->j≠1->j≠2->j≠6->rowOf o'≠some j->M2.get j=M.get j:=fun j a b c e f=>by
  rw[kp2 j (by omega) f,zA0 wY _ _ _ (fun e=>c e.symm)]
  exact yj j a b e
 have m6:M2.get 6=some (.loop .busy none tm [12,13] cO1 cO2 5):=by
  rw[kp2 6 (by omega) (fun e=>by have:=(ro2 6 e).2;omega),zA0 wY _ _ _ (by omega)]
  exact y6
 have m2:M2.get 2=some obj':=by
  rw[kp2 2 (by omega) (fun e=>by have:=(ro2 2 e).2;omega)]
  exact zAC wY _ _ l2
 have m1:1<M2.size:=by omega
 have n1:M2.get 1=some (.row false [o']):=by
  rw[kp2 1 (by omega) (fun e=>by have:=(ro2 1 e).2;omega),zA0 wY _ _ _ (by omega)]
  exact y1
 simp (disch:=try exact SX) only[RV,seval,g3,oc2,w2,m6,n1]
 have yl:Yl (OI tm) (pre++[x]) O B M ((M2.upd 1 (.row false [o2])).upd 6 (.loop .ready none tm [12,13] cO1 cO2 5)):=by
  have wZ:=w2.upd 1 (.row false [o2])
  have zk:∀ j,j≠1->j≠6->((M2.upd 1 (.row false [o2])).upd 6 (.loop .ready none tm [12,13] cO1 cO2 5)).get j=M2.get j:=fun j a b=>by
   rw[zA0 wZ _ _ _ (fun e=>b e.symm),zA0 w2 _ _ _ (fun e=>a e.symm)]
  have nro:∀ j,j<7->rowOf o'≠some j:=fun j hj e=>by have:=(ro2 j e).2;omega
  have no2:∀ j,rowOf o2=some j->7<=j/\(O j∨M.size<=j):=fun j hj=>by
   rcases nw2 j hj with e | e
   ·exact⟨(ro2 j e).2,.inl (ro2 j e).1⟩
   ·exact⟨by omega,.inr (by omega)⟩
  refine⟨⟨fun j=>O j∨rowOf o2=some j,⟨wZ.upd _ _,by simp only[zA7];omega, ?_,⟨o2, ?_, ?_,fun j hj=>⟨.inr hj,(no2 j hj).1⟩⟩,⟨obj', ?_, ?_⟩, ?_, ?_, ?_,.inl h.o1,.inl h.o2,.inl h.o6, ?_,h.od.snoc hS⟩, ?_⟩,wZ.upd _ _,by simp only[zA7];omega, ?_⟩
  ·rw[zk 0 (by omega) (by omega),k2 0 (by omega) (by omega) (by omega) (by omega) (nro 0 (by omega))];exact h.g0
  ·rw[zA0 wZ _ _ _ (by omega)];exact zAC w2 _ _ m1
  ·rw[hst]
   exact sp2.keep fun j hj=>zk j (by have:=(no2 j hj).1;omega) (by have:=(no2 j hj).1;omega)
  ·rw[zk 2 (by omega) (by omega)];exact m2
  ·rw[List.map_append];exact hset'
  ·rw[zk 3 (by omega) (by omega),k2 3 (by omega) (by omega) (by omega) (by omega) (nro 3 (by omega))];exact h.g3
  ·rw[zk 5 (by omega) (by omega),k2 5 (by omega) (by omega) (by omega) (by omega) (nro 5 (by omega))];exact h.g5
  ·exact zAC wZ _ _ (by simp only[zA7];omega)
  ·intro j hj
   simp only[zA7]
   rcases hj with hj | hj
   ·exact⟨by have:=(h.ol j hj).1;omega,(h.ol j hj).2⟩
   ·exact⟨sp2.lt j hj,.inr (.inr (by have:=(no2 j hj).1;omega))⟩
  ·rintro j (hj | hj)
   ·exact .inl hj
   ·exact(no2 j hj).2
  ·intro j hj hO
   have h1:j≠1:=fun e=>hO (e ▸ h.o1)
   have h2:j≠2:=fun e=>hO (e ▸ h.o2)
   have h6:j≠6:=fun e=>hO (e ▸ h.o6)
   rw[zk j h1 h6]
   exact k2 j hj h1 h2 h6 fun e=>hO (ro2 j e).1
 exact⟨_,_,_,_,_,_,_,rfl,.inl (.inl yl)⟩):p:=h
theorem zB02{p:Prop}(h:p:=by
 have os:OS tm ((Y.upd 0 (.row false [BL false])).upd 6 (.loop .done (some .ret) tm [12,13] cO1 cO2 5)):=by
  refine⟨(wY.upd _ _).upd _ _,by simp only[zA7];omega, ?_, ?_, ?_⟩
  ·rw[zA0 (wY.upd _ _) _ _ _ (by omega)]
   exact zAC wY _ _ l0
  ·rw[zA0 (wY.upd _ _) _ _ _ (by omega),zA0 wY _ _ _ (by omega)]
   exact(yj 5 (by omega) (by omega) (by omega)).trans h.g5
  ·exact zAC (wY.upd _ _) _ _ (by simp only[zA7];omega)
 refine⟨_,_,_,_,_,_,_,y6,.inr (.inr ?_)⟩
 first
 | exact os
 | exact⟨os,by simp [*]⟩):p:=h
theorem zB03{p:Prop}(h:p:=by
 by_cases q1:rofE o=0
 ·have k2:=(kN.add (.row false (rnR ⟨⟨Eid.z,0⟩,Eid.z,[]⟩ NIL))).upd hw kN.le (.row false (rnR rn r2))
  have z0:((N.add (.row false (rnR ⟨⟨Eid.z,0⟩,Eid.z,[]⟩ NIL))).upd N.size (.row false (rnR rn r2))).get M.size=some (.row false [.ptr id 0]):=by
   rw[zA0 (wN.add _) _ _ _ (by omega),zAA wN _ _ l0];exact g0
  have z1:((N.add (.row false (rnR ⟨⟨Eid.z,0⟩,Eid.z,[]⟩ NIL))).upd N.size (.row false (rnR rn r2))).get (M.size+1)=some (.row false (opR o ra)):=by
   rw[zA0 (wN.add _) _ _ _ (by omega),zAA wN _ _ l1];exact g1
  have q1':decide (rofE o=0)=true:=decide_eq_true q1
  simp (disch:=try exact SX) only[RV,seval,g1,q1',hn]
  generalize ((N.add (.row false (rnR ⟨⟨Eid.z,0⟩,Eid.z,[]⟩ NIL))).upd N.size (.row false (rnR rn r2)))=X2 at *
  have w2:=k2.wf
  have s2:=k2.le
  have hH2:IsHist X2 B id m ops l:=hH.keep fun j hj=>k2.get j hj
  have m0:=Mem.get_lt z0
  refine zLP (st:=4) (ag:=true) (n:=d+6) (first:=[]) (cap:=[.ptr M.size 0]) tf198 tf232 (by simp) zNE hr (by omega) (by omega) (p:=fun x=>decide (x∈zAO l)) w2 (fun n hn=>by simp (disch:=try exact SX) only[RV,seval]) (fun r x hr _ N Q' hk hQ=>?_) fun N3 h3=>?_
  ·obtain⟨rfl,_⟩:=hr
   refine zbD (d:=d+5) (B:=B) (m:=m) (ops:=ops) (hH2.keep fun j hj=>hk.get j hj) hk.wf ((hk.get _ m0).trans z0) fun N' hk'=>hQ N' (hk.trans hk')
  ·have k3:=k2.trans h3
   have y0:=(h3.get _ m0).trans z0
   have y1:=(h3.get _ (Mem.get_lt z1)).trans z1
   have w3:=h3.wf
   have hH3:IsHist N3 B id m ops l:=hH.keep fun j hj=>k3.get j hj
   have hg3:=hH3.hg
   have li3:=Mem.get_lt hg3
   have n0:=Mem.get_lt y0
   have n1:=Mem.get_lt y1
   obtain⟨obj,mg,hset⟩:=hH3.mg
   have lm:=Mem.get_lt mg
   have hml:=zbP mg hset
   cases q2:o.sp.ids.any fun x=>decide (x∈zAO l) with
   | true =>
    rw[if_pos (.inr q2)] at k
    simp (disch:=try exact SX) only[RV,seval]
    exact k _ k3
   | false =>
    rw[if_neg (by simp [q1,q2])] at k
    have w1:IntKind.i64.wrap (((zAO l).length:Int)+o.sp.n)=((zAO l).length:Int)+o.sp.n:=wrap_i64 (by omega) (by omega)
    by_cases q3:8192<((zAO l).length:Int)+o.sp.n
    ·rw[if_pos q3] at k
     have q3':=decide_eq_true q3
     simp (disch:=try exact SX) only[RV,seval,y0,y1,hg3,x_ml,hml,w1,q3']
     exact k _ k3
    ·rw[if_neg q3] at k
     have q3':=decide_eq_false q3
     simp (disch:=try exact SX) only[RV,seval,y0,y1,hg3,x_ml,hml,w1,q3']
     exact k _ k3
 ·have q1':decide (rofE o=0)=false:=decide_eq_false q1
  rw[if_pos (.inl q1)] at k
  simp (disch:=try exact SX) only[RV,seval,q1']
  exact k _ ((kN.add _).upd hw kN.le _)):p:=h
theorem zB04{p:Prop}(h:p:=by
 simp (disch:=try exact SX) only[RV,seval]):p:=h
theorem zB05{p:Prop}(h:p:=by
 by_cases q2:2048<=l.length
 ·rw[if_pos q2] at k
  have q2':decide ((2048:Int)<=l.length)=true:=DT
  simp (disch:=try exact SX) only[RV,seval,h0,hd,q1',hg,ll,q2']
  exact k _ kN
 ·rw[if_neg q2] at k
  have q2':decide ((2048:Int)<=l.length)=false:=DF
  simp (disch:=try exact SX) only[RV,seval,h0,hd,hg,ll,q2',q1]
  exact k _ kN):p:=h
theorem zB06{p:Prop}(h:p:=by
 refine app1 (bytes:=80) (x:=e) ((w.add _).upd _ _) (sm.keep fun j hj=>?_) zDH ⟨rt,rfl,hrt,hok⟩ rfl (by omega) (by omega) (by omega) fun o' M' sm' w' le' kp nw wm' rl on oc'=>?_
 ·have:=sm.lt j hj
  rw[zA0 (w.add _) _ _ _ (by omega),zAA w _ _ this]
 simp (disch:=try exact SX) only[RV,seval,g2,g13,g14,g15,w1]
 exact⟨hlt,l.length - (i+1),by omega,i+1,o',rfl,by omega,rfl,rfl,fin e o' M' hts rfl sm' w'⟩):p:=h
theorem zB07{p:Prop}(h:p:=by
 simp only[PT.iss,PT.is]
 exact⟨[.int .u8 a0,.int .u32 a1,.int .u8 a2],[.int .i64 a3],rfl,⟨[.int .u8 a0,.int .u32 a1],[.int .u8 a2],rfl,⟨[.int .u8 a0],[.int .u32 a1],rfl,⟨_,rfl⟩,⟨[.int .u32 a1],[],rfl,⟨_,rfl⟩,rfl⟩⟩,⟨[.int .u8 a2],[],rfl,⟨_,rfl⟩,rfl⟩⟩,⟨[.int .i64 a3],[],rfl,⟨_,rfl⟩,rfl⟩⟩):p:=h
theorem zB08{p:Prop}(h:p:=by
 exact⟨_,⟨NIL,rfl,.inl ⟨rfl,rfl⟩⟩,rfl⟩):p:=h
theorem zB09{p:Prop}(h:p:=by
 exact k _ ((Kept.refl wf).add _)):p:=h
theorem zB0a{p:Prop}(h:p:=by
 have q1:decide ((l.length:Int)=m.length)=false:=by simp;omega
 have q3:decide (l=m)=false:=by
  simp only[decide_eq_false_iff_not]
  rintro rfl;exact hll rfl
 simp (disch:=try exact SX) only[RV,seval,h0,h1,hla,hlb,q1,q3]):p:=h
theorem zB0b{p:Prop}(h:p:=by
 simp only[PT.iss,PT.is]
 exact⟨[.int .u8 a0,.int .u32 a1],[.int .u8 a2],rfl,⟨[.int .u8 a0],[.int .u32 a1],rfl,⟨_,rfl⟩,⟨[.int .u32 a1],[],rfl,⟨_,rfl⟩,rfl⟩⟩,⟨[.int .u8 a2],[],rfl,⟨_,rfl⟩,rfl⟩⟩):p:=h
theorem zB0c{p:Prop}(h:p:=by
 rw[zA0 wN2 _ _ _ (by omega),hS.get j (by have:=kM.le;omega) (fun h=>?_),kM.get j hj]
 rcases h with h | h | h
 ·have:=hBD _ (.inr (.inl h));omega
 ·have:=hBD _ (.inr (.inr h));omega
 ·omega):p:=h
theorem zB0d{p:Prop}(h:p:=by
 rcases h with h | h | h
 ·have:=hBD j (.inl h);omega
 ·have:=hBD j (.inr (.inl h));omega
 ·rcases hD2 j h with h | h
  ·have:=hBD j (.inr (.inr h));omega
  ·have:=kM.le;omega):p:=h
theorem zB0e{p:Prop}(h:p:=by
 have:decide (l=m)=true:=by
  simp only[decide_eq_true_eq]
  rw[show i=l.length by omega,List.take_length] at tk
  rw[tk,show l.length=m.length from hll,List.take_length]
 rw[this]):p:=h
theorem zB0f{p:Prop}(h:p:=by
 congr 4
 rw[Bool.eq_iff_iff]
 simp [and_assoc]):p:=h
theorem zB0g{p:Prop}(h:p:=by
 refine⟨hlt,l.length - (i+1),by omega,i+1,rfl,by omega,rfl, ?_⟩
 rw[List.take_add_one,List.take_add_one,tk,List.getElem?_eq_getElem hlt',List.getElem?_eq_getElem hmt,he]):p:=h
theorem zB0h{p:Prop}(h:p:=by
 simp (disch:=try exact SX) only[RV,seval,g0,g1,g2,g3,g9,g10,g11,q1,hiad,m5,hh,c1,w1]
 exact⟨hlt,l.length - (i+1),by omega,i+1,o,rfl,by omega,rfl,by rw[hsn];exact mA⟩):p:=h
theorem zB0i{p:Prop}(h:p:=by
 rw[Bool.eq_iff_iff,he]
 simp [and_assoc]):p:=h
theorem zB0j{p:Prop}(h:p:=by
 rw[if_neg (by rintro⟨_,h⟩;omega),zE1 (by omega) (by omega) (by omega) (by omega)];rfl):p:=h
theorem zB0k{p:Prop}(h:p:=by
 exact⟨hltq,W.length+row.length - (iq+1),by omega,iq+1,0,rfl,by omega,rfl,m1⟩):p:=h
theorem zB0l{p:Prop}(h:p:=by
 simp (disch:=try exact SX) only[RV,reduceIte,Nat.reduceEqDiff,Nat.reduceBEq,Nat.reduceAdd,Int.reduceEq,h0,h1,hck,hch,zAU,zBA,zC5,BMM,IMX]
 rfl):p:=h
theorem zB0m{p:Prop}(h:p:=by
 simp only[List.map_cons,List.map_nil,List.cons.injEq,zIE,and_true];omega):p:=h
theorem zB0n{p:Prop}(h:p:=by
 rintro (((h | h) | h) | h)
 ·exact .inl (.inl (.inl h))
 ·exact .inl (.inl (.inr h))
 ·exact .inr h
 ·exact .inl (.inr h)):p:=h
theorem zB0o{p:Prop}(h:p:=by
 have e:r=(decide (a0=b0)&&decide (a1=b1)&&decide (a2=b2)&&decide (a3=b3)&&decide (a4=b4)):=by
  exact zB0i
 rw[<- e]
 exact hr):p:=h
theorem zB0p{p:Prop}(h:p:=by
 simp (disch:=try exact SX) only[RV,seval,h0,hl,hr,zBA,Bool.false_and]):p:=h
theorem zB0q{p:Prop}(h:p:=by
 have hym:=hm y List.mem_cons_self
 rcases ha with⟨rfl,rfl⟩ | ha
 ·exact .root hym h1
 ·exact .step hym (h1 ▸ ha)):p:=h
theorem zB0r{p:Prop}(h:p:=by
 rintro⟨h1,h2⟩
 refine⟨h1, ?_⟩
 rw[h2,h1]
 simp only[Spn.at]
 rw[wrap_i64 (by omega) (by omega)]
 congr 1;omega):p:=h
theorem zB0s{p:Prop}(h:p:=by
 unfold Spn.has
 rw[if_neg]
 rintro⟨_,_,h1,h2⟩
 rw[wrap_i64 (by omega) (by omega)] at hw
 omega):p:=h
theorem zB0t{p:Prop}(h:p:=by
 simp only[PT.iss,PT.is]
 exact⟨[.int .u8 a0],[.int .u32 a1],rfl,⟨_,rfl⟩,⟨[.int .u32 a1],[],rfl,⟨_,rfl⟩,rfl⟩⟩):p:=h
theorem zB0u{p:Prop}(h:p:=by
 have:decide (l=m)=false:=by
  simp only[decide_eq_false_iff_not]
  rintro rfl;exact he rfl
 rw[this]):p:=h
theorem zB0v{p:Prop}(h:p:=by
 simp (disch:=try exact SX) only[RV,seval,hd,q1']
 exact k _ kN):p:=h
theorem zB0w{p:Prop}(h:p:=by
 have e:r=(decide (a0=b0)&&decide (a1=b1)&&decide (a2=b2)&&decide (a3=b3)):=by
  exact zB0i
 rw[<- e]
 exact hr):p:=h
theorem zB0x{p:Prop}(h:p:=by
 rcases List.mem_append.1 hy with hy | hy
 ·exact h2 y hy
 ·rw[List.mem_singleton] at hy;subst hy;exact h1x):p:=h
theorem zB0y{p:Prop}(h:p:=by
 simp only[hdR,List.mem_cons,List.not_mem_nil,or_false] at hy
 rcases hy with rfl | rfl | rfl <;> exact zC1 _ _):p:=h
theorem zB0z{p:Prop}(h:p:=by
 simp only[List.length_append,List.length_singleton]
 omega):p:=h
theorem zB0A{p:Prop}(h:p:=by
 have e:r=(decide (a0=b0)&&decide (a1=b1)):=by
  rw[Bool.eq_iff_iff,he]
  simp []
 rw[<- e]
 exact hr):p:=h
theorem zB0B{p:Prop}(h:p:=by
 rw[zB0,zB0,zA0 wZ _ _ _ (fun e=>(hxo j (.inr (.inl hB))).1 e.symm),kp j hj (fun h=>(hO.ap j).2 hB (eD j h))]):p:=h
theorem zB0C{p:Prop}(h:p:=by
 simp (disch:=try exact SX) only[RV,seval]
 exact k _ kN):p:=h
theorem zB0D{p:Prop}(h:p:=by
 have:l=[]:=List.eq_nil_of_length_eq_zero (by omega)
 subst this
 rw[zJC] at e
 cases e
 cases hx):p:=h
theorem zB0E{p:Prop}(h:p:=by
 have e:r=(decide (a0=b0)&&decide (a1=b1)&&decide (a2=b2)):=by
  exact zB0i
 rw[<- e]
 exact hr):p:=h
theorem zB0F{p:Prop}(h:p:=by
 induction l with
 | nil=>rfl
 | cons x l ih=>simp only[List.any_cons,List.all_cons,ih,Bool.not_and]):p:=h
theorem zB0G{p:Prop}(h:p:=by
 simp (disch:=try exact SX) only[RV,seval,zAB,h0,↓pIdE,zB2,ETA,q1,hc,hs,q3,q4,q5,ll,hr,zAU,zBA]):p:=h
end Go.Proofs.YtliicocdhkcanaaGreat
