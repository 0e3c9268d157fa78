/-
 The program's functions, as the executor has them: the table.
-/
import Derived.Test.YtdgikiebohcohaaRows
import Derived.Test.YtdgikiebohcohaaEg
set_option linter.unusedSimpArgs false
set_option linter.unusedVariables false
set_option maxRecDepth 100000
namespace Go.Ax.E
open Go Go.Ax
def t (n:Nat):Operand:=.tmp n
def o (d:Nat)(x:AOp):AOper:=⟨some d,x,none,[]⟩
def u (d:Nat)(x:AOp)(l:List Nat):AOper:=⟨some d,x,none,l⟩
def p (d:Nat)(x:AOp)(g:Nat)(l:List Nat):AOper:=⟨some d,x,some (g,true),l⟩
def q (d:Nat)(x:AOp)(g:Nat)(l:List Nat):AOper:=⟨some d,x,some (g,false),l⟩
def O (x:AOp):AOper:=⟨none,x,none,[]⟩
def U (x:AOp)(l:List Nat):AOper:=⟨none,x,none,l⟩
def S (a b:ACode):ACode:=.seq a b
def R (l:List AOper):ACode:=.region l false
def D (l:List AOper):ACode:=.region l true
def C (n:Nat)(a b:ACode):ACode:=.cond (.tmp n) a b
def K:ACode:=.skip
def N:ACode:=.ret
def X (n:Nat):ACode:=.exit n
def B (n:Nat)(a:ACode):ACode:=.block n a
def L (a:ACode):ACode:=.loop a
def m_ (a:Nat):AOp:=.mov (.tmp a)
def m (D:Nat)(a:Nat):AOper:=⟨some D,.mov (.tmp a),none,[]⟩
def m' (D:Nat)(a:Nat)(U:List Nat):AOper:=⟨some D,.mov (.tmp a),none,U⟩
def n_ (k:Int):AOp:=.mov (.const (.int .i64 k))
def n (D:Nat)(k:Int):AOper:=⟨some D,.mov (.const (.int .i64 k)),none,[]⟩
def n' (D:Nat)(k:Int)(U:List Nat):AOper:=⟨some D,.mov (.const (.int .i64 k)),none,U⟩
def bt_:AOp:=.mov (.const (.bool true))
def bt (D:Nat):AOper:=⟨some D,.mov (.const (.bool true)),none,[]⟩
def bt' (D:Nat)(U:List Nat):AOper:=⟨some D,.mov (.const (.bool true)),none,U⟩
def bf_:AOp:=.mov (.const (.bool false))
def bf (D:Nat):AOper:=⟨some D,.mov (.const (.bool false)),none,[]⟩
def bf' (D:Nat)(U:List Nat):AOper:=⟨some D,.mov (.const (.bool false)),none,U⟩
def z_:AOp:=.mov (.const (.slice none 0 0))
def z (D:Nat):AOper:=⟨some D,.mov (.const (.slice none 0 0)),none,[]⟩
def z' (D:Nat)(U:List Nat):AOper:=⟨some D,.mov (.const (.slice none 0 0)),none,U⟩
def l_ (k a:Nat):AOp:=.load k true (.tmp a)
def l (D:Nat)(k a:Nat):AOper:=⟨some D,.load k true (.tmp a),none,[]⟩
def l' (D:Nat)(k a:Nat)(U:List Nat):AOper:=⟨some D,.load k true (.tmp a),none,U⟩
def f_ (k a:Nat):AOp:=.load k false (.tmp a)
def f (D:Nat)(k a:Nat):AOper:=⟨some D,.load k false (.tmp a),none,[]⟩
def f' (D:Nat)(k a:Nat)(U:List Nat):AOper:=⟨some D,.load k false (.tmp a),none,U⟩
def d_ (k a:Nat):AOp:=.fad k (.tmp a)
def d (D:Nat)(k a:Nat):AOper:=⟨some D,.fad k (.tmp a),none,[]⟩
def d' (D:Nat)(k a:Nat)(U:List Nat):AOper:=⟨some D,.fad k (.tmp a),none,U⟩
def e_ (a i:Nat):AOp:=.ext (.tmp a) i
def e (D:Nat)(a i:Nat):AOper:=⟨some D,.ext (.tmp a) i,none,[]⟩
def e' (D:Nat)(a i:Nat)(U:List Nat):AOper:=⟨some D,.ext (.tmp a) i,none,U⟩
def k_ (a:Nat):AOp:=.len (.tmp a)
def k (D:Nat)(a:Nat):AOper:=⟨some D,.len (.tmp a),none,[]⟩
def k' (D:Nat)(a:Nat)(U:List Nat):AOper:=⟨some D,.len (.tmp a),none,U⟩
def b_ (k a:Nat):AOp:=.box k (.tmp a)
def b (D:Nat)(k a:Nat):AOper:=⟨some D,.box k (.tmp a),none,[]⟩
def b' (D:Nat)(k a:Nat)(U:List Nat):AOper:=⟨some D,.box k (.tmp a),none,U⟩
def i_ (k a c:Nat):AOp:=.iad k (.tmp a) (.tmp c)
def i (D:Nat)(k a c:Nat):AOper:=⟨some D,.iad k (.tmp a) (.tmp c),none,[]⟩
def i' (D:Nat)(k a c:Nat)(U:List Nat):AOper:=⟨some D,.iad k (.tmp a) (.tmp c),none,U⟩
def ca_ (f a:Nat):AOp:=.call (.func f) [.tmp a]
def ca (D:Nat)(f a:Nat):AOper:=⟨some D,.call (.func f) [.tmp a],none,[]⟩
def ca' (D:Nat)(f a:Nat)(U:List Nat):AOper:=⟨some D,.call (.func f) [.tmp a],none,U⟩
def cb_ (f a b:Nat):AOp:=.call (.func f) [.tmp a,.tmp b]
def cb (D:Nat)(f a b:Nat):AOper:=⟨some D,.call (.func f) [.tmp a,.tmp b],none,[]⟩
def cb' (D:Nat)(f a b:Nat)(U:List Nat):AOper:=⟨some D,.call (.func f) [.tmp a,.tmp b],none,U⟩
def cd_ (f a b c:Nat):AOp:=.call (.func f) [.tmp a,.tmp b,.tmp c]
def cd (D:Nat)(f a b c:Nat):AOper:=⟨some D,.call (.func f) [.tmp a,.tmp b,.tmp c],none,[]⟩
def cd' (D:Nat)(f a b c:Nat)(U:List Nat):AOper:=⟨some D,.call (.func f) [.tmp a,.tmp b,.tmp c],none,U⟩
def s_ (k a c:Nat):AOp:=.store k (.tmp a) (.tmp c)
def s (k a c:Nat):AOper:=⟨none,.store k (.tmp a) (.tmp c),none,[]⟩
def s' (k a c:Nat)(U:List Nat):AOper:=⟨none,.store k (.tmp a) (.tmp c),none,U⟩
def x_ (a c:Nat):AOp:=.pick (.tmp a) (.tmp c) (.const (.bool false))
def x (D:Nat)(a c:Nat):AOper:=⟨some D,.pick (.tmp a) (.tmp c) (.const (.bool false)),none,[]⟩
def x' (D:Nat)(a c:Nat)(U:List Nat):AOper:=⟨some D,.pick (.tmp a) (.tmp c) (.const (.bool false)),none,U⟩
def y_ (a c:Nat):AOp:=.pick (.tmp a) (.const (.bool true)) (.tmp c)
def y (D:Nat)(a c:Nat):AOper:=⟨some D,.pick (.tmp a) (.const (.bool true)) (.tmp c),none,[]⟩
def y' (D:Nat)(a c:Nat)(U:List Nat):AOper:=⟨some D,.pick (.tmp a) (.const (.bool true)) (.tmp c),none,U⟩
def v_ (o:BinOp)(q a c r s:Nat):AOp:=.pur (mkO (.binOp o q (.tmp a) (.tmp c) r) s)
def v (D:Nat)(o:BinOp)(q a c r s:Nat):AOper:=⟨some D,.pur (mkO (.binOp o q (.tmp a) (.tmp c) r) s),none,[]⟩
def v' (D:Nat)(o:BinOp)(q a c r s:Nat)(U:List Nat):AOper:=⟨some D,.pur (mkO (.binOp o q (.tmp a) (.tmp c) r) s),none,U⟩
def w_ (o:BinOp)(q a:Nat)(k:Int)(r s:Nat):AOp:=.pur (mkO (.binOp o q (.tmp a) (.const (.int .i64 k)) r) s)
def w (D:Nat)(o:BinOp)(q a:Nat)(k:Int)(r s:Nat):AOper:=⟨some D,.pur (mkO (.binOp o q (.tmp a) (.const (.int .i64 k)) r) s),none,[]⟩
def w' (D:Nat)(o:BinOp)(q a:Nat)(k:Int)(r s:Nat)(U:List Nat):AOper:=⟨some D,.pur (mkO (.binOp o q (.tmp a) (.const (.int .i64 k)) r) s),none,U⟩
def j_ (q a s:Nat):AOp:=.pur (mkO (.unOp .not q (.tmp a)) s)
def j (D:Nat)(q a s:Nat):AOper:=⟨some D,.pur (mkO (.unOp .not q (.tmp a)) s),none,[]⟩
def j' (D:Nat)(q a s:Nat)(U:List Nat):AOper:=⟨some D,.pur (mkO (.unOp .not q (.tmp a)) s),none,U⟩
def Z0:Value:=.agg #[(.int .u8 0),(.int .u32 0),(.int .u8 0),(.int .i64 0),(.int .i64 0),(.int .u8 0),(.int .u32 0),(.int .u8 0),(.int .i64 0),(.slice none 0 0)]
def Z1:Value:=.agg #[(.int .u8 0),(.int .u32 0),(.int .u8 0),(.int .i64 0),(.int .i64 0)]
def Z2:Value:=.agg #[(.int .u8 0),(.int .u32 0),(.int .u8 0),(.int .i64 0),(.int .u8 0),(.int .u32 0),(.int .u8 0),(.int .i64 0),(.int .i32 0)]
def Z3:Value:=.agg #[(.int .u8 0),(.int .u32 0),(.int .u8 0),(.int .i64 0)]
def Z4:Value:=.agg #[(.int .u8 0),(.int .u32 0)]
end Go.Ax.E
structure Go.Ax.TbD (x:Go.Ax.ACode) where
 c:Go.Ax.ACode
 h:x=c:=by first | (dsimp only[Go.Ax.E.t,Go.Ax.E.o,Go.Ax.E.u,Go.Ax.E.p,Go.Ax.E.q,Go.Ax.E.O,Go.Ax.E.U,Go.Ax.E.S,Go.Ax.E.R,Go.Ax.E.D,Go.Ax.E.C,Go.Ax.E.K,Go.Ax.E.N,Go.Ax.E.X,Go.Ax.E.B,Go.Ax.E.L,Go.Ax.E.m_,Go.Ax.E.m,Go.Ax.E.m',Go.Ax.E.n_,Go.Ax.E.n,Go.Ax.E.n',Go.Ax.E.bt_,Go.Ax.E.bt,Go.Ax.E.bt',Go.Ax.E.bf_,Go.Ax.E.bf,Go.Ax.E.bf',Go.Ax.E.z_,Go.Ax.E.z,Go.Ax.E.z',Go.Ax.E.l_,Go.Ax.E.l,Go.Ax.E.l',Go.Ax.E.f_,Go.Ax.E.f,Go.Ax.E.f',Go.Ax.E.d_,Go.Ax.E.d,Go.Ax.E.d',Go.Ax.E.e_,Go.Ax.E.e,Go.Ax.E.e',Go.Ax.E.k_,Go.Ax.E.k,Go.Ax.E.k',Go.Ax.E.b_,Go.Ax.E.b,Go.Ax.E.b',Go.Ax.E.i_,Go.Ax.E.i,Go.Ax.E.i',Go.Ax.E.ca_,Go.Ax.E.ca,Go.Ax.E.ca',Go.Ax.E.cb_,Go.Ax.E.cb,Go.Ax.E.cb',Go.Ax.E.cd_,Go.Ax.E.cd,Go.Ax.E.cd',Go.Ax.E.s_,Go.Ax.E.s,Go.Ax.E.s',Go.Ax.E.x_,Go.Ax.E.x,Go.Ax.E.x',Go.Ax.E.y_,Go.Ax.E.y,Go.Ax.E.y',Go.Ax.E.v_,Go.Ax.E.v,Go.Ax.E.v',Go.Ax.E.w_,Go.Ax.E.w,Go.Ax.E.w',Go.Ax.E.j_,Go.Ax.E.j,Go.Ax.E.j',Go.Ax.E.Z0,Go.Ax.E.Z1,Go.Ax.E.Z2,Go.Ax.E.Z3,Go.Ax.E.Z4];done) | rfl
namespace Go.Proofs.Ytdgikiebohcohaa
open Go Go.Ax Go.Ax.E
def c3:ACode:=({c:=_}:TbD (S (R [b 7 34 2,b 8 29 3,b 9 25 4,bf 10]) (S (S (R [m 32 0,ca 33 4 32,m 34 33,q 35 (m_ 1) 34 [],q 36 (ca_ 4 35) 34 [],y 37 34 36,m 38 37,q 39 (d_ 9 7) 38 [],q 40 (f_ 1 39) 38 [],q 41 (k_ 40) 38 [],q 42 (w_ .gtr 3 41 100 3 4) 38 [],y 43 38 42]) (C 43 (S (R [bt 10]) N) K)) (S (R [m 44 0,ca 45 5 44,m 11 45]) (S (R [l 46 10 7,ca 47 6 46,o 12 (.alloc 34 Z0),s 10 12 47]) (S (R [m 49 11,l 50 10 12,cb 51 7 49 50,m 48 51,e 52 48 0,e 53 48 1,m 13 52,m 14 53]) (S (R [m 55 0,l 56 10 7,cb 57 8 55 56,m 54 57,e 58 54 0,e 59 54 1,m 15 58,m 16 59]) (S (R [m 61 11,ca 62 9 61,m 60 62,e 63 60 0,e 64 60 1,m 17 63,m 18 64]) (S (R [m 66 0,ca 67 10 66,m 65 67,e 68 65 0,e 69 65 1,m 19 68,m 20 69]) (S (R [m 71 11,l 72 4 8,cb 73 11 71 72,m 70 73,e 74 70 0,e 75 70 1,m 21 74,m 22 75]) (S (R [m 77 0,l 78 4 8,cb 79 12 77 78,m 76 79,e 80 76 0,e 81 76 1,m 23 80,m 24 81]) (S (R [m 83 11,l 84 2 9,cb 85 13 83 84,m 82 85,e 86 82 0,e 87 82 1,m 25 86,m 26 87]) (S (R [m 89 0,l 90 2 9,cb 91 14 89 90,m 88 91,e 92 88 0,e 93 88 1,m 27 92,m 28 93]) (S (R [m 94 11,ca 95 15 94,m 29 95]) (S (R [m 96 13,m 97 15,cb 98 16 96 97,m 99 98,p 100 (m_ 14) 99 [],p 101 (m_ 16) 99 [],p 102 (v_ .eql 3 100 101 3 4) 99 [],x 103 99 102,m 104 103,p 105 (m_ 17) 104 [],p 106 (m_ 19) 104 [],p 107 (cb_ 17 105 106) 104 [],x 108 104 107,m 109 108,p 110 (m_ 18) 109 [],p 111 (m_ 20) 109 [],p 112 (v_ .eql 3 110 111 3 4) 109 [],x 113 109 112,m 114 113,p 115 (m_ 21) 114 [],p 116 (m_ 23) 114 [],p 117 (v_ .eql 3 115 116 3 4) 114 [],x 118 114 117,m 119 118,p 120 (m_ 22) 119 [],p 121 (m_ 24) 119 [],p 122 (v_ .eql 3 120 121 3 4) 119 [],x 123 119 122,m 124 123,p 125 (m_ 25) 124 [],p 126 (m_ 27) 124 [],p 127 (cb_ 16 125 126) 124 [],x 128 124 127,m 129 128,p 130 (m_ 26) 129 [],p 131 (m_ 28) 129 [],p 132 (v_ .eql 3 130 131 3 4) 129 [],x 133 129 132,m 30 133]) (S (R [m 134 11,ca 135 18 134,m 136 0,ca 137 19 136,v 138 .eql 3 135 137 3 4,m 139 138,p 140 (m_ 11) 139 [],p 141 (m_ 1) 139 [],p 142 (cb_ 20 140 141) 139 [],p 143 (m_ 0) 139 [],p 144 (m_ 1) 139 [],p 145 (cb_ 16 143 144) 139 [],p 146 (v_ .eql 4 142 145 4 4) 139 [],x 147 139 146,m 148 147,p 149 (m_ 11) 148 [],p 150 (m_ 0) 148 [],p 151 (cb_ 20 149 150) 148 [],x 152 148 151,m 153 152,p 154 (m_ 29) 153 [],p 155 (m_ 0) 153 [],p 156 (cb_ 16 154 155) 153 [],x 157 153 156,m 31 157]) (S (R [m 158 13,ca 159 21 158]) (S (R [m 160 25,ca 161 21 160]) (S (R [m 162 29,ca 163 21 162]) (S (R [m 164 30,m 165 164,p 166 (m_ 31) 165 [],x 167 165 166,m 168 167,p 169 (m_ 11) 168 [],p 170 (m_ 0) 168 [],p 171 (cb_ 16 169 170) 168 [],x 172 168 171,m 173 172,p 174 (l_ 10 12) 173 [],p 175 (l_ 10 7) 173 [],p 176 (cb_ 22 174 175) 173 [],x 177 173 176,m 10 177]) N)))))))))))))))))))).c
def a3:AFunc:=⟨178,c3,[.tmp 10],1⟩
def c4:ACode:=({c:=_}:TbD (S (R [bf 2]) (S (R [n 3 0]) (S (S (R [n 4 0]) (B 0 (L (S (S (R [m 5 4,m 6 0,k 7 6,v 8 .lss 3 5 7 3 4,m 9 8,p 10 (m_ 4) 9 [],p 11 (w_ .lss 3 10 100 3 4) 9 [],x 12 9 11]) (C 12 K (X 0))) (S (B 1 (D [m' 15 3 [1,2,3,4,5,6,7,8,9,10,11,12,13,14,15],m' 16 0 [0,2,7,8,9,10,11,12,13,14],m' 17 4 [0,1,7,8,9,10,11,12,13,14],i' 18 10 16 17 [0,7,8,9,10,11,12,13,14],d' 19 9 18 [0,7,8,9,10,11,12,13,14],f' 20 1 19 [0,7,8,9,10,11,12,13,14],k' 21 20 [0,7,8,9,10,11,12,13,14],m' 22 0 [0,1,2,3,4,5,6,8],m' 23 4 [0,1,2,3,4,5,6,7],i' 24 10 22 23 [0,1,2,3,4,5,6],d' 25 0 24 [0,1,2,3,4,5,6],d' 26 4 25 [0,1,2,3,4,5,6],f' 27 1 26 [0,1,2,3,4,5,6],u 28 (.pur (mkO (.call ⟨.builtin .max,#[(t 27),(.const (.int .i64 0))],#[3,3]⟩) 3)) [0,1,2,3,4,5,6],u 29 (.pur (mkO (.call ⟨.builtin .min,#[(t 28),(.const (.int .i64 100))],#[3,3]⟩) 3)) [0,1,2,3,4,5,6],u 30 (.pur (mkO (.call ⟨.builtin .max,#[(t 21),(t 29)],#[3,3]⟩) 3)) [0],v 31 .add 3 15 30 3 3,m 3 31])) (R [m 13 4,w 14 .add 3 13 1 3 3,m 4 14])))))) (S (R [m 32 0,k 33 32,w 34 .gtr 3 33 60 3 4,m 35 34,q 36 (m_ 3) 35 [],q 37 (w_ .gtr 3 36 250 3 4) 35 [],y 38 35 37,m 2 38]) N))))).c
def a4:AFunc:=⟨39,c4,[.tmp 2],1⟩
def c5:ACode:=({c:=_}:TbD (S (R [z 2]) (S (R [z 3]) (S (S (R [n 4 0]) (B 0 (L (S (S (R [m 5 4,m 6 0,k 7 6,v 8 .lss 3 5 7 3 4]) (C 8 K (X 0))) (S (B 1 (R [m 11 3,m 12 0,m 13 4,i 14 10 12 13,l 15 10 14,ca 16 6 15,o 17 (.bsl 34 10 Z0 1 [(0,10,(t 16))]),o 18 (.app 34 10 80 Z0 (t 11) (t 17)),m 3 18])) (R [m 9 4,w 10 .add 3 9 1 3 3,m 4 10])))))) (S (R [m 19 3,m 2 19]) N))))).c
def a5:AFunc:=⟨20,c5,[.tmp 2],1⟩
def c6:ACode:=({c:=_}:TbD (S (R [b 1 34 0,o 2 (.alloc 34 Z0)]) (S (R [d 3 9 1,f 4 1 3,o 5 (.app 21 1 4 (.int .i32 0) (.const (.slice none 0 0)) (t 4)),d 6 9 1,s 1 6 5]) (S (R [l 7 10 1,s 10 2 7]) N)))).c
def a6:AFunc:=⟨8,c6,[.cell 2 10 true],1⟩
def c7:ACode:=({c:=_}:TbD (S (R [b 3 34 1,z 4,n 5 0]) (S (S (D [m' 15 0 [2],ca' 16 18 15 [2],l' 17 10 3 [0,1],ca 18 23 17,o 19 (.pur (mkO (.call ⟨.builtin .max,#[(t 16),(t 18)],#[38,38]⟩) 38)),m 6 19]) (S (R [m 20 6,w 21 .neq 38 20 0 38 4]) (C 21 (S (R [m 22 6,z 4,m 5 22]) N) K))) (S (S (R [m 24 0,d 25 5 3,l 26 4 25,cb 27 24 24 26,m 23 27,e 28 23 0,e 29 23 1,m 7 28,m 8 29]) (S (R [m 30 7,w 31 .lss 3 30 0 3 4,m 32 31,p 33 (d_ 5 3) 32 [],p 34 (l_ 4 33) 32 [],p 35 (.build Z3 []) 32 [],p 36 (v_ .neq 29 34 35 29 4) 32 [],x 37 32 36]) (C 37 (S (R [z 4,n 5 6]) N) K))) (S (S (R [d 38 0 3,d 39 4 38,f 40 1 39,n 41 0]) (B 0 (L (S (R [v 42 .lss 3 41 40 3 4]) (S (C 42 K (X 0)) (S (B 1 (S (R [m 43 41,m 9 43]) (S (R [d 45 0 3,l 46 5 45,m 47 9,cb 48 25 46 47,m 44 48,e 49 44 0,e 50 44 1,o 10 (.alloc 29 Z3),s 4 10 49,m 11 50]) (S (R [m 52 0,l 53 4 10,cb 54 24 52 53,m 51 54,e 55 51 0,e 56 51 1,m 12 55,m 13 56]) (S (R [m 57 12,w 58 .geq 3 57 0 3 4]) (C 58 (S (R [z 4,n 5 2]) N) K)))))) (R [w 59 .add 3 41 1 3 3,m 41 59]))))))) (S (S (D [m' 60 0 [2,3,4],ca' 61 26 60 [2,3,4],d' 62 0 3 [0,1],d' 63 4 62 [0,1],f' 64 1 63 [0,1],v 65 .add 3 61 64 3 3,w 66 .gtr 3 65 8192 3 4]) (C 66 (S (R [z 4,n 5 4]) N) K)) (S (R [m 68 0,d 69 5 3,l 70 4 69,cb 71 27 68 70,m 67 71,e 72 67 0,e 73 67 1,m 0 72,m 14 73]) (S (B 2 (L (S (S (D [m' 74 14 [1,2],m' 75 0 [0],k' 76 75 [0],v 77 .lss 3 74 76 3 4,m 78 77,p 79 (d_ 0 3) 78 [8,9,10,11,12,13],p 80 (d_ 0 79) 78 [8,9,10,11,12,13],p 81 (l_ 4 80) 78 [8,9,10,11,12,13],p 82 (m_ 0) 78 [5,6,7,9],p 83 (m_ 14) 78 [5,6,7,8],p 84 (i_ 10 82 83) 78 [5,6,7],p 85 (d_ 0 84) 78 [5,6,7],p 86 (d_ 0 85) 78 [5,6,7],p 87 (l_ 4 86) 78 [5,6,7],p 88 (cb_ 28 81 87) 78 [],x 89 78 88]) (C 89 K (X 2))) (B 3 (R [m 90 14,w 91 .add 3 90 1 3 3,m 14 91]))))) (S (D [m' 92 0 [2,3,4],ca' 93 31 92 [2,3,4],m' 94 14 [0,1,3,4],l' 95 10 3 [0,1,2],u 96 (.bsl 34 10 Z0 1 [(0,10,(t 95))]) [0,1,2],o 97 (.ins 30 34 10 80 (t 93) (t 94) (t 96)),ca 98 29 97,m 4 98,n 5 0]) N))))))))).c
def a7:AFunc:=⟨99,c7,[.tmp 4,.tmp 5],4⟩
def c8:ACode:=({c:=_}:TbD (S (R [b 3 34 1,z 4,n 5 0]) (S (S (R [m 8 0,ca 9 32 8,j 10 4 9 4,m 11 10,q 12 (l_ 10 3) 11 [],q 13 (ca_ 33 12) 11 [],q 14 (j_ 4 13 4) 11 [],y 15 11 14]) (C 15 (S (R [z 4,n 5 8]) N) K)) (S (R [m 16 0,ca 17 34 16,m 6 17]) (S (S (R [d 18 5 3,l 19 4 18,o 20 (.build Z3 []),v 21 .neq 29 19 20 29 4,m 22 21,p 23 (m_ 6) 22 [],p 24 (d_ 5 3) 22 [],p 25 (l_ 4 24) 22 [],p 26 (cb_ 35 23 25) 22 [],p 27 (w_ .lss 3 26 0 3 4) 22 [],x 28 22 27]) (C 28 (S (R [z 4,n 5 6]) N) K)) (S (S (R [n 7 0]) (B 0 (L (S (S (R [m 29 7,d 30 0 3,d 31 4 30,f 32 1 31,v 33 .lss 3 29 32 3 4]) (C 33 K (X 0))) (S (B 1 (S (R [m 36 6,l 37 10 3,m 38 7,cb 39 36 37 38,cb 40 35 36 39,w 41 .geq 3 40 0 3 4]) (C 41 (S (R [z 4,n 5 2]) N) K))) (R [m 34 7,w 35 .add 3 34 1 3 3,m 7 35])))))) (S (S (R [m 42 6,k 43 42,d 44 0 3,d 45 4 44,f 46 1 45,v 47 .add 3 43 46 3 3,w 48 .gtr 3 47 8192 3 4]) (C 48 (S (R [z 4,n 5 4]) N) K)) (S (R [m 49 0,l 50 10 3,cb 51 37 49 50,m 4 51,n 5 0]) N)))))))).c
def a8:AFunc:=⟨52,c8,[.tmp 4,.tmp 5],1⟩
def c9:ACode:=({c:=_}:TbD (S (R [o 2 (.alloc 43 (.slice none 0 0)),n 3 0]) (S (S (R [m 6 0,ca 7 18 6,m 4 7]) (S (R [m 8 4,w 9 .neq 38 8 0 38 4]) (C 9 (S (R [m 10 4,O (.store 1 (t 2) (.const (.slice none 0 0))),m 3 10]) N) K))) (S (S (R [m 11 0,ca 12 38 11]) (B 0 (.rangeFunc (.tmp 12) [13,14] (R [o 5 (.alloc 29 Z3),s 4 5 13]) (B 1 (R [f 15 1 2,l 16 4 5,o 17 (.bsl 29 4 Z3 1 [(0,4,(t 16))]),o 18 (.app 29 4 24 Z3 (t 15) (t 17)),s 1 2 18]))))) (S (R [f 19 1 2,s 1 2 19,n 3 0]) N))))).c
def a9:AFunc:=⟨20,c9,[.cell 2 1 false,.tmp 3],1⟩
def c10:ACode:=({c:=_}:TbD (S (R [z 2,n 3 0]) (S (S (R [m 7 0,ca 8 32 7,j 9 4 8 4]) (C 9 (S (R [z 2,n 3 8]) N) K)) (S (R [z 4]) (S (R [m 10 0,ca 11 34 10,m 5 11]) (S (S (R [n 6 0]) (B 0 (L (S (S (R [m 12 6,m 13 5,k 14 13,v 15 .lss 3 12 14 3 4]) (C 15 K (X 0))) (S (B 1 (R [m 18 4,m 19 5,m 20 6,i 21 9 19 20,d 22 0 21,l 23 4 22,o 24 (.bsl 29 4 Z3 1 [(0,4,(t 23))]),o 25 (.app 29 4 24 Z3 (t 18) (t 24)),m 4 25])) (R [m 16 6,w 17 .add 3 16 1 3 3,m 6 17])))))) (S (R [m 26 4,m 2 26,n 3 0]) N))))))).c
def a10:AFunc:=⟨27,c10,[.tmp 2,.tmp 3],1⟩
def c11:ACode:=({c:=_}:TbD (S (R [b 3 29 1,n 4 0,n 5 0]) (S (S (R [m 9 0,ca 10 18 9,m 6 10]) (S (R [m 11 6,w 12 .neq 38 11 0 38 4]) (C 12 (S (R [m 13 6,n 4 0,m 5 13]) N) K))) (S (R [m 15 0,l 16 4 3,cb 17 24 15 16,m 14 17,e 18 14 0,e 19 14 1,m 7 18,m 8 19]) (S (S (R [m 20 7,w 21 .lss 3 20 0 3 4]) (C 21 (S (R [n 4 0,n 5 6]) N) K)) (S (R [m 22 0,m 23 7,o 24 (.slc 10 (t 22) none (some (t 23)) none),ca 25 26 24,m 26 8,v 27 .add 3 25 26 3 3,m 4 27,n 5 0]) N)))))).c
def a11:AFunc:=⟨28,c11,[.tmp 4,.tmp 5],1⟩
def c12:ACode:=({c:=_}:TbD (S (R [b 3 29 1,n 4 0,n 5 0]) (S (S (R [m 7 0,ca 8 32 7,j 9 4 8 4]) (C 9 (S (R [n 4 0,n 5 8]) N) K)) (S (D [m' 10 0 [2],ca' 11 34 10 [2],l' 12 4 3 [0,1],cb 13 35 11 12,m 6 13]) (S (S (R [m 14 6,w 15 .lss 3 14 0 3 4]) (C 15 (S (R [n 4 0,n 5 6]) N) K)) (S (R [m 16 6,m 4 16,n 5 0]) N)))))).c
def a12:AFunc:=⟨17,c12,[.tmp 4,.tmp 5],1⟩
def c13:ACode:=({c:=_}:TbD (S (R [b 3 25 1,z 4,n 5 0]) (S (S (D [m' 9 0 [2],ca' 10 18 9 [2],l' 11 2 3 [0,1],ca 12 39 11,o 13 (.pur (mkO (.call ⟨.builtin .max,#[(t 10),(t 12)],#[38,38]⟩) 38)),m 6 13]) (S (R [m 14 6,w 15 .neq 38 14 0 38 4]) (C 15 (S (R [m 16 6,z 4,m 5 16]) N) K))) (S (R [o 7 (.mov (.func 40))]) (S (S (R [m 17 0,m 18 7,cb 19 42 17 18]) (C 19 (S (R [z 4,n 5 2]) N) K)) (S (R [o 20 (.mkfn 43 [] [(t 3)]),m 8 20]) (S (R [m 21 0,ca 22 31 21,m 23 8,cb 24 44 22 23,ca 25 29 24,m 4 25,n 5 0]) N))))))).c
def a13:AFunc:=⟨26,c13,[.tmp 4,.tmp 5],4⟩
def c14:ACode:=({c:=_}:TbD (S (R [b 3 25 1,z 4,n 5 0]) (S (S (R [m 6 0,ca 7 32 6,j 8 4 7 4,m 9 8,q 10 (l_ 2 3) 9 [],q 11 (ca_ 45 10) 9 [],q 12 (j_ 4 11 4) 9 [],y 13 9 12]) (C 13 (S (R [z 4,n 5 8]) N) K)) (S (S (R [m 14 0,ca 15 46 14,j 16 4 15 4]) (C 16 (S (R [z 4,n 5 2]) N) K)) (S (R [m 17 0,l 18 2 3,cb 19 47 17 18,m 4 19,n 5 0]) N))))).c
def a14:AFunc:=⟨20,c14,[.tmp 4,.tmp 5],1⟩
def c15:ACode:=({c:=_}:TbD (S (R [z 2]) (S (R [m 6 0,ca 7 31 6,m 3 7]) (S (S (R [m 8 3,k 9 8,n 10 0]) (B 0 (L (S (R [v 11 .lss 3 10 9 3 0]) (S (C 11 K (X 0)) (S (B 1 (S (R [m 12 10,i 13 10 8 10,l 14 10 13,o 5 (.alloc 34 Z0),m 4 12,s 10 5 14]) (R [m 15 3,m 16 4,l 17 10 5,ca 18 48 17,i 19 10 15 16,s 10 19 18]))) (R [w 20 .add 3 10 1 3 3,m 10 20]))))))) (S (R [m 21 3,m 2 21]) N))))).c
def a15:AFunc:=⟨22,c15,[.tmp 2],4⟩
def c16:ACode:=({c:=_}:TbD (S (R [bf 4]) (S (S (R [m 6 0,k 7 6,m 8 1,k 9 8,v 10 .neq 3 7 9 3 4]) (C 10 (S (R [bf 4]) N) K)) (S (S (R [n 5 0]) (B 0 (L (S (S (R [m 11 5,m 12 0,k 13 12,v 14 .lss 3 11 13 3 4]) (C 14 K (X 0))) (S (B 1 (S (D [m' 17 0 [1,4,5,6,7],m' 18 5 [0,4,5,6,7],i' 19 10 17 18 [4,5,6,7],l' 20 10 19 [4,5,6,7],m' 21 1 [0,1,2,3,5],m' 22 5 [0,1,2,3,4],i' 23 10 21 22 [0,1,2,3],l' 24 10 23 [0,1,2,3],cb 25 22 20 24,j 26 4 25 4]) (C 26 (S (R [bf 4]) N) K))) (R [m 15 5,w 16 .add 3 15 1 3 3,m 5 16])))))) (S (R [bt 4]) N))))).c
def a16:AFunc:=⟨27,c16,[.tmp 4],2⟩
def c17:ACode:=({c:=_}:TbD (S (R [bf 4]) (S (S (R [m 6 0,k 7 6,m 8 1,k 9 8,v 10 .neq 3 7 9 3 4]) (C 10 (S (R [bf 4]) N) K)) (S (S (R [n 5 0]) (B 0 (L (S (S (R [m 11 5,m 12 0,k 13 12,v 14 .lss 3 11 13 3 4]) (C 14 K (X 0))) (S (B 1 (S (D [m' 17 0 [1,4,5,6,7],m' 18 5 [0,4,5,6,7],i' 19 4 17 18 [4,5,6,7],l' 20 4 19 [4,5,6,7],m' 21 1 [0,1,2,3,5],m' 22 5 [0,1,2,3,4],i' 23 4 21 22 [0,1,2,3],l' 24 4 23 [0,1,2,3],v 25 .neq 29 20 24 29 4]) (C 25 (S (R [bf 4]) N) K))) (R [m 15 5,w 16 .add 3 15 1 3 3,m 5 16])))))) (S (R [bt 4]) N))))).c
def a17:AFunc:=⟨26,c17,[.tmp 4],1⟩
def c18:ACode:=({c:=_}:TbD (S (R [n 2 0]) (S (S (R [m 3 0,o 4 (.call (.func 42) [(t 3),(.func 49)]),m 5 4,q 6 (m_ 0) 5 [],q 7 (ca_ 26 6) 5 [],q 8 (w_ .gtr 3 7 8192 3 4) 5 [],y 9 5 8,m 10 9,q 11 (m_ 0) 10 [],q 12 (ca_ 50 11) 10 [],q 13 (j_ 4 12 4) 10 [],y 14 10 13,m 15 14,q 16 (m_ 0) 15 [],q 17 (ca_ 29 16) 15 [],q 18 (m_ 0) 15 [],q 19 (cb_ 20 17 18) 15 [],q 20 (j_ 4 19 4) 15 [],y 21 15 20]) (C 21 (S (R [n 2 8]) N) K)) (S (R [n 2 0]) N)))).c
def a18:AFunc:=⟨22,c18,[.tmp 2],1⟩
def c19:ACode:=({c:=_}:TbD (S (R [n 2 0]) (S (S (R [m 3 0,ca 4 32 3,j 5 4 4 4]) (C 5 (S (R [n 2 8]) N) K)) (S (R [n 2 0]) N)))).c
def a19:AFunc:=⟨6,c19,[.tmp 2],1⟩
def c20:ACode:=({c:=_}:TbD (S (R [bf 4]) (S (R [m 5 0,m 6 1,o 7 (.call (.func 51) [(t 5),(t 6),(.func 52)]),m 4 7]) N))).c
def a20:AFunc:=⟨8,c20,[.tmp 4],2⟩
def c21:ACode:=({c:=_}:TbD (S (R [n 2 0]) (B 0 (L (S (S (R [m 4 2,m 5 0,k 6 5,v 7 .lss 3 4 6 3 4]) (C 7 K (X 0))) (S (B 1 (S (S (R [n 3 0]) (B 2 (L (S (S (R [m 10 3,m 11 0,m 12 2,i 13 10 11 12,d 14 9 13,f 15 1 14,k 16 15,v 17 .lss 3 10 16 3 4]) (C 17 K (X 2))) (S (B 3 (D [m' 20 0 [1,5,6,7,8,9,10,11,12,13,14],m' 21 2 [0,5,6,7,8,9,10,11,12,13,14],i' 22 10 20 21 [5,6,7,8,9,10,11,12,13,14],d' 23 9 22 [5,6,7,8,9,10,11,12,13,14],f' 24 1 23 [5,6,7,8,9,10,11,12,13,14],m' 25 3 [0,1,2,3,4,6,7,8,9,10,11,12,13,14],m' 26 0 [0,1,2,3,4,5,7,11],m' 27 2 [0,1,2,3,4,5,6,11],i' 28 10 26 27 [0,1,2,3,4,5,11],d' 29 9 28 [0,1,2,3,4,5,11],f' 30 1 29 [0,1,2,3,4,5,11],m' 31 3 [0,1,2,3,4,5,6,7,8,9,10],i' 32 1 30 31 [0,1,2,3,4,5],f' 33 1 32 [0,1,2,3,4,5],u 34 (.pur (mkO (.binOp .add 21 (t 33) (.const (.int .i32 1)) 21) 21)) [0,1,2,3,4,5],i 35 1 24 25,s 1 35 34])) (R [m 18 3,w 19 .add 3 18 1 3 3,m 3 19])))))) (R [m 36 0,m 37 2,i 38 10 36 37,d 39 0 38,d 40 4 39,O (.store 1 (t 40) (.const (.int .i64 (-7))))]))) (R [m 8 2,w 9 .add 3 8 1 3 3,m 2 9]))))))).c
def a21:AFunc:=⟨41,c21,[],0⟩
def c22:ACode:=({c:=_}:TbD (S (R [b 2 34 0,b 3 34 1,bf 4]) (S (R [d 5 0 2,l 6 5 5,d 7 0 3,l 8 5 7,v 9 .eql 31 6 8 31 4,m 10 9,p 11 (d_ 5 2) 10 [],p 12 (l_ 4 11) 10 [],p 13 (d_ 5 3) 10 [],p 14 (l_ 4 13) 10 [],p 15 (v_ .eql 29 12 14 29 4) 10 [],x 16 10 15,m 17 16,p 18 (d_ 9 2) 17 [],p 19 (f_ 1 18) 17 [],p 20 (d_ 9 3) 17 [],p 21 (f_ 1 20) 17 [],p 22 (cb_ 53 19 21) 17 [],x 23 17 22,m 4 23]) N))).c
def a22:AFunc:=⟨24,c22,[.tmp 4],1⟩
def c23:ACode:=({c:=_}:TbD (S (R [b 1 34 0,n 2 0]) (S (R [d 4 5 1,l 5 4 4,o 6 (.build Z3 []),v 7 .eql 29 5 6 29 4,m 8 7,q 9 (d_ 5 1) 8 [],q 10 (l_ 4 9) 8 [],q 11 (ca_ 54 10) 8 [],q 12 (w_ .eql 38 11 0 38 4) 8 [],q 13 (m_ 12) 8 [],p 14 (d_ 5 1) 13 [],p 15 (d_ 3 14) 13 [],p 16 (f_ 1 15) 13 [],p 17 (d_ 0 1) 13 [],p 18 (d_ 0 17) 13 [],p 19 (d_ 3 18) 13 [],p 20 (f_ 1 19) 13 [],p 21 (v_ .lss 3 16 20 3 4) 13 [],q 22 (x_ 13 21) 8 [],y 23 8 22,m 3 23]) (S (S (R [d 24 0 1,l 25 5 24,ca 26 55 25,w 27 .neq 38 26 0 38 4,m 28 27,q 29 (m_ 3) 28 [],q 30 (j_ 4 29 4) 28 [],y 31 28 30,m 32 31,q 33 (d_ 9 1) 32 [],q 34 (f_ 1 33) 32 [],q 35 (k_ 34) 32 [],q 36 (d_ 0 1) 32 [],q 37 (d_ 4 36) 32 [],q 38 (f_ 1 37) 32 [],q 39 (v_ .neq 3 35 38 3 4) 32 [],y 40 32 39,m 41 40,q 42 (d_ 9 1) 41 [],q 43 (f_ 1 42) 41 [],q 44 (ca_ 56 43) 41 [],q 45 (w_ .neq 38 44 0 38 4) 41 [],y 46 41 45]) (C 46 (S (R [n 2 8]) N) K)) (S (R [n 2 0]) N))))).c
def a23:AFunc:=⟨47,c23,[.tmp 2],1⟩
def c24:ACode:=({c:=_}:TbD (S (R [b 3 29 1,n 4 0,n 5 0]) (S (S (R [m 10 0,k 11 10,n 12 0]) (B 0 (L (S (R [v 13 .lss 3 12 11 3 0]) (S (C 13 K (X 0)) (S (B 1 (S (R [m 14 12,i 15 10 10 12,l 16 10 15,o 7 (.alloc 34 Z0),m 6 14,s 10 7 16]) (S (R [d 18 0 7,l 19 5 18,l 20 4 3,cb 21 57 19 20,m 17 21,e 22 17 0,e 23 17 1,m 8 22,m 9 23]) (S (R [m 24 9]) (C 24 (S (R [m 25 6,m 26 8,m 4 25,m 5 26]) N) K))))) (R [w 27 .add 3 12 1 3 3,m 12 27]))))))) (S (R [n 4 (-1),n 5 0]) N)))).c
def a24:AFunc:=⟨28,c24,[.tmp 4,.tmp 5],1⟩
def c25:ACode:=({c:=_}:TbD (S (R [b 2 31 0,o 4 (.alloc 29 Z3),n 5 0]) (S (S (R [l 7 5 2,ca 8 55 7,m 6 8]) (S (R [m 9 6,w 10 .neq 38 9 0 38 4]) (C 10 (S (R [o 11 (.build Z3 []),m 12 6,s 4 4 11,m 5 12]) N) K))) (S (S (R [m 13 1,w 14 .lss 3 13 0 3 4,m 15 14,q 16 (m_ 1) 15 [],q 17 (d_ 4 2) 15 [],q 18 (f_ 1 17) 15 [],q 19 (v_ .geq 3 16 18 3 4) 15 [],y 20 15 19]) (C 20 (S (R [o 21 (.build Z3 []),s 4 4 21,n 5 2]) N) K)) (S (R [d 22 0 2,l 23 4 22,m 24 1,cb 25 58 23 24,s 4 4 25,n 5 0]) N))))).c
def a25:AFunc:=⟨26,c25,[.cell 4 4 true,.tmp 5],1⟩
def c26:ACode:=({c:=_}:TbD (S (R [n 2 0]) (S (S (R [m 5 0,k 6 5,n 7 0]) (B 0 (L (S (R [v 8 .lss 3 7 6 3 0]) (S (C 8 K (X 0)) (S (B 1 (S (R [i 9 10 5 7,l 10 10 9,o 4 (.alloc 34 Z0),s 10 4 10]) (R [m 11 2,d 12 0 4,d 13 4 12,f 14 1 13,v 15 .add 3 11 14 3 3,m 2 15]))) (R [w 16 .add 3 7 1 3 3,m 7 16]))))))) (S (R [m 17 2,m 2 17]) N)))).c
def a26:AFunc:=⟨18,c26,[.tmp 2],1⟩
def c27:ACode:=({c:=_}:TbD (S (R [b 3 29 1,z 4,n 5 0]) (S (S (R [l 11 4 3,o 12 (.build Z3 []),v 13 .eql 29 11 12 29 4]) (C 13 (S (R [m 14 0,m 4 14,n 5 0]) N) K)) (S (R [m 16 0,l 17 4 3,cb 18 24 16 17,m 15 18,e 19 15 0,e 20 15 1,m 6 19,m 7 20]) (S (S (R [m 22 0,m 23 6,i 24 10 22 23,l 25 10 24,m 26 7,w 27 .add 3 26 1 3 3,cb 28 59 25 27,m 21 28,e 29 21 0,e 30 21 1,e 31 21 2,o 8 (.alloc 34 Z0),o 9 (.alloc 34 Z0),s 10 8 29,s 10 9 30,m 10 31]) (S (R [m 32 10,w 33 .eql 38 32 0 38 4]) (C 33 (D [m' 34 0 [1,3,4,5,6,7,8,9],m' 35 6 [0,3,4,5,6,7,8,9],u 36 (.slc 10 (t 34) none (some (t 35)) none) [3,4,5,6,7,8,9],l' 37 10 8 [0,1,2,4,6,7,8,9],l' 38 10 9 [0,1,2,3,6,7,8,9],u 39 (.bsl 34 10 Z0 2 [(0,10,(t 37)),(10,10,(t 38))]) [0,1,2,6,7,8,9],m' 40 0 [0,1,2,3,4,5,7,8],m' 41 6 [0,1,2,3,4,5,6],w' 42 .add 3 41 1 3 3 [0,1,2,3,4,5,6],u 43 (.slc 10 (t 40) (some (t 42)) none none) [0,1,2,3,4,5],o 44 (.bsl 22 1 (.slice none 0 0) 3 [(0,1,(t 36)),(1,1,(t 39)),(2,1,(t 43))]),ca 45 60 44,m 0 45]) K))) (S (R [m 46 0,m 47 6,w 48 .add 3 47 1 3 3,m 4 46,m 5 48]) N)))))).c
def a27:AFunc:=⟨49,c27,[.tmp 4,.tmp 5],1⟩
def c28:ACode:=({c:=_}:TbD (S (R [b 2 29 0,b 3 29 1,bf 4]) (S (B 0 (S (R [d 6 3 2,f 7 1 6,d 8 3 3,f 9 1 8,v 10 .neq 3 7 9 3 4,m 5 10]) (C 5 (S (R [d 11 3 2,f 12 1 11,d 13 3 3,f 14 1 13,v 15 .lss 3 12 14 3 4,m 4 15]) N) (S (R [d 17 0 2,d 18 0 17,l 19 2 18,d 20 0 3,d 21 0 20,l 22 2 21,v 23 .neq 25 19 22 25 4,m 16 23]) (C 16 (S (R [d 24 0 2,d 25 0 24,l 26 2 25,d 27 0 3,d 28 0 27,l 29 2 28,cb 30 61 26 29,m 4 30]) N) K))))) (S (R [d 31 0 2,d 32 2 31,f 33 1 32,d 34 0 3,d 35 2 34,f 36 1 35,v 37 .lss 5 33 36 5 4,m 4 37]) N)))).c
def a28:AFunc:=⟨38,c28,[.tmp 4],1⟩
def c29:ACode:=({c:=_}:TbD (S (R [z 2]) (S (S (R [m 13 0,k 14 13,n 15 0]) (B 0 (L (S (R [v 16 .lss 3 15 14 3 0]) (S (C 16 K (X 0)) (S (B 1 (S (R [i 17 10 13 15,l 18 10 17,o 4 (.alloc 34 Z0),s 10 4 18]) (S (R [m 19 2,k 20 19,w 21 .sub 3 20 1 3 3,m 5 21]) (S (D [m 22 5,w 23 .geq 3 22 0 3 4,m 24 23,p 25 (d_ 5 4) 24 [5,6,7,8,9],p 26 (l_ 4 25) 24 [5,6,7,8,9],p 27 (m_ 2) 24 [3,4,6],p 28 (m_ 5) 24 [3,4,5],p 29 (i_ 10 27 28) 24 [3,4],p 30 (l_ 10 29) 24 [3,4],p 31 (ca_ 62 30) 24 [3,4],p 32 (v_ .eql 29 26 31 29 4) 24 [],x 33 24 32,m 34 33,p 35 (d_ 0 4) 34 [16,17,18,19,20,21,22,23],p 36 (d_ 0 35) 34 [16,17,18,19,20,21,22,23],p 37 (l_ 4 36) 34 [16,17,18,19,20,21,22,23],p 38 (d_ 5 4) 34 [13,14,15,19,20,21,22],p 39 (d_ 0 38) 34 [13,14,15,19,20,21,22],p 40 (l_ 3 39) 34 [13,14,15,19,20,21,22],p 41 (d_ 5 4) 34 [13,14,15,16,17,18],p 42 (d_ 3 41) 34 [13,14,15,16,17,18],p 43 (f_ 1 42) 34 [13,14,15,16,17,18],p 44 (w_ .add 3 43 1 3 3) 34 [13,14,15,16,17,18],p 45 (.build Z3 [(0,3,(t 40)),(3,1,(t 44))]) 34 [13,14,15],p 46 (v_ .eql 29 37 45 29 4) 34 [],x 47 34 46,m 6 47]) (S (S (R [m 48 6]) (C 48 (S (R [m 49 2,m 50 5,i 51 10 49 50,d 52 0 51,d 53 4 52,f 54 1 53,o 55 (.pur (mkO (.binOp .sub 3 (.const (.int .i64 64)) (t 54) 3) 3)),m 7 55]) (S (R [l 57 10 4,m 58 7,cb 59 59 57 58,m 56 59,e 60 56 0,e 61 56 1,e 62 56 2,o 8 (.alloc 34 Z0),o 9 (.alloc 34 Z0),s 10 8 60,s 10 9 61,m 10 62]) (S (R [m 63 10,w 64 .eql 38 63 0 38 4]) (C 64 (S (D [m' 66 2 [1,2,3,4,5,6,7,8,9,10],m' 67 5 [0,2,3,4,5,6,7,8,9,10],m' 68 2 [0,1,3,6],m' 69 5 [0,1,2,6],i' 70 10 68 69 [0,1,6],l' 71 10 70 [0,1,6],l' 72 10 8 [0,1,2,3,4,5],cb' 73 63 71 72 [0,1],m' 65 73 [0,1],e' 74 65 0 [0,1,10],e' 75 65 1 [0,1,9,11,12],i' 76 10 66 67 [10],s' 10 76 74 [10]]) (R [l 77 10 9,s 10 4 77])) (S (D [m' 79 2 [1,4,9],m' 80 5 [0,4,9],i' 81 10 79 80 [4,9],l' 82 10 81 [4,9],l' 83 10 4 [0,1,2,3,9],cb' 84 63 82 83 [9],m' 78 84 [9],e' 85 78 0 [8,9],e' 86 78 1 [7,9,10],u 11 (.alloc 34 Z0) [0,1,2,3,4,5,6,7,8],s' 10 11 85 [8],m 12 86]) (S (R [m 87 12,w 88 .eql 38 87 0 38 4]) (C 88 (S (R [m 89 2,m 90 5,l 91 10 11,i 92 10 89 90,s 10 92 91]) (X 1)) K))))))) K)) (R [m 93 2,l 94 10 4,ca 95 48 94,o 96 (.bsl 34 10 Z0 1 [(0,10,(t 95))]),o 97 (.app 34 10 80 Z0 (t 93) (t 96)),m 2 97])))))) (R [w 98 .add 3 15 1 3 3,m 15 98]))))))) (S (R [m 99 2,m 2 99]) N)))).c
def a29:AFunc:=⟨100,c29,[.tmp 2],4⟩
def c30:ACode:=({c:=_}:TbD (S (R [z 6]) (S (R [m 10 0,m 11 1,o 12 (.slc 10 (t 10) (some (t 11)) none none)]) (S (R [m 13 2,k 14 13,m 7 14]) (S (S (R [m 15 7,w 16 .eql 3 15 0 3 4]) (C 16 (S (R [m 17 0,m 6 17]) N) K)) (S (R [m 18 0,k 19 18,m 8 19]) (S (S (R [m 20 1,m 21 8,v 22 .eql 3 20 21 3 4]) (C 22 (S (R [m 23 0,m 24 2,o 25 (.app 34 10 80 Z0 (t 23) (t 24)),m 6 25]) N) K)) (S (S (R [m 26 8,m 27 7,v 28 .add 3 26 27 3 3,m 29 0,o 30 (.cap (t 29)),v 31 .gtr 3 28 30 3 4]) (C 31 (S (R [m 32 0,m 33 1,o 34 (.slc 10 (t 32) none (some (t 33)) none),m 35 8,m 36 7,v 37 .add 3 35 36 3 3,m 38 1,v 39 .sub 3 37 38 3 3,o 40 (.appz 34 10 80 Z0 (t 34) (t 39)),m 9 40]) (S (R [m 41 9,m 42 1,o 43 (.slc 10 (t 41) (some (t 42)) none none),m 44 2,o 45 (.cpy 10 (t 43) (t 44))]) (S (D [m' 46 9 [1,2,3,5,6,7],m' 47 1 [0,2,5,6,7],m' 48 7 [0,1,5,6,7],v' 49 .add 3 47 48 3 3 [0,5,6,7],u 50 (.slc 10 (t 46) (some (t 49)) none none) [5,6,7],m' 51 0 [0,1,2,3,4,6],m' 52 1 [0,1,2,3,4,5],u 53 (.slc 10 (t 51) (some (t 52)) none none) [0,1,2,3,4],o 54 (.cpy 10 (t 50) (t 53))]) (S (R [m 55 9,m 6 55]) N)))) K)) (S (R [m 56 0,m 57 8,m 58 7,v 59 .add 3 57 58 3 3,o 60 (.slc 10 (t 56) none (some (t 59)) none),m 0 60]) (S (S (R [m 61 2,m 62 0,m 63 1,m 64 7,v 65 .add 3 63 64 3 3,o 66 (.slc 10 (t 62) (some (t 65)) none none),o 67 (.ovl 10 (t 61) (t 66)),j 68 4 67 4]) (C 68 (S (D [m' 69 0 [1,2,3,5,6,7],m' 70 1 [0,2,5,6,7],m' 71 7 [0,1,5,6,7],v' 72 .add 3 70 71 3 3 [0,5,6,7],u 73 (.slc 10 (t 69) (some (t 72)) none none) [5,6,7],m' 74 0 [0,1,2,3,4,6],m' 75 1 [0,1,2,3,4,5],u 76 (.slc 10 (t 74) (some (t 75)) none none) [0,1,2,3,4],o 77 (.cpy 10 (t 73) (t 76))]) (S (R [m 78 0,m 79 1,o 80 (.slc 10 (t 78) (some (t 79)) none none),m 81 2,o 82 (.cpy 10 (t 80) (t 81))]) (S (R [m 83 0,m 6 83]) N))) K)) (S (R [m 84 0,m 85 8,o 86 (.slc 10 (t 84) (some (t 85)) none none),m 87 2,o 88 (.cpy 10 (t 86) (t 87))]) (S (R [m 89 0,m 90 1,o 91 (.slc 10 (t 89) (some (t 90)) none none),m 92 7,cb 93 65 91 92]) (S (R [m 94 0,m 6 94]) N))))))))))))).c
def a30:AFunc:=⟨95,c30,[.tmp 6],0⟩
def c31:ACode:=({c:=_}:TbD (S (R [z 2]) (S (S (R [m 3 0,o 4 (.eqnil false 1 (t 3) (mkO (.binOp .eql 22 (t 3) (.const (.slice none 0 0)) 22) 4))]) (C 4 (S (R [z 2]) N) K)) (S (R [o 5 (.bsl 34 10 Z0 0 []),m 6 0,o 7 (.app 34 10 80 Z0 (t 5) (t 6)),m 2 7]) N)))).c
def a31:AFunc:=⟨8,c31,[.tmp 2],0⟩
def c32:ACode:=({c:=_}:TbD (S (R [bf 2]) (S (S (R [n 3 0]) (B 0 (L (S (S (R [m 5 3,m 6 0,k 7 6,v 8 .lss 3 5 7 3 4]) (C 8 K (X 0))) (S (B 1 (S (R [m 11 0,m 12 3,i 13 10 11 12,l 14 10 13,ca 15 33 14,j 16 4 15 4]) (C 16 (S (R [bf 2]) N) K))) (R [m 9 3,w 10 .add 3 9 1 3 3,m 3 10])))))) (S (R [m 17 0,ca 18 34 17,m 4 18]) (S (R [m 19 4,k 20 19,w 21 .leq 3 20 8192 3 4,m 22 21,p 23 (m_ 4) 22 [],p 24 (ca_ 66 23) 22 [],x 25 22 24,m 26 25,p 27 (m_ 4) 26 [],p 28 (ca_ 68 27) 26 [],p 29 (ca_ 67 28) 26 [],p 30 (m_ 0) 26 [],p 31 (cb_ 16 29 30) 26 [],x 32 26 31,m 2 32]) N))))).c
def a32:AFunc:=⟨33,c32,[.tmp 2],1⟩
def c33:ACode:=({c:=_}:TbD (S (R [b 1 34 0,bf 2]) (S (S (R [d 3 0 1,l 4 5 3,ca 5 69 4,j 6 4 5 4,m 7 6,q 8 (d_ 9 1) 7 [],q 9 (f_ 1 8) 7 [],q 10 (k_ 9) 7 [],q 11 (d_ 0 1) 7 [],q 12 (d_ 4 11) 7 [],q 13 (f_ 1 12) 7 [],q 14 (v_ .neq 3 10 13 3 4) 7 [],y 15 7 14,m 16 15,q 17 (d_ 9 1) 16 [],q 18 (f_ 1 17) 16 [],q 19 (ca_ 70 18) 16 [],q 20 (w_ .neq 3 19 0 3 4) 16 [],y 21 16 20]) (C 21 (S (R [bf 2]) N) K)) (S (R [d 22 5 1,l 23 4 22,ca 24 71 23,m 25 24,q 26 (d_ 5 1) 25 [],q 27 (l_ 4 26) 25 [],q 28 (ca_ 72 27) 25 [],q 29 (m_ 28) 25 [],p 30 (d_ 5 1) 29 [],p 31 (d_ 3 30) 29 [],p 32 (f_ 1 31) 29 [],p 33 (d_ 0 1) 29 [],p 34 (d_ 0 33) 29 [],p 35 (d_ 3 34) 29 [],p 36 (f_ 1 35) 29 [],p 37 (v_ .lss 3 32 36 3 4) 29 [],q 38 (x_ 29 37) 25 [],y 39 25 38,m 2 39]) N)))).c
def a33:AFunc:=⟨40,c33,[.tmp 2],1⟩
def c34:ACode:=({c:=_}:TbD (S (R [z 2]) (S (R [z 3]) (S (S (R [n 4 0]) (B 0 (L (S (S (R [m 6 4,m 7 0,k 8 7,v 9 .lss 3 6 8 3 4]) (C 9 K (X 0))) (S (B 1 (S (R [n 5 0]) (B 2 (L (S (S (R [m 12 5,m 13 0,m 14 4,i 15 10 13 14,d 16 0 15,d 17 4 16,f 18 1 17,v 19 .lss 3 12 18 3 4]) (C 19 K (X 2))) (S (B 3 (D [m' 22 3 [1,2,3,4,5,6,7,8,9,10,11,12,13,14,15,16,17,18,19,20,21,22],m' 23 0 [0,2,5,7,8,9,10,11,13,14,15,16,17,18,19,20],m' 24 4 [0,1,5,7,8,9,10,11,13,14,15,16,17,18,19,20],i' 25 10 23 24 [0,5,7,8,9,10,11,13,14,15,16,17,18,19,20],l' 26 10 25 [0,5,7,8,9,10,11,13,14,15,16,17,18,19,20],m' 27 5 [0,1,2,3,4,7,8,9,10,11,13,14,15,16,17,18,19,20],cb' 28 36 26 27 [0,7,8,9,10,11,13,14,15,16,17,18,19,20],m' 29 0 [0,1,2,3,4,5,6,8,11,13,14,15,16,17,18,19,20],m' 30 4 [0,1,2,3,4,5,6,7,11,13,14,15,16,17,18,19,20],i' 31 10 29 30 [0,1,2,3,4,5,6,11,13,14,15,16,17,18,19,20],l' 32 10 31 [0,1,2,3,4,5,6,11,13,14,15,16,17,18,19,20],m' 33 5 [0,1,2,3,4,5,6,7,8,9,10,13,14,15,16,17,18,19,20],cb' 34 73 32 33 [0,13,14,15,16,17,18,19,20],m' 35 0 [0,1,2,3,4,5,6,7,8,9,10,11,12,14,18],m' 36 4 [0,1,2,3,4,5,6,7,8,9,10,11,12,13,18],i' 37 10 35 36 [0,1,2,3,4,5,6,7,8,9,10,11,12,18],d' 38 9 37 [0,1,2,3,4,5,6,7,8,9,10,11,12,18],f' 39 1 38 [0,1,2,3,4,5,6,7,8,9,10,11,12,18],m' 40 5 [0,1,2,3,4,5,6,7,8,9,10,11,12,13,14,15,16,17],i' 41 1 39 40 [0,1,2,3,4,5,6,7,8,9,10,11,12],f' 42 1 41 [0,1,2,3,4,5,6,7,8,9,10,11,12],u 43 (.build Z2 [(0,4,(t 28)),(4,4,(t 34)),(8,1,(t 42))]) [0],u 44 (.bsl 77 9 Z2 1 [(0,9,(t 43))]) [0],o 45 (.app 77 9 56 Z2 (t 22) (t 44)),m 3 45])) (R [m 20 5,w 21 .add 3 20 1 3 3,m 5 21]))))))) (R [m 10 4,w 11 .add 3 10 1 3 3,m 4 11])))))) (S (R [m 46 3,m 2 46]) N))))).c
def a34:AFunc:=⟨47,c34,[.tmp 2],4⟩
def c35:ACode:=({c:=_}:TbD (S (R [b 3 29 1,n 4 0]) (S (S (R [n 5 0]) (B 0 (L (S (S (R [m 6 5,m 7 0,k 8 7,v 9 .lss 3 6 8 3 4]) (C 9 K (X 0))) (S (B 1 (S (D [m' 12 0 [1,5],m' 13 5 [0,5],i' 14 9 12 13 [5],d' 15 0 14 [5],l' 16 4 15 [5],l' 17 4 3 [0,1,2,3,4],v 18 .eql 29 16 17 29 4]) (C 18 (S (R [m 19 5,m 4 19]) N) K))) (R [m 10 5,w 11 .add 3 10 1 3 3,m 5 11])))))) (S (R [n 4 (-1)]) N)))).c
def a35:AFunc:=⟨20,c35,[.tmp 4],2⟩
def c36:ACode:=({c:=_}:TbD (S (R [b 2 34 0,o 4 (.alloc 29 Z3)]) (S (R [d 5 0 2,d 6 0 5,d 7 0 6,l 8 3 7,d 9 0 2,d 10 0 9,d 11 3 10,f 12 1 11,m 13 1,v 14 .add 3 12 13 3 3,o 15 (.build Z3 [(0,3,(t 8)),(3,1,(t 14))]),s 4 4 15]) N))).c
def a36:AFunc:=⟨16,c36,[.cell 4 4 true],1⟩
def c37:ACode:=({c:=_}:TbD (S (R [b 3 34 1,z 4]) (S (D [m' 5 0 [2,3],ca' 6 34 5 [2,3],l' 7 10 3 [0,1],u 8 (.bsl 34 10 Z0 1 [(0,10,(t 7))]) [0,1],ca 9 34 8,o 10 (.app 77 9 56 Z2 (t 6) (t 9)),ca 11 68 10,ca 12 67 11,m 4 12]) N))).c
def a37:AFunc:=⟨13,c37,[.tmp 4],1⟩
def c38:ACode:=({c:=_}:TbD (S (R [b 1 22 0,o 2 (.mov (.const .nilFunc))]) (S (R [o 3 (.mkfn 74 [] [(t 1)]),m 2 3]) N))).c
def a38:AFunc:=⟨4,c38,[.tmp 2],0⟩
def c39:ACode:=({c:=_}:TbD (S (R [b 1 25 0,n 2 0]) (S (S (R [d 3 0 1,f 4 1 3,o 5 (.pur (mkO (.binOp .gtr 5 (t 4) (.const (.int .u8 15)) 5) 4))]) (C 5 (S (R [n 2 8]) N) K)) (S (R [n 2 0]) N)))).c
def a39:AFunc:=⟨6,c39,[.tmp 2],1⟩
def c40:ACode:=({c:=_}:TbD (S (R [b 1 34 0,bf 2]) (S (R [d 3 5 1,d 4 0 3,d 5 0 4,l 6 2 5,d 7 0 1,d 8 0 7,d 9 0 8,d 10 0 9,l 11 2 10,cb 12 41 6 11,j 13 4 12 4,m 2 13]) N))).c
def a40:AFunc:=⟨14,c40,[.tmp 2],1⟩
def c41:ACode:=({c:=_}:TbD (S (R [b 2 25 0,b 3 25 1,bf 4]) (S (R [d 5 0 2,f 6 1 5,d 7 0 3,f 8 1 7,v 9 .leq 5 6 8 5 4,m 10 9,p 11 (d_ 1 2) 10 [],p 12 (f_ 1 11) 10 [],p 13 (d_ 1 3) 10 [],p 14 (f_ 1 13) 10 [],p 15 (v_ .andNot 23 12 14 23 23) 10 [],p 16 (.pur (mkO (.binOp .eql 23 (t 15) (.const (.int .u32 0)) 23) 4)) 10 [],x 17 10 16,m 4 17]) N))).c
def a41:AFunc:=⟨18,c41,[.tmp 4],1⟩
def c42:ACode:=({c:=_}:TbD (S (R [bf 4]) (S (R [m 5 0,m 6 1,cb 7 76 5 6,w 8 .geq 3 7 0 3 4,m 4 8]) N))).c
def a42:AFunc:=⟨9,c42,[.tmp 4],1⟩
def c43:ACode:=({c:=_}:TbD (S (R [b 2 34 0,bf 3]) (S (R [d 4 0 2,d 5 0 4,d 6 0 5,d 7 0 6,l 8 2 7,l 9 2 1,cb 10 41 8 9,j 11 4 10 4,m 3 11]) N))).c
def a43:AFunc:=⟨12,c43,[.tmp 3],0⟩
def c44:ACode:=({c:=_}:TbD (S (R [z 4]) (S (R [m 8 0,m 9 1,cb 10 76 8 9,m 5 10]) (S (S (R [m 11 5,o 12 (.pur (mkO (.binOp .eql 3 (t 11) (.const (.int .i64 (-1))) 3) 4))]) (C 12 (S (R [m 13 0,m 4 13]) N) K)) (S (S (R [m 14 5,w 15 .add 3 14 1 3 3,m 6 15]) (B 0 (L (S (S (R [m 16 6,m 17 0,k 18 17,v 19 .lss 3 16 18 3 4]) (C 19 K (X 0))) (S (B 1 (S (R [m 22 0,m 23 6,i 24 10 22 23,l 25 10 24,o 7 (.alloc 34 Z0),s 10 7 25]) (S (R [m 26 1,l 27 10 7,o 28 (.call (t 26) [(t 27)]),j 29 4 28 4]) (C 29 (S (R [m 30 0,m 31 5,l 32 10 7,i 33 10 30 31,s 10 33 32]) (R [m 34 5,w 35 .add 3 34 1 3 3,m 5 35])) K)))) (R [m 20 6,w 21 .add 3 20 1 3 3,m 6 21])))))) (S (R [m 36 0,m 37 5,o 38 (.slc 10 (t 36) (some (t 37)) none none),O (.clr 10 Z0 (t 38))]) (S (R [m 39 0,m 40 5,o 41 (.slc 10 (t 39) none (some (t 40)) none),m 4 41]) N))))))).c
def a44:AFunc:=⟨42,c44,[.tmp 4],0⟩
def c45:ACode:=({c:=_}:TbD (S (R [b 1 25 0,bf 2]) (S (R [d 3 0 1,f 4 1 3,o 5 (.pur (mkO (.binOp .leq 5 (t 4) (.const (.int .u8 15)) 5) 4)),m 2 5]) N))).c
def a45:AFunc:=⟨6,c45,[.tmp 2],1⟩
def c46:ACode:=({c:=_}:TbD (S (R [bf 2]) (S (R [m 5 0,ca 6 34 5,m 3 6]) (S (S (R [n 4 0]) (B 0 (L (S (S (R [m 7 4,m 8 3,k 9 8,v 10 .lss 3 7 9 3 4]) (C 10 K (X 0))) (S (B 1 (S (D [m' 13 3 [1,7,8,9,10,11,12,13],m' 14 4 [0,7,8,9,10,11,12,13],i' 15 9 13 14 [7,8,9,10,11,12,13],d' 16 4 15 [7,8,9,10,11,12,13],d' 17 0 16 [7,8,9,10,11,12,13],d' 18 0 17 [7,8,9,10,11,12,13],l' 19 2 18 [7,8,9,10,11,12,13],m' 20 3 [0,1,2,3,4,5,6,8],m' 21 4 [0,1,2,3,4,5,6,7],i' 22 9 20 21 [0,1,2,3,4,5,6],d' 23 0 22 [0,1,2,3,4,5,6],d' 24 0 23 [0,1,2,3,4,5,6],d' 25 0 24 [0,1,2,3,4,5,6],l' 26 2 25 [0,1,2,3,4,5,6],cb 27 77 19 26,j 28 4 27 4]) (C 28 (S (R [bf 2]) N) K))) (R [m 11 4,w 12 .add 3 11 1 3 3,m 4 12])))))) (S (R [bt 2]) N))))).c
def a46:AFunc:=⟨29,c46,[.tmp 2],1⟩
def c47:ACode:=({c:=_}:TbD (S (R [b 3 25 1,z 4]) (S (R [z 5]) (S (R [m 8 0,ca 9 34 8,m 6 9]) (S (S (R [n 7 0]) (B 0 (L (S (S (R [m 10 7,m 11 6,k 12 11,v 13 .lss 3 10 12 3 4]) (C 13 K (X 0))) (S (B 1 (S (D [m' 16 6 [1,7],m' 17 7 [0,7],i' 18 9 16 17 [7],d' 19 0 18 [7],d' 20 0 19 [7],d' 21 0 20 [7],l' 22 2 21 [7],l' 23 2 3 [0,1,2,3,4,5,6],cb 24 77 22 23]) (C 24 (R [m 25 5,m 26 6,m 27 7,i 28 9 26 27,l 29 9 28,o 30 (.bsl 77 9 Z2 1 [(0,9,(t 29))]),o 31 (.app 77 9 56 Z2 (t 25) (t 30)),m 5 31]) K))) (R [m 14 7,w 15 .add 3 14 1 3 3,m 7 15])))))) (S (R [m 32 5,ca 33 67 32,m 4 33]) N)))))).c
def a47:AFunc:=⟨34,c47,[.tmp 4],1⟩
def c48:ACode:=({c:=_}:TbD (S (R [b 1 34 0,o 2 (.alloc 34 Z0)]) (S (R [d 3 9 1,f 4 1 3,ca 5 78 4,d 6 9 1,s 1 6 5]) (S (R [l 7 10 1,s 10 2 7]) N)))).c
def a48:AFunc:=⟨8,c48,[.cell 2 10 true],4⟩
def c49:ACode:=({c:=_}:TbD (S (R [b 1 34 0,bf 2]) (S (R [l 3 10 1,ca 4 23 3,w 5 .neq 38 4 0 38 4,m 2 5]) N))).c
def a49:AFunc:=⟨6,c49,[.tmp 2],1⟩
def c50:ACode:=({c:=_}:TbD (S (.region [o 2 (.alloc 4 (.bool false))] false) (S (R [o 3 (.alloc 43 (.slice none 0 0))]) (S (R [o 9 (.mkmap),o 4 (.alloc 109 (.map none)),s 1 4 9]) (S (S (R [m 10 0,ca 11 38 10]) (B 0 (.rangeFunc (.tmp 11) [12,13] (S (R [o 5 (.alloc 29 Z3),s 4 5 12]) (R [o 6 (.alloc 29 Z3),s 4 6 13])) (B 1 (.scope (S (R [o 7 (.alloc 29 Z3)]) (S .label (S (B 2 (L (S (S (R [f 14 1 3,k 15 14,w 16 .gtr 3 15 0 3 4]) (C 16 K (X 2))) (B 3 (S (R [f 17 1 3,f 18 1 3,k 19 18,w 20 .sub 3 19 1 3 3,i 21 4 17 20,l 22 4 21,o 8 (.alloc 29 Z3),s 4 8 22]) (S (S (R [l 23 4 8,l 24 4 6,v 25 .eql 29 23 24 29 4]) (C 25 (X 2) K)) (D [l' 26 4 8 [1,2,3,4,5],f' 27 1 3 [0,2,3,4,6],f' 28 1 3 [0,1,6],k' 29 28 [0,1,6],w' 30 .sub 3 29 1 3 3 [0,1,6],u 31 (.slc 4 (t 27) none (some (t 30)) none) [0,6],s' 4 7 26 [1,2,3,4,5],s 1 3 31]))))))) (S (S (.region [f 32 1 3,k 33 32,w 34 .eql 3 33 0 3 4,m 35 34,p 36 (l_ 4 6) 35 [],p 37 (.build Z3 []) 35 [],p 38 (v_ .neq 29 36 37 29 4) 35 [],x 39 35 38,m 40 39,q 41 (l_ 4 7) 40 [],q 42 (.build Z3 []) 40 [],q 43 (v_ .neq 29 41 42 29 4) 40 [],q 44 (m_ 43) 40 [],p 45 (l_ 4 5) 44 [],p 46 (l_ 4 7) 44 [],p 47 (cb_ 28 45 46) 44 [],p 48 (j_ 4 47 4) 44 [],q 49 (x_ 44 48) 40 [],y 50 40 49,m 51 50,q 52 (f_ 1 4) 51 [],q 53 (l_ 4 5) 51 [],q 54 (.lookup 29 (.int .i64 0) (t 52) (t 53) false) 51 [],q 55 (w_ .gtr 3 54 0 3 4) 51 [],y 56 51 55] false) (C 56 (S (.region [O (.store 1 (t 2) (.const (.bool false)))] false) N) K)) (S (R [f 57 1 4,l 58 4 5,O (.mupd 29 (t 57) (t 58) (.const (.int .i64 1)))]) (R [f 59 1 3,l 60 4 5,o 61 (.bsl 29 4 Z3 1 [(0,4,(t 60))]),o 62 (.app 29 4 24 Z3 (t 59) (t 61)),s 1 3 62]))))))))))) (S (.region [O (.store 1 (t 2) (.const (.bool true)))] false) N)))))).c
def a50:AFunc:=⟨63,c50,[.cell 2 1 false],1⟩
def c51:ACode:=({c:=_}:TbD (S (R [bf 6]) (S (S (R [m 10 0,k 11 10,m 12 1,k 13 12,v 14 .neq 3 11 13 3 4]) (C 14 (S (R [bf 6]) N) K)) (S (S (R [m 15 0,k 16 15,n 17 0]) (B 0 (L (S (R [v 18 .lss 3 17 16 3 0]) (S (C 18 K (X 0)) (S (B 1 (S (R [m 19 17,i 20 10 15 17,l 21 10 20,o 8 (.alloc 34 Z0),m 7 19,s 10 8 21]) (S (R [m 22 1,m 23 7,i 24 10 22 23,l 25 10 24,o 9 (.alloc 34 Z0),s 10 9 25]) (S (R [m 26 2,l 27 10 8,l 28 10 9,o 29 (.call (t 26) [(t 27),(t 28)]),j 30 4 29 4]) (C 30 (S (R [bf 6]) N) K))))) (R [w 31 .add 3 17 1 3 3,m 17 31]))))))) (S (R [bt 6]) N))))).c
def a51:AFunc:=⟨32,c51,[.tmp 6],1⟩
def c52:ACode:=({c:=_}:TbD (S (R [b 2 34 0,b 3 34 1,bf 4]) (S (R [d 5 0 2,l 6 5 5,d 7 0 3,l 8 5 7,v 9 .eql 31 6 8 31 4,m 10 9,p 11 (d_ 5 2) 10 [],p 12 (l_ 4 11) 10 [],p 13 (d_ 5 3) 10 [],p 14 (l_ 4 13) 10 [],p 15 (v_ .eql 29 12 14 29 4) 10 [],x 16 10 15,m 17 16,p 18 (d_ 9 2) 17 [],p 19 (f_ 1 18) 17 [],p 20 (d_ 9 3) 17 [],p 21 (f_ 1 20) 17 [],p 22 (cb_ 79 19 21) 17 [],x 23 17 22,m 4 23]) N))).c
def a52:AFunc:=⟨24,c52,[.tmp 4],1⟩
def c53:ACode:=({c:=_}:TbD (S (R [bf 4]) (S (S (R [m 6 0,k 7 6,m 8 1,k 9 8,v 10 .neq 3 7 9 3 4]) (C 10 (S (R [bf 4]) N) K)) (S (S (R [n 5 0]) (B 0 (L (S (S (R [m 11 5,m 12 0,k 13 12,v 14 .lss 3 11 13 3 4]) (C 14 K (X 0))) (S (B 1 (S (D [m' 17 0 [1,4,5,6,7],m' 18 5 [0,4,5,6,7],i' 19 1 17 18 [4,5,6,7],f' 20 1 19 [4,5,6,7],m' 21 1 [0,1,2,3,5],m' 22 5 [0,1,2,3,4],i' 23 1 21 22 [0,1,2,3],f' 24 1 23 [0,1,2,3],v 25 .neq 21 20 24 21 4]) (C 25 (S (R [bf 4]) N) K))) (R [m 15 5,w 16 .add 3 15 1 3 3,m 5 16])))))) (S (R [bt 4]) N))))).c
def a53:AFunc:=⟨26,c53,[.tmp 4],1⟩
def c54:ACode:=({c:=_}:TbD (S (R [b 1 29 0,n 2 0]) (S (R [d 3 0 1,l 4 3 3,ca 5 81 4,w 6 .eql 38 5 0 38 4,m 7 6,p 8 (d_ 3 1) 7 [],p 9 (f_ 1 8) 7 [],p 10 (w_ .geq 3 9 1 3 4) 7 [],x 11 7 10,m 12 11,p 13 (d_ 3 1) 12 [],p 14 (f_ 1 13) 12 [],p 15 (w_ .leq 3 14 1099511627776 3 4) 12 [],x 16 12 15,ca 17 80 16,m 2 17]) N))).c
def a54:AFunc:=⟨18,c54,[.tmp 2],1⟩
def c55:ACode:=({c:=_}:TbD (S (R [b 1 31 0,n 2 0]) (S (R [d 3 0 1,l 4 4 3,ca 5 54 4,w 6 .eql 38 5 0 38 4,m 7 6,p 8 (d_ 4 1) 7 [],p 9 (f_ 1 8) 7 [],p 10 (w_ .geq 3 9 1 3 4) 7 [],x 11 7 10,m 12 11,p 13 (d_ 4 1) 12 [],p 14 (f_ 1 13) 12 [],p 15 (w_ .leq 3 14 64 3 4) 12 [],x 16 12 15,m 17 16,p 18 (d_ 0 1) 17 [],p 19 (d_ 3 18) 17 [],p 20 (f_ 1 19) 17 [],p 21 (d_ 4 1) 17 [],p 22 (f_ 1 21) 17 [],p 23 (v_ .add 3 20 22 3 3) 17 [],p 24 (w_ .sub 3 23 1 3 3) 17 [],p 25 (w_ .leq 3 24 1099511627776 3 4) 17 [],x 26 17 25,ca 27 80 26,m 2 27]) N))).c
def a55:AFunc:=⟨28,c55,[.tmp 2],1⟩
def c56:ACode:=({c:=_}:TbD (S (R [n 2 0]) (S (R [o 3 (.mov (.func 82))]) (S (B 0 (S (R [m 5 0,k 6 5,w 7 .gtr 3 6 64 3 4,m 4 7]) (C 4 (S (R [n 2 4]) N) (S (R [m 9 0,m 10 3,cb 11 84 9 10,m 8 11]) (C 8 (S (R [n 2 8]) N) K))))) (S (R [n 2 0]) N))))).c
def a56:AFunc:=⟨12,c56,[.tmp 2],1⟩
def c57:ACode:=({c:=_}:TbD (S (R [b 2 31 0,b 3 29 1,n 4 0,bf 5]) (S (R [d 7 3 3,f 8 1 7,d 9 0 2,d 10 3 9,f 11 1 10,v 12 .sub 3 8 11 3 3,m 6 12]) (S (S (D [l 13 5 2,ca 14 55 13,w 15 .neq 38 14 0 38 4,m 16 15,q 17 (m_ 6) 16 [],q 18 (w_ .lss 3 17 0 3 4) 16 [],y 19 16 18,m 20 19,q 21 (m_ 6) 20 [9,10],q 22 (d_ 4 2) 20 [8],q 23 (f_ 1 22) 20 [8],q 24 (v_ .geq 3 21 23 3 4) 20 [],y 25 20 24,m 26 25,q 27 (l_ 4 3) 26 [15,16,17,18],q 28 (d_ 0 2) 26 [14,17],q 29 (l_ 4 28) 26 [14,17],q 30 (m_ 6) 26 [14,15,16],q 31 (cb_ 58 29 30) 26 [14],q 32 (v_ .neq 29 27 31 29 4) 26 [],y 33 26 32]) (C 33 (S (R [n 4 0,bf 5]) N) K)) (S (R [m 34 6,m 4 34,bt 5]) N))))).c
def a57:AFunc:=⟨35,c57,[.tmp 4,.tmp 5],1⟩
def c58:ACode:=({c:=_}:TbD (S (R [b 2 29 0,o 4 (.alloc 29 Z3)]) (S (R [d 5 3 2,f 6 1 5,m 7 1,v 8 .add 3 6 7 3 3,d 9 3 2,s 1 9 8]) (S (R [l 10 4 2,s 4 4 10]) N)))).c
def a58:AFunc:=⟨11,c58,[.cell 4 4 true],1⟩
def c59:ACode:=({c:=_}:TbD (S (R [b 2 34 0,o 4 (.alloc 34 Z0),o 5 (.alloc 34 Z0),n 6 0]) (S (S (R [l 11 10 2,ca 12 23 11,m 7 12]) (S (R [m 13 7,w 14 .neq 38 13 0 38 4]) (C 14 (S (D [l' 15 10 4 [1,2],l' 16 10 5 [0,2,3],m' 17 7 [0,1,3,4],s' 10 4 15 [1,2],s' 10 5 16 [2],m 6 17]) N) K))) (S (R [d 19 0 2,l 20 5 19,m 21 1,cb 22 85 20 21,m 18 22,e 23 18 0,e 24 18 1,e 25 18 2,o 8 (.alloc 31 Z1),o 9 (.alloc 31 Z1),s 5 8 23,s 5 9 24,m 6 25]) (S (S (R [m 26 6,w 27 .neq 38 26 0 38 4]) (C 27 (S (D [l' 28 10 4 [1,2],l' 29 10 5 [0,2,3],m' 30 6 [0,1,3,4],s' 10 4 28 [1,2],s' 10 5 29 [2],m 6 30]) N) K)) (S (R [l 32 5 8,m 33 1,w 34 .sub 3 33 1 3 3,cb 35 25 32 34,m 31 35,e 36 31 0,e 37 31 1,o 10 (.alloc 29 Z3),s 4 10 36,m 6 37]) (S (D [l' 38 5 8 [1,2,3,4,5,6,9,10,11,12,13,14,15,17],d' 39 5 2 [0,3,4,5,6,9,10,11,12,13,14,15,17],l' 40 4 39 [0,3,4,5,6,9,10,11,12,13,14,15,17],d' 41 9 2 [0,1,2,5,9,10,11,12,13,14,15,17],f' 42 1 41 [0,1,2,5,9,10,11,12,13,14,15,17],m' 43 1 [0,1,2,3,4,9,10,11,12,13,14,15,17],u 44 (.slc 1 (t 42) none (some (t 43)) none) [0,1,2,9,10,11,12,13,14,15,17],u 45 (.build Z0 [(0,5,(t 38)),(5,4,(t 40)),(9,1,(t 44))]) [9,10,11,12,13,14,15,17],ca' 46 86 45 [9,10,11,12,13,14,15,17],l' 47 5 9 [0,1,2,3,4,5,6,7,8,10,11,12,13,14,17],l' 48 4 10 [0,1,2,3,4,5,6,7,8,9,11,12,13,14,17],d' 49 9 2 [0,1,2,3,4,5,6,7,8,9,10,13,17],f' 50 1 49 [0,1,2,3,4,5,6,7,8,9,10,13,17],m' 51 1 [0,1,2,3,4,5,6,7,8,9,10,11,12,17],u 52 (.slc 1 (t 50) (some (t 51)) none none) [0,1,2,3,4,5,6,7,8,9,10,17],u 53 (.build Z0 [(0,5,(t 47)),(5,4,(t 48)),(9,1,(t 52))]) [0,1,2,3,4,5,6,7,8,17],ca' 54 86 53 [17],m' 55 6 [0,1,2,3,4,5,6,7,8,9,10,11,12,13,14,15,16,18,19],s' 10 4 46 [17],s' 10 5 54 [17],m 6 55]) N))))))).c
def a59:AFunc:=⟨56,c59,[.cell 4 10 true,.cell 5 10 true,.tmp 6],5⟩
def c60:ACode:=({c:=_}:TbD (S (R [z 2]) (S (R [n 3 0]) (S (S (R [m 9 0,k 10 9,n 11 0]) (B 0 (L (S (R [v 12 .lss 3 11 10 3 0]) (S (C 12 K (X 0)) (S (B 1 (S (R [i 13 1 9 11,f 14 1 13,m 5 14]) (S (R [m 15 3,m 16 5,k 17 16,v 18 .add 3 15 17 3 3,m 3 18]) (S (R [m 19 3,w 20 .lss 3 19 0 3 4]) (C 20 (R [o 21 (.bad "op"),O (.bad "op")]) K))))) (R [w 22 .add 3 11 1 3 3,m 11 22]))))))) (S (R [m 23 3,o 24 (.call (.func 87) [(.const (.slice none 0 0)),(t 23)]),m 6 24]) (S (S (R [m 25 0,k 26 25,n 27 0]) (B 2 (L (S (R [v 28 .lss 3 27 26 3 0]) (S (C 28 K (X 2)) (S (B 3 (S (R [i 29 1 25 27,f 30 1 29,m 8 30]) (R [m 31 6,m 32 8,o 33 (.app 34 10 80 Z0 (t 31) (t 32)),m 6 33]))) (R [w 34 .add 3 27 1 3 3,m 27 34]))))))) (S (R [m 35 6,m 2 35]) N))))))).c
def a60:AFunc:=⟨36,c60,[.tmp 2],0⟩
def c61:ACode:=({c:=_}:TbD (S (R [b 2 25 0,b 3 25 1,bf 4]) (S (R [d 6 0 3,f 7 1 6,d 8 1 2,f 9 1 8,o 10 (.build Z4 [(0,1,(t 7)),(1,1,(t 9))]),o 5 (.alloc 25 Z4),s 2 5 10]) (S (R [d 11 0 2,f 12 1 11,d 13 0 3,f 14 1 13,v 15 .lss 5 12 14 5 4,m 16 15,q 17 (l_ 2 2) 16 [],q 18 (l_ 2 5) 16 [],q 19 (v_ .eql 25 17 18 25 4) 16 [],q 20 (m_ 19) 16 [],p 21 (d_ 1 2) 20 [],p 22 (f_ 1 21) 20 [],p 23 (d_ 1 3) 20 [],p 24 (f_ 1 23) 20 [],p 25 (v_ .lss 23 22 24 23 4) 20 [],q 26 (x_ 20 25) 16 [],y 27 16 26,m 4 27]) N)))).c
def a61:AFunc:=⟨28,c61,[.tmp 4],1⟩
def c62:ACode:=({c:=_}:TbD (S (R [b 1 34 0,o 2 (.alloc 29 Z3)]) (S (R [d 6 0 1,l 7 5 6,d 8 0 1,d 9 4 8,f 10 1 9,w 11 .sub 3 10 1 3 3,cb 12 25 7 11,m 5 12,e 13 5 0,e 14 5 1,o 3 (.alloc 29 Z3),s 4 3 13,m 4 14]) (S (R [l 15 4 3,s 4 2 15]) N)))).c
def a62:AFunc:=⟨16,c62,[.cell 2 4 true],5⟩
def c63:ACode:=({c:=_}:TbD (S (R [b 2 34 0,b 3 34 1,o 4 (.alloc 34 Z0),n 5 0]) (S (S (D [l' 11 10 2 [2],ca' 12 23 11 [2],l' 13 10 3 [0,1],ca 14 23 13,o 15 (.pur (mkO (.call ⟨.builtin .max,#[(t 12),(t 14)],#[38,38]⟩) 38)),m 6 15]) (S (R [m 16 6,w 17 .neq 38 16 0 38 4]) (C 17 (S (R [o 18 (.build Z0 []),m 19 6,s 10 4 18,m 5 19]) N) K))) (S (D [d' 20 0 2 [3,4,5,6,7,8,9,11,12,13,14,15,16,18],d' 21 0 20 [3,4,5,6,7,8,9,11,12,13,14,15,16,18],l' 22 4 21 [3,4,5,6,7,8,9,11,12,13,14,15,16,18],d' 23 0 2 [0,1,2,6,7,8,11,12,13,14,15,16,18],d' 24 4 23 [0,1,2,6,7,8,11,12,13,14,15,16,18],f' 25 1 24 [0,1,2,6,7,8,11,12,13,14,15,16,18],d' 26 0 3 [0,1,2,3,4,5,11,12,13,14,15,16,18],d' 27 4 26 [0,1,2,3,4,5,11,12,13,14,15,16,18],f' 28 1 27 [0,1,2,3,4,5,11,12,13,14,15,16,18],v' 29 .add 3 25 28 3 3 [0,1,2,11,12,13,14,15,16,18],u 30 (.build Z1 [(0,4,(t 22)),(4,1,(t 29))]) [11,12,13,14,15,16,18],d' 31 5 2 [0,1,2,3,4,5,6,7,8,9,10,13,14,15,16,18],l' 32 4 31 [0,1,2,3,4,5,6,7,8,9,10,13,14,15,16,18],l' 33 10 2 [0,1,2,3,4,5,6,7,8,9,10,11,12,14,18],l' 34 10 3 [0,1,2,3,4,5,6,7,8,9,10,11,12,13,18],u 35 (.bsl 34 10 Z0 2 [(0,10,(t 33)),(10,10,(t 34))]) [0,1,2,3,4,5,6,7,8,9,10,11,12,18],ca' 36 88 35 [0,1,2,3,4,5,6,7,8,9,10,11,12,18],u 37 (.build Z0 [(0,5,(t 30)),(5,4,(t 32)),(9,1,(t 36))]) [18],u 7 (.alloc 34 Z0) [0,1,2,3,4,5,6,7,8,9,10,11,12,13,14,15,16,17],s 10 7 37]) (S (S (R [l 39 10 7,d 40 0 2,d 41 4 40,f 42 1 41,cb 43 59 39 42,m 38 43,e 44 38 0,e 45 38 1,e 46 38 2,o 8 (.alloc 34 Z0),o 9 (.alloc 34 Z0),s 10 8 44,s 10 9 45,m 10 46]) (S (R [m 47 10,w 48 .neq 38 47 0 38 4,m 49 48,q 50 (l_ 10 8) 49 [],q 51 (l_ 10 2) 49 [],q 52 (cb_ 52 50 51) 49 [],q 53 (j_ 4 52 4) 49 [],y 54 49 53,m 55 54,q 56 (l_ 10 9) 55 [],q 57 (l_ 10 3) 55 [],q 58 (cb_ 52 56 57) 55 [],q 59 (j_ 4 58 4) 55 [],y 60 55 59]) (C 60 (S (R [o 61 (.build Z0 []),s 10 4 61,n 5 2]) N) K))) (S (R [l 62 10 7,s 10 4 62,n 5 0]) N)))))).c
def a63:AFunc:=⟨63,c63,[.cell 4 10 true,.tmp 5],4⟩
def c65:ACode:=({c:=_}:TbD (R [m 4 0,m 5 0,k 6 5,m 7 1,v 8 .sub 3 6 7 3 3,cb 9 89 4 8])).c
def a65:AFunc:=⟨10,c65,[],0⟩
def c66:ACode:=({c:=_}:TbD (S (R [bf 2]) (S (S (R [n 3 0]) (B 0 (L (S (S (R [m 4 3,m 5 0,k 6 5,v 7 .lss 3 4 6 3 4]) (C 7 K (X 0))) (S (B 1 (S (R [m 10 0,m 11 0,m 12 3,i 13 9 11 12,d 14 0 13,l 15 4 14,cb 16 35 10 15,m 17 3,v 18 .neq 3 16 17 3 4,m 19 18,q 20 (m_ 0) 19 [],q 21 (m_ 3) 19 [],q 22 (i_ 9 20 21) 19 [],q 23 (d_ 4 22) 19 [],q 24 (l_ 4 23) 19 [],q 25 (.build Z3 []) 19 [],q 26 (v_ .neq 29 24 25 29 4) 19 [],q 27 (m_ 26) 19 [],p 28 (m_ 0) 27 [],p 29 (m_ 0) 27 [],p 30 (m_ 3) 27 [],p 31 (i_ 9 29 30) 27 [],p 32 (d_ 4 31) 27 [],p 33 (l_ 4 32) 27 [],p 34 (cb_ 35 28 33) 27 [],p 35 (w_ .lss 3 34 0 3 4) 27 [],q 36 (x_ 27 35) 19 [],y 37 19 36]) (C 37 (S (R [bf 2]) N) K))) (R [m 8 3,w 9 .add 3 8 1 3 3,m 3 9])))))) (S (R [bt 2]) N)))).c
def a66:AFunc:=⟨38,c66,[.tmp 2],1⟩
def c67:ACode:=({c:=_}:TbD (S (R [z 2]) (S (R [z 3]) (S (S (R [n 4 0]) (B 0 (L (S (S (R [m 6 4,m 7 0,k 8 7,v 9 .lss 3 6 8 3 4]) (C 9 K (X 0))) (S (B 1 (S (R [m 12 3,k 13 12,m 5 13]) (S (S (D [m 14 5,w 15 .gtr 3 14 0 3 4,m 16 15,p 17 (m_ 3) 16 [4,5,8,9,10,11],p 18 (m_ 5) 16 [3,8,9,10,11],p 19 (w_ .sub 3 18 1 3 3) 16 [3,8,9,10,11],p 20 (i_ 10 17 19) 16 [8,9,10,11],p 21 (l_ 10 20) 16 [8,9,10,11],p 22 (m_ 0) 16 [3,4,5,6,7,9],p 23 (m_ 4) 16 [3,4,5,6,7,8],p 24 (i_ 9 22 23) 16 [3,4,5,6,7],p 25 (l_ 9 24) 16 [3,4,5,6,7],p 26 (cb_ 90 21 25) 16 [],x 27 16 26]) (C 27 (S (R [m 28 3,m 29 5,w 30 .sub 3 29 1 3 3,m 31 3,m 32 5,w 33 .sub 3 32 1 3 3,i 34 10 31 33,d 35 0 34,d 36 4 35,f 37 1 36,w 38 .add 3 37 1 3 3,i 39 10 28 30,d 40 0 39,d 41 4 40,s 1 41 38]) (S (D [m' 42 3 [1,2,3,4,5,6,7,8,9,10,11,12,13,14,15],m' 43 5 [0,3,4,5,6,7,8,9,10,11,12,13,14,15],w' 44 .sub 3 43 1 3 3 [0,3,4,5,6,7,8,9,10,11,12,13,14,15],m' 45 3 [0,1,2,4,5,9,10,11,12,13,14],m' 46 5 [0,1,2,3,9,10,11,12,13,14],w' 47 .sub 3 46 1 3 3 [0,1,2,3,9,10,11,12,13,14],i' 48 10 45 47 [0,1,2,9,10,11,12,13,14],d' 49 9 48 [0,1,2,9,10,11,12,13,14],f' 50 1 49 [0,1,2,9,10,11,12,13,14],m' 51 0 [0,1,2,3,4,5,6,7,8,10],m' 52 4 [0,1,2,3,4,5,6,7,8,9],i' 53 9 51 52 [0,1,2,3,4,5,6,7,8],d' 54 8 53 [0,1,2,3,4,5,6,7,8],f' 55 1 54 [0,1,2,3,4,5,6,7,8],u 56 (.bsl 21 1 (.int .i32 0) 1 [(0,1,(t 55))]) [0,1,2,3,4,5,6,7,8],u 57 (.app 21 1 4 (.int .i32 0) (t 50) (t 56)) [0,1,2],i 58 10 42 44,d 59 9 58,s 1 59 57]) (X 1))) K)) (D [m' 60 3 [1,2,3,4,5,6,7,8,9,10,11,12,13,14,15,16,17,18,19],m' 61 0 [0,2,7,8,9,10,11,12,13,14,15,16,17],m' 62 4 [0,1,7,8,9,10,11,12,13,14,15,16,17],i' 63 9 61 62 [0,7,8,9,10,11,12,13,14,15,16,17],d' 64 0 63 [0,7,8,9,10,11,12,13,14,15,16,17],l' 65 4 64 [0,7,8,9,10,11,12,13,14,15,16,17],u 66 (.build Z1 [(0,4,(t 65)),(4,1,(.const (.int .i64 1)))]) [0,7,8,9,10,11,12,13,14,15,16,17],m' 67 0 [0,1,2,3,4,5,6,8,12,13,14,15,16,17],m' 68 4 [0,1,2,3,4,5,6,7,12,13,14,15,16,17],i' 69 9 67 68 [0,1,2,3,4,5,6,12,13,14,15,16,17],d' 70 4 69 [0,1,2,3,4,5,6,12,13,14,15,16,17],l' 71 4 70 [0,1,2,3,4,5,6,12,13,14,15,16,17],m' 72 0 [0,1,2,3,4,5,6,7,8,9,10,11,13],m' 73 4 [0,1,2,3,4,5,6,7,8,9,10,11,12],i' 74 9 72 73 [0,1,2,3,4,5,6,7,8,9,10,11],d' 75 8 74 [0,1,2,3,4,5,6,7,8,9,10,11],f' 76 1 75 [0,1,2,3,4,5,6,7,8,9,10,11],u 77 (.bsl 21 1 (.int .i32 0) 1 [(0,1,(t 76))]) [0,1,2,3,4,5,6,7,8,9,10,11],u 78 (.build Z0 [(0,5,(t 66)),(5,4,(t 71)),(9,1,(t 77))]) [0],u 79 (.bsl 34 10 Z0 1 [(0,10,(t 78))]) [0],o 80 (.app 34 10 80 Z0 (t 60) (t 79)),m 3 80])))) (R [m 10 4,w 11 .add 3 10 1 3 3,m 4 11])))))) (S (R [m 81 3,m 2 81]) N))))).c
def a67:AFunc:=⟨82,c67,[.tmp 2],1⟩
def c68:ACode:=({c:=_}:TbD (S (R [z 2]) (S (R [z 3]) (S (R [z 4]) (S (S (R [n 5 0]) (B 0 (L (S (S (R [m 10 5,m 11 0,k 12 11,v 13 .lss 3 10 12 3 4]) (C 13 K (X 0))) (S (B 1 (S (R [m 16 0,m 17 0,m 18 5,i 19 9 17 18,l 20 9 19,cb 21 91 16 20,m 6 21]) (S (R [n 7 0]) (S (B 2 (L (S (S (R [m 22 7,m 23 3,k 24 23,v 25 .lss 3 22 24 3 4,m 26 25,p 27 (m_ 6) 26 [],p 28 (m_ 4) 26 [],p 29 (m_ 7) 26 [],p 30 (i_ 1 28 29) 26 [],p 31 (f_ 1 30) 26 [],p 32 (cb_ 92 27 31) 26 [],p 33 (j_ 4 32 4) 26 [],x 34 26 33]) (C 34 K (X 2))) (B 3 (R [m 35 7,w 36 .add 3 35 1 3 3,m 7 36]))))) (S (R [z 8]) (S (R [z 9]) (S (D [m' 37 8 [1,2,3,5,6,7,8,9,11,12,13],m' 38 3 [0,2,5,6,7,8,9,11,12,13],m' 39 7 [0,1,5,6,7,8,9,11,12,13],u 40 (.slc 9 (t 38) none (some (t 39)) none) [0,5,6,7,8,9,11,12,13],u 41 (.app 77 9 56 Z2 (t 37) (t 40)) [5,6,7,8,9,11,12,13],m' 42 0 [0,1,2,3,4,6,11,12,13],m' 43 5 [0,1,2,3,4,5,11,12,13],i' 44 9 42 43 [0,1,2,3,4,11,12,13],l' 45 9 44 [0,1,2,3,4,11,12,13],u 46 (.bsl 77 9 Z2 1 [(0,9,(t 45))]) [0,1,2,3,4,11,12,13],u 47 (.app 77 9 56 Z2 (t 41) (t 46)) [11,12,13],m' 48 3 [0,1,2,3,4,5,6,7,8,9,10,12],m' 49 7 [0,1,2,3,4,5,6,7,8,9,10,11],u 50 (.slc 9 (t 48) (some (t 49)) none none) [0,1,2,3,4,5,6,7,8,9,10],o 51 (.app 77 9 56 Z2 (t 47) (t 50)),m 8 51]) (S (D [m' 52 9 [1,2,3,5,6,8,9,10],m' 53 4 [0,2,5,6,8,9,10],m' 54 7 [0,1,5,6,8,9,10],u 55 (.slc 1 (t 53) none (some (t 54)) none) [0,5,6,8,9,10],u 56 (.app 43 1 24 (.slice none 0 0) (t 52) (t 55)) [5,6,8,9,10],m' 57 6 [0,1,2,3,4,8,9,10],u 58 (.bsl 43 1 (.slice none 0 0) 1 [(0,1,(t 57))]) [0,1,2,3,4,8,9,10],u 59 (.app 43 1 24 (.slice none 0 0) (t 56) (t 58)) [8,9,10],m' 60 4 [0,1,2,3,4,5,6,7,9],m' 61 7 [0,1,2,3,4,5,6,7,8],u 62 (.slc 1 (t 60) (some (t 61)) none none) [0,1,2,3,4,5,6,7],o 63 (.app 43 1 24 (.slice none 0 0) (t 59) (t 62)),m 9 63]) (S (R [m 64 8,m 3 64]) (R [m 65 9,m 4 65])))))))))) (R [m 14 5,w 15 .add 3 14 1 3 3,m 5 15])))))) (S (R [m 66 3,m 2 66]) N)))))).c
def a68:AFunc:=⟨67,c68,[.tmp 2],1⟩
def c69:ACode:=({c:=_}:TbD (S (R [b 1 31 0,bf 2]) (S (R [d 3 0 1,l 4 4 3,ca 5 72 4,m 6 5,p 7 (d_ 4 1) 6 [],p 8 (f_ 1 7) 6 [],p 9 (w_ .geq 3 8 1 3 4) 6 [],x 10 6 9,m 11 10,p 12 (d_ 4 1) 11 [],p 13 (f_ 1 12) 11 [],p 14 (w_ .leq 3 13 64 3 4) 11 [],x 15 11 14,m 16 15,p 17 (d_ 0 1) 16 [],p 18 (d_ 3 17) 16 [],p 19 (f_ 1 18) 16 [],p 20 (d_ 4 1) 16 [],p 21 (f_ 1 20) 16 [],p 22 (.pur (mkO (.binOp .sub 3 (.const (.int .i64 1099511627777)) (t 21) 3) 3)) 16 [],p 23 (v_ .leq 3 19 22 3 4) 16 [],x 24 16 23,m 2 24]) N))).c
def a69:AFunc:=⟨25,c69,[.tmp 2],1⟩
def c70:ACode:=({c:=_}:TbD (S (R [n 2 0]) (S (S (R [m 4 0,k 5 4,w 6 .gtr 3 5 64 3 4]) (C 6 (S (R [n 2 4]) N) K)) (S (S (R [n 3 0]) (B 0 (L (S (S (R [m 7 3,m 8 0,k 9 8,v 10 .lss 3 7 9 3 4]) (C 10 K (X 0))) (S (B 1 (S (R [m 13 0,m 14 3,i 15 1 13 14,f 16 1 15,o 17 (.pur (mkO (.binOp .neq 21 (t 16) (.const (.int .i32 (-1))) 21) 4)),m 18 17,p 19 (m_ 0) 18 [],p 20 (m_ 3) 18 [],p 21 (i_ 1 19 20) 18 [],p 22 (f_ 1 21) 18 [],p 23 (.pur (mkO (.convert 21 3 (t 22)) 3)) 18 [],p 24 (ca_ 93 23) 18 [],p 25 (j_ 4 24 4) 18 [],x 26 18 25]) (C 26 (S (R [n 2 8]) N) K))) (R [m 11 3,w 12 .add 3 11 1 3 3,m 3 12])))))) (S (R [n 2 0]) N))))).c
def a70:AFunc:=⟨27,c70,[.tmp 2],1⟩
def c71:ACode:=({c:=_}:TbD (S (R [b 1 29 0,bf 2]) (S (R [l 3 4 1,o 4 (.build Z3 []),v 5 .eql 29 3 4 29 4,m 2 5]) N))).c
def a71:AFunc:=⟨6,c71,[.tmp 2],1⟩
def c72:ACode:=({c:=_}:TbD (S (R [b 1 29 0,bf 2]) (S (R [d 3 0 1,l 4 3 3,ca 5 94 4,m 6 5,p 7 (d_ 3 1) 6 [],p 8 (f_ 1 7) 6 [],p 9 (w_ .geq 3 8 1 3 4) 6 [],x 10 6 9,m 11 10,p 12 (d_ 3 1) 11 [],p 13 (f_ 1 12) 11 [],p 14 (w_ .leq 3 13 1099511627776 3 4) 11 [],x 15 11 14,m 2 15]) N))).c
def a72:AFunc:=⟨16,c72,[.tmp 2],1⟩
def c73:ACode:=({c:=_}:TbD (S (R [b 2 34 0,o 4 (.alloc 29 Z3)]) (S (S (R [m 5 1,w 6 .eql 3 5 0 3 4]) (C 6 (S (R [d 7 5 2,l 8 4 7,s 4 4 8]) N) K)) (S (R [l 9 10 2,m 10 1,w 11 .sub 3 10 1 3 3,cb 12 36 9 11,s 4 4 12]) N)))).c
def a73:AFunc:=⟨13,c73,[.cell 4 4 true],1⟩
def c74:ACode:=({c:=_}:TbD (S (R [f 10 1 1,k 11 10,n 12 0]) (B 0 (L (S (R [v 13 .lss 3 12 11 3 0]) (S (C 13 K (X 0)) (S (B 1 (S (R [i 14 10 10 12,l 15 10 14,o 4 (.alloc 34 Z0),s 10 4 15]) (S (R [d 16 0 4,d 17 4 16,f 18 1 17,n 19 0]) (B 2 (L (S (R [v 20 .lss 3 19 18 3 4]) (S (C 20 K (X 2)) (S (B 3 (S (R [m 21 19,m 5 21]) (S (R [l 23 10 4,m 24 5,cb 25 75 23 24,m 22 25,e 26 22 0,e 27 22 1,e 28 22 2,e 29 22 3,o 6 (.alloc 29 Z3),o 7 (.alloc 29 Z3),s 4 6 26,s 4 7 27,m 8 28,m 9 29]) (S (R [m 30 0,l 31 4 6,l 32 4 7,o 33 (.call (t 30) [(t 31),(t 32)]),j 34 4 33 4]) (C 34 N K))))) (R [w 35 .add 3 19 1 3 3,m 19 35]))))))))) (R [w 36 .add 3 12 1 3 3,m 12 36])))))))).c
def a74:AFunc:=⟨37,c74,[],0⟩
def c75:ACode:=({c:=_}:TbD (S (R [b 2 34 0,o 4 (.alloc 29 Z3),o 5 (.alloc 29 Z3),o 6 (.mov (.const (.int .i32 0))),n 7 0]) (S (S (R [l 9 10 2,ca 10 23 9,m 8 10]) (S (R [m 11 8,w 12 .neq 38 11 0 38 4]) (C 12 (S (D [l' 13 4 4 [1,2],l' 14 4 5 [0,2,3],m' 15 8 [0,1,3,4,5],s' 4 4 13 [1,2],s' 4 5 14 [2],u 6 (.mov (.const (.int .i32 0))) [2],m 7 15]) N) K))) (S (S (R [d 17 0 2,l 18 5 17,m 19 1,cb 20 25 18 19,m 16 20,e 21 16 0,e 22 16 1,s 4 4 21,m 7 22]) (S (R [m 23 7,w 24 .neq 38 23 0 38 4]) (C 24 (S (D [l' 25 4 4 [1,2],l' 26 4 5 [0,2,3],m' 27 7 [0,1,3,4,5],s' 4 4 25 [1,2],s' 4 5 26 [2],u 6 (.mov (.const (.int .i32 0))) [2],m 7 27]) N) K))) (S (R [d 28 5 2,l 29 4 28,s 4 5 29]) (S (S (R [m 30 1,w 31 .gtr 3 30 0 3 4]) (C 31 (R [d 33 0 2,l 34 5 33,m 35 1,w 36 .sub 3 35 1 3 3,cb 37 25 34 36,m 32 37,e 38 32 0,e 39 32 1,s 4 5 38,m 7 39]) K)) (S (D [l' 40 4 4 [1,2,3,4,5,6,7],l' 41 4 5 [0,2,3,4,5,6,7,8],d' 42 9 2 [0,1,4,7,8,9],f' 43 1 42 [0,1,4,7,8,9],m' 44 1 [0,1,2,3,7,8,9],i' 45 1 43 44 [0,1,7,8,9],f' 46 1 45 [0,1,7,8,9],m' 47 7 [0,1,2,3,4,5,6,8,9,10],s' 4 4 40 [1,2,3,4,5,6,7],s' 4 5 41 [2,3,4,5,6,7],m' 6 46 [7],m 7 47]) N))))))).c
def a75:AFunc:=⟨48,c75,[.cell 4 4 true,.cell 5 4 true,.tmp 6,.tmp 7],1⟩
def c76:ACode:=({c:=_}:TbD (S (R [n 4 0]) (S (S (R [m 6 0,k 7 6,n 8 0]) (B 0 (L (S (R [v 9 .lss 3 8 7 3 0]) (S (C 9 K (X 0)) (S (B 1 (S (R [m 10 8,m 5 10]) (S (R [m 11 1,m 12 0,m 13 5,i 14 10 12 13,l 15 10 14,o 16 (.call (t 11) [(t 15)])]) (C 16 (S (R [m 17 5,m 4 17]) N) K)))) (R [w 18 .add 3 8 1 3 3,m 8 18]))))))) (S (R [n 4 (-1)]) N)))).c
def a76:AFunc:=⟨19,c76,[.tmp 4],0⟩
def c77:ACode:=({c:=_}:TbD (S (R [b 2 25 0,b 3 25 1,bf 4]) (S (S (R [n 5 0]) (B 0 (L (S (S (R [m 6 5,w 7 .lss 3 6 32 3 4]) (C 7 K (X 0))) (S (B 1 (S (R [l 10 2 2,m 11 5,cb 12 95 10 11,m 13 12,p 14 (l_ 2 3) 13 [],p 15 (m_ 5) 13 [],p 16 (cb_ 95 14 15) 13 [],p 17 (j_ 4 16 4) 13 [],x 18 13 17]) (C 18 (S (R [bf 4]) N) K))) (R [m 8 5,w 9 .add 3 8 1 3 3,m 5 9])))))) (S (R [d 19 0 2,f 20 1 19,d 21 0 3,f 22 1 21,v 23 .leq 5 20 22 5 4,m 4 23]) N)))).c
def a77:AFunc:=⟨24,c77,[.tmp 4],1⟩
def c78:ACode:=({c:=_}:TbD (S (R [z 2]) (S (S (R [m 3 0,o 4 (.eqnil false 1 (t 3) (mkO (.binOp .eql 32 (t 3) (.const (.slice none 0 0)) 32) 4))]) (C 4 (S (R [z 2]) N) K)) (S (R [o 5 (.bsl 21 1 (.int .i32 0) 0 []),m 6 0,o 7 (.app 21 1 4 (.int .i32 0) (t 5) (t 6)),m 2 7]) N)))).c
def a78:AFunc:=⟨8,c78,[.tmp 2],0⟩
def c79:ACode:=({c:=_}:TbD (S (R [bf 4]) (S (S (R [m 6 0,k 7 6,m 8 1,k 9 8,v 10 .neq 3 7 9 3 4]) (C 10 (S (R [bf 4]) N) K)) (S (S (R [m 11 0,k 12 11,n 13 0]) (B 0 (L (S (R [v 14 .lss 3 13 12 3 0]) (S (C 14 K (X 0)) (S (B 1 (S (R [m 15 13,m 5 15]) (S (D [m' 16 0 [1,4,5,6,7],m' 17 5 [0,4,5,6,7],i' 18 1 16 17 [4,5,6,7],f' 19 1 18 [4,5,6,7],m' 20 1 [0,1,2,3,5],m' 21 5 [0,1,2,3,4],i' 22 1 20 21 [0,1,2,3],f' 23 1 22 [0,1,2,3],v 24 .neq 21 19 23 21 4]) (C 24 (S (R [bf 4]) N) K)))) (R [w 25 .add 3 13 1 3 3,m 13 25]))))))) (S (R [bt 4]) N))))).c
def a79:AFunc:=⟨26,c79,[.tmp 4],1⟩
def c80:ACode:=({c:=_}:TbD (S (R [n 2 0]) (S (S (R [m 3 0]) (C 3 (S (R [n 2 0]) N) K)) (S (R [n 2 8]) N)))).c
def a80:AFunc:=⟨4,c80,[.tmp 2],1⟩
def c81:ACode:=({c:=_}:TbD (S (R [b 1 27 0,n 2 0]) (S (R [d 3 0 1,l 4 2 3,ca 5 39 4,w 6 .eql 38 5 0 38 4,m 7 6,p 8 (d_ 2 1) 7 [],p 9 (f_ 1 8) 7 [],p 10 (.pur (mkO (.binOp .lss 5 (t 9) (.const (.int .u8 8)) 5) 4)) 7 [],x 11 7 10,ca 12 80 11,m 2 12]) N))).c
def a81:AFunc:=⟨13,c81,[.tmp 2],1⟩
def c82:ACode:=({c:=_}:TbD (S (R [bf 2]) (S (R [m 3 0,o 4 (.pur (mkO (.binOp .neq 21 (t 3) (.const (.int .i32 (-1))) 21) 4)),m 5 4,p 6 (m_ 0) 5 [],p 7 (ca_ 83 6) 5 [],p 8 (j_ 4 7 4) 5 [],x 9 5 8,m 2 9]) N))).c
def a82:AFunc:=⟨10,c82,[.tmp 2],1⟩
def c83:ACode:=({c:=_}:TbD (S (R [bf 2]) (S (B 0 (S (R [m 4 0,o 5 (.pur (mkO (.binOp .leq 21 (.const (.int .i32 0)) (t 4) 21) 4)),m 6 5,p 7 (m_ 0) 6 [],p 8 (.pur (mkO (.binOp .lss 21 (t 7) (.const (.int .i32 55296)) 21) 4)) 6 [],x 9 6 8,m 3 9]) (C 3 (S (R [bt 2]) N) (S (R [m 11 0,o 12 (.pur (mkO (.binOp .lss 21 (.const (.int .i32 57343)) (t 11) 21) 4)),m 13 12,p 14 (m_ 0) 13 [],p 15 (.pur (mkO (.binOp .leq 21 (t 14) (.const (.int .i32 1114111)) 21) 4)) 13 [],x 16 13 15,m 10 16]) (C 10 (S (R [bt 2]) N) K))))) (S (R [bf 2]) N)))).c
def a83:AFunc:=⟨17,c83,[.tmp 2],1⟩
def c84:ACode:=({c:=_}:TbD (S (R [bf 4]) (S (R [m 5 0,m 6 1,cb 7 96 5 6,w 8 .geq 3 7 0 3 4,m 4 8]) N))).c
def a84:AFunc:=⟨9,c84,[.tmp 4],1⟩
def c85:ACode:=({c:=_}:TbD (S (R [b 2 31 0,o 4 (.alloc 31 Z1),o 5 (.alloc 31 Z1),n 6 0]) (S (R [l 9 5 2,m 10 1,cb 11 25 9 10,m 8 11,e 12 8 0,e 13 8 1,o 7 (.alloc 29 Z3),s 4 7 12,m 6 13]) (S (S (R [m 14 6,w 15 .eql 38 14 0 38 4,m 16 15,p 17 (m_ 1) 16 [],p 18 (w_ .eql 3 17 0 3 4) 16 [],x 19 16 18]) (C 19 (R [n 6 2]) K)) (S (S (R [m 20 6,w 21 .neq 38 20 0 38 4]) (C 21 (S (D [l' 22 5 4 [1,2],l' 23 5 5 [0,2,3],m' 24 6 [0,1,3,4],s' 5 4 22 [1,2],s' 5 5 23 [2],m 6 24]) N) K)) (S (D [d' 25 0 2 [2,4,5,6,7,8,9],l' 26 4 25 [2,4,5,6,7,8,9],m' 27 1 [0,1,4,5,6,7,8,9],u 28 (.build Z1 [(0,4,(t 26)),(4,1,(t 27))]) [4,5,6,7,8,9],l' 29 4 7 [0,1,2,3,5,6,7,8,10],d' 30 4 2 [0,1,2,3,4,7,10],f' 31 1 30 [0,1,2,3,4,7,10],m' 32 1 [0,1,2,3,4,5,6,10],v' 33 .sub 3 31 32 3 3 [0,1,2,3,4,10],u 34 (.build Z1 [(0,4,(t 29)),(4,1,(t 33))]) [0,1,2,3,10],s' 5 4 28 [4,5,6,7,8,9],s 5 5 34,n 6 0]) N)))))).c
def a85:AFunc:=⟨35,c85,[.cell 4 5 true,.cell 5 5 true,.tmp 6],1⟩
def c86:ACode:=({c:=_}:TbD (S (R [b 1 117 0,o 2 (.alloc 34 Z0)]) (S (D [d' 3 0 1 [2,3,4,5,6],l' 4 5 3 [2,3,4,5,6],d' 5 5 1 [0,1,4,5,6],l' 6 4 5 [0,1,4,5,6],d' 7 9 1 [0,1,2,3],f' 8 1 7 [0,1,2,3],ca' 9 78 8 [0,1,2,3],o 10 (.build Z0 [(0,5,(t 4)),(5,4,(t 6)),(9,1,(t 9))]),s 10 2 10]) N))).c
def a86:AFunc:=⟨11,c86,[.cell 2 10 true],4⟩
def c87:ACode:=({c:=_}:TbD (S (R [z 4]) (S (S (R [m 5 1,w 6 .lss 3 5 0 3 4]) (C 6 (R [o 7 (.bad "op"),O (.bad "op")]) K)) (S (S (R [m 8 1,m 9 0,o 10 (.cap (t 9)),m 11 0,k 12 11,v 13 .sub 3 10 12 3 3,v 14 .sub 3 8 13 3 3,m 1 14]) (S (R [m 15 1,w 16 .gtr 3 15 0 3 4]) (C 16 (R [m 17 0,m 18 0,o 19 (.cap (t 18)),o 20 (.slc 10 (t 17) none (some (t 19)) none),m 21 1,o 22 (.appz 34 10 80 Z0 (t 20) (t 21)),m 23 0,k 24 23,o 25 (.slc 10 (t 22) none (some (t 24)) none),m 0 25]) K))) (S (R [m 26 0,m 4 26]) N))))).c
def a87:AFunc:=⟨27,c87,[.tmp 4],0⟩
def c88:ACode:=({c:=_}:TbD (S (R [z 2]) (S (S (R [m 5 0,k 6 5,n 7 0]) (B 0 (L (S (R [v 8 .lss 3 7 6 3 0]) (S (C 8 K (X 0)) (S (B 1 (S (R [i 9 10 5 7,l 10 10 9,o 4 (.alloc 34 Z0),s 10 4 10]) (R [m 11 2,d 12 9 4,f 13 1 12,o 14 (.app 21 1 4 (.int .i32 0) (t 11) (t 13)),m 2 14]))) (R [w 15 .add 3 7 1 3 3,m 7 15]))))))) (S (R [m 16 2,m 2 16]) N)))).c
def a88:AFunc:=⟨17,c88,[.tmp 2],0⟩
def c89:ACode:=({c:=_}:TbD (S (R [m 4 0,m 5 1,o 6 (.slc 10 (t 4) none (some (t 5)) none),ca 7 97 6]) (S (R [m 8 0,m 9 1,o 10 (.slc 10 (t 8) (some (t 9)) none none),ca 11 97 10]) (R [m 12 0,ca 13 97 12])))).c
def a89:AFunc:=⟨14,c89,[],0⟩
def c90:ACode:=({c:=_}:TbD (S (R [b 2 34 0,b 3 77 1,bf 4]) (S (R [d 6 0 2,d 7 4 6,f 8 1 7,m 5 8]) (S (D [m 9 5,w 10 .lss 3 9 64 3 4,m 11 10,p 12 (d_ 4 3) 11 [5,6,7,8],p 13 (l_ 4 12) 11 [5,6,7,8],p 14 (l_ 10 2) 11 [3,4,6,7],p 15 (m_ 5) 11 [3,4,5],p 16 (w_ .sub 3 15 1 3 3) 11 [3,4,5],p 17 (cb_ 36 14 16) 11 [3,4],p 18 (v_ .eql 29 13 17 29 4) 11 [],x 19 11 18,m 20 19,p 21 (d_ 0 3) 20 [14,15,16],p 22 (l_ 4 21) 20 [14,15,16],p 23 (l_ 10 2) 20 [12,13,15],p 24 (m_ 5) 20 [12,13,14],p 25 (cb_ 36 23 24) 20 [12,13],p 26 (v_ .eql 29 22 25 29 4) 20 [],x 27 20 26,m 4 27]) N)))).c
def a90:AFunc:=⟨28,c90,[.tmp 4],2⟩
def c91:ACode:=({c:=_}:TbD (S (R [b 3 77 1,z 4]) (S (R [z 5]) (S (S (R [m 7 0,d 8 0 3,l 9 4 8,cb 10 35 7 9,m 6 10]) (B 0 (L (S (S (R [m 11 6,w 12 .geq 3 11 0 3 4]) (C 12 K (X 0))) (S (B 1 (R [m 20 0,m 21 6,i 22 9 20 21,d 23 0 22,l 24 4 23,o 25 (.bsl 29 4 Z3 1 [(0,4,(t 24))]),m 26 5,o 27 (.app 29 4 24 Z3 (t 25) (t 26)),m 5 27])) (R [m 13 0,m 14 0,m 15 6,i 16 9 14 15,d 17 4 16,l 18 4 17,cb 19 35 13 18,m 6 19])))))) (S (R [m 28 5,m 4 28]) N))))).c
def a91:AFunc:=⟨29,c91,[.tmp 4],1⟩
def c92:ACode:=({c:=_}:TbD (S (R [bf 4]) (S (S (R [n 5 0]) (B 0 (L (S (S (R [m 6 5,m 7 0,k 8 7,v 9 .lss 3 6 8 3 4]) (C 9 K (X 0))) (S (B 1 (S (S (R [m 12 5,m 13 1,k 14 13,v 15 .eql 3 12 14 3 4]) (C 15 (S (R [bf 4]) N) K)) (S (D [m' 16 0 [1,4,5,6,7],m' 17 5 [0,4,5,6,7],i' 18 4 16 17 [4,5,6,7],l' 19 4 18 [4,5,6,7],m' 20 1 [0,1,2,3,5],m' 21 5 [0,1,2,3,4],i' 22 4 20 21 [0,1,2,3],l' 23 4 22 [0,1,2,3],v 24 .neq 29 19 23 29 4]) (C 24 (S (D [m' 25 1 [1,4,5,6,7],m' 26 5 [0,4,5,6,7],i' 27 4 25 26 [4,5,6,7],l' 28 4 27 [4,5,6,7],m' 29 0 [0,1,2,3,5],m' 30 5 [0,1,2,3,4],i' 31 4 29 30 [0,1,2,3],l' 32 4 31 [0,1,2,3],cb 33 98 28 32,m 4 33]) N) K)))) (R [m 10 5,w 11 .add 3 10 1 3 3,m 5 11])))))) (S (R [m 34 0,k 35 34,m 36 1,k 37 36,v 38 .lss 3 35 37 3 4,m 4 38]) N)))).c
def a92:AFunc:=⟨39,c92,[.tmp 4],1⟩
def c93:ACode:=({c:=_}:TbD (S (R [bf 2]) (S (R [m 3 0,w 4 .geq 3 3 0 3 4,m 5 4,p 6 (m_ 0) 5 [],p 7 (w_ .leq 3 6 1114111 3 4) 5 [],x 8 5 7,m 9 8,p 10 (m_ 0) 9 [],p 11 (w_ .lss 3 10 55296 3 4) 9 [],p 12 (m_ 11) 9 [],q 13 (m_ 0) 12 [],q 14 (w_ .gtr 3 13 57343 3 4) 12 [],p 15 (y_ 12 14) 9 [],x 16 9 15,m 2 16]) N))).c
def a93:AFunc:=⟨17,c93,[.tmp 2],1⟩
def c94:ACode:=({c:=_}:TbD (S (R [b 1 27 0,bf 2]) (S (R [d 3 0 1,l 4 2 3,ca 5 45 4,m 6 5,p 7 (d_ 2 1) 6 [],p 8 (f_ 1 7) 6 [],p 9 (.pur (mkO (.binOp .lss 5 (t 8) (.const (.int .u8 8)) 5) 4)) 6 [],x 10 6 9,m 2 10]) N))).c
def a94:AFunc:=⟨11,c94,[.tmp 2],1⟩
def c95:ACode:=({c:=_}:TbD (S (R [b 2 25 0,bf 4]) (S (R [d 5 1 2,f 6 1 5,m 7 1,o 8 (.pur (mkO (.convert 3 129 (t 7)) 129)),v 9 .shr 23 6 8 129 23,o 10 (.pur (mkO (.binOp .rem 23 (t 9) (.const (.int .u32 2)) 23) 23)),o 11 (.pur (mkO (.binOp .eql 23 (t 10) (.const (.int .u32 1)) 23) 4)),m 4 11]) N))).c
def a95:AFunc:=⟨12,c95,[.tmp 4],1⟩
def c96:ACode:=({c:=_}:TbD (S (R [n 4 0]) (S (S (R [m 6 0,k 7 6,n 8 0]) (B 0 (L (S (R [v 9 .lss 3 8 7 3 0]) (S (C 9 K (X 0)) (S (B 1 (S (R [m 10 8,m 5 10]) (S (R [m 11 1,m 12 0,m 13 5,i 14 1 12 13,f 15 1 14,o 16 (.call (t 11) [(t 15)])]) (C 16 (S (R [m 17 5,m 4 17]) N) K)))) (R [w 18 .add 3 8 1 3 3,m 8 18]))))))) (S (R [n 4 (-1)]) N)))).c
def a96:AFunc:=⟨19,c96,[.tmp 4],1⟩
def c97:ACode:=({c:=_}:TbD (S (R [m 4 0,k 5 4,w 6 .sub 3 5 1 3 3,n 2 0,m 3 6]) (B 0 (L (S (S (R [m 7 2,m 8 3,v 9 .lss 3 7 8 3 4]) (C 9 K (X 0))) (S (B 1 (D [m' 14 0 [1,2,3,4,5,6,7,8,9,10,11],m' 15 2 [0,2,3,4,5,6,7,8,9,10,11],m' 16 0 [0,1,3,4,5,6,7,8,9,10,11,12,13],m' 17 3 [0,1,2,4,5,6,7,8,9,10,11,12,13],m' 18 0 [0,1,2,3,5,8,9,10,11],m' 19 3 [0,1,2,3,4,8,9,10,11],i' 20 10 18 19 [0,1,2,3,8,9,10,11],l' 21 10 20 [0,1,2,3,8,9,10,11],m' 22 0 [0,1,2,3,4,5,6,7,9],m' 23 2 [0,1,2,3,4,5,6,7,8],i' 24 10 22 23 [0,1,2,3,4,5,6,7],l' 25 10 24 [0,1,2,3,4,5,6,7],i' 26 10 14 15 [2,3],s' 10 26 21 [2,3],i 27 10 16 17,s 10 27 25])) (R [m 10 2,w 11 .add 3 10 1 3 3,m 12 3,w 13 .sub 3 12 1 3 3,m 2 11,m 3 13]))))))).c
def a97:AFunc:=⟨28,c97,[],0⟩
def c98:ACode:=({c:=_}:TbD (S (R [b 2 29 0,b 3 29 1,bf 4]) (S (S (R [d 5 3 2,f 6 1 5,d 7 3 3,f 8 1 7,v 9 .lss 3 6 8 3 4]) (C 9 (S (R [bt 4]) N) K)) (S (S (R [d 10 3 2,f 11 1 10,d 12 3 3,f 13 1 12,v 14 .gtr 3 11 13 3 4]) (C 14 (S (R [bf 4]) N) K)) (S (S (R [d 15 0 2,d 16 0 15,l 17 2 16,d 18 0 3,d 19 0 18,l 20 2 19,cb 21 99 17 20]) (C 21 (S (R [bt 4]) N) K)) (S (S (R [d 22 0 3,d 23 0 22,l 24 2 23,d 25 0 2,d 26 0 25,l 27 2 26,cb 28 99 24 27]) (C 28 (S (R [bf 4]) N) K)) (S (R [d 29 0 2,d 30 2 29,f 31 1 30,d 32 0 3,d 33 2 32,f 34 1 33,v 35 .lss 5 31 34 5 4,m 4 35]) N))))))).c
def a98:AFunc:=⟨36,c98,[.tmp 4],1⟩
def c99:ACode:=({c:=_}:TbD (S (R [b 2 25 0,b 3 25 1,bf 4]) (S (R [d 5 0 2,f 6 1 5,o 7 (.pur (mkO (.convert 5 3 (t 6)) 3)),w 8 .mul 3 7 4294967296 3 3,d 9 1 2,f 10 1 9,o 11 (.pur (mkO (.convert 23 3 (t 10)) 3)),v 12 .add 3 8 11 3 3,d 13 0 3,f 14 1 13,o 15 (.pur (mkO (.convert 5 3 (t 14)) 3)),w 16 .mul 3 15 4294967296 3 3,d 17 1 3,f 18 1 17,o 19 (.pur (mkO (.convert 23 3 (t 18)) 3)),v 20 .add 3 16 19 3 3,v 21 .lss 3 12 20 3 4,m 4 21]) N))).c
def a99:AFunc:=⟨22,c99,[.tmp 4],1⟩
def tbl:List (Option AFunc):=[none,none,none,some a3,some a4,some a5,some a6,some a7,some a8,some a9,some a10,some a11,some a12,some a13,some a14,some a15,some a16,some a17,some a18,some a19,some a20,some a21,some a22,some a23,some a24,some a25,some a26,some a27,some a28,some a29,some a30,some a31,some a32,some a33,some a34,some a35,some a36,some a37,some a38,some a39,some a40,some a41,some a42,some a43,some a44,some a45,some a46,some a47,some a48,some a49,some a50,some a51,some a52,some a53,some a54,some a55,some a56,some a57,some a58,some a59,some a60,some a61,some a62,some a63,none,some a65,some a66,some a67,some a68,some a69,some a70,some a71,some a72,some a73,some a74,some a75,some a76,some a77,some a78,some a79,some a80,some a81,some a82,some a83,some a84,some a85,some a86,some a87,some a88,some a89,some a90,some a91,some a92,some a93,some a94,some a95,some a96,some a97,some a98,some a99]
noncomputable abbrev zCN (f d n:Nat):=zAU Try.prog (fsT tbl) f d (.fn n)
theorem tf3:fsT tbl 3=some a3:=rfl
theorem tf4:fsT tbl 4=some a4:=rfl
theorem tf5:fsT tbl 5=some a5:=rfl
theorem tf6:fsT tbl 6=some a6:=rfl
theorem tf7:fsT tbl 7=some a7:=rfl
theorem tf8:fsT tbl 8=some a8:=rfl
theorem tf9:fsT tbl 9=some a9:=rfl
theorem tf10:fsT tbl 10=some a10:=rfl
theorem tf11:fsT tbl 11=some a11:=rfl
theorem tf12:fsT tbl 12=some a12:=rfl
theorem tf13:fsT tbl 13=some a13:=rfl
theorem tf14:fsT tbl 14=some a14:=rfl
theorem tf15:fsT tbl 15=some a15:=rfl
theorem tf16:fsT tbl 16=some a16:=rfl
theorem tf17:fsT tbl 17=some a17:=rfl
theorem tf18:fsT tbl 18=some a18:=rfl
theorem tf19:fsT tbl 19=some a19:=rfl
theorem tf20:fsT tbl 20=some a20:=rfl
theorem tf21:fsT tbl 21=some a21:=rfl
theorem tf22:fsT tbl 22=some a22:=rfl
theorem tf23:fsT tbl 23=some a23:=rfl
theorem tf24:fsT tbl 24=some a24:=rfl
theorem tf25:fsT tbl 25=some a25:=rfl
theorem tf26:fsT tbl 26=some a26:=rfl
theorem tf27:fsT tbl 27=some a27:=rfl
theorem tf28:fsT tbl 28=some a28:=rfl
theorem tf29:fsT tbl 29=some a29:=rfl
theorem tf30:fsT tbl 30=some a30:=rfl
theorem tf31:fsT tbl 31=some a31:=rfl
theorem tf32:fsT tbl 32=some a32:=rfl
theorem tf33:fsT tbl 33=some a33:=rfl
theorem tf34:fsT tbl 34=some a34:=rfl
theorem tf35:fsT tbl 35=some a35:=rfl
theorem tf36:fsT tbl 36=some a36:=rfl
theorem tf37:fsT tbl 37=some a37:=rfl
theorem tf38:fsT tbl 38=some a38:=rfl
theorem tf39:fsT tbl 39=some a39:=rfl
theorem tf40:fsT tbl 40=some a40:=rfl
theorem tf41:fsT tbl 41=some a41:=rfl
theorem tf42:fsT tbl 42=some a42:=rfl
theorem tf43:fsT tbl 43=some a43:=rfl
theorem tf44:fsT tbl 44=some a44:=rfl
theorem tf45:fsT tbl 45=some a45:=rfl
theorem tf46:fsT tbl 46=some a46:=rfl
theorem tf47:fsT tbl 47=some a47:=rfl
theorem tf48:fsT tbl 48=some a48:=rfl
theorem tf49:fsT tbl 49=some a49:=rfl
theorem tf50:fsT tbl 50=some a50:=rfl
theorem tf51:fsT tbl 51=some a51:=rfl
theorem tf52:fsT tbl 52=some a52:=rfl
theorem tf53:fsT tbl 53=some a53:=rfl
theorem tf54:fsT tbl 54=some a54:=rfl
theorem tf55:fsT tbl 55=some a55:=rfl
theorem tf56:fsT tbl 56=some a56:=rfl
theorem tf57:fsT tbl 57=some a57:=rfl
theorem tf58:fsT tbl 58=some a58:=rfl
theorem tf59:fsT tbl 59=some a59:=rfl
theorem tf60:fsT tbl 60=some a60:=rfl
theorem tf61:fsT tbl 61=some a61:=rfl
theorem tf62:fsT tbl 62=some a62:=rfl
theorem tf63:fsT tbl 63=some a63:=rfl
theorem tf65:fsT tbl 65=some a65:=rfl
theorem tf66:fsT tbl 66=some a66:=rfl
theorem tf67:fsT tbl 67=some a67:=rfl
theorem tf68:fsT tbl 68=some a68:=rfl
theorem tf69:fsT tbl 69=some a69:=rfl
theorem tf70:fsT tbl 70=some a70:=rfl
theorem tf71:fsT tbl 71=some a71:=rfl
theorem tf72:fsT tbl 72=some a72:=rfl
theorem tf73:fsT tbl 73=some a73:=rfl
theorem tf74:fsT tbl 74=some a74:=rfl
theorem tf75:fsT tbl 75=some a75:=rfl
theorem tf76:fsT tbl 76=some a76:=rfl
theorem tf77:fsT tbl 77=some a77:=rfl
theorem tf78:fsT tbl 78=some a78:=rfl
theorem tf79:fsT tbl 79=some a79:=rfl
theorem tf80:fsT tbl 80=some a80:=rfl
theorem tf81:fsT tbl 81=some a81:=rfl
theorem tf82:fsT tbl 82=some a82:=rfl
theorem tf83:fsT tbl 83=some a83:=rfl
theorem tf84:fsT tbl 84=some a84:=rfl
theorem tf85:fsT tbl 85=some a85:=rfl
theorem tf86:fsT tbl 86=some a86:=rfl
theorem tf87:fsT tbl 87=some a87:=rfl
theorem tf88:fsT tbl 88=some a88:=rfl
theorem tf89:fsT tbl 89=some a89:=rfl
theorem tf90:fsT tbl 90=some a90:=rfl
theorem tf91:fsT tbl 91=some a91:=rfl
theorem tf92:fsT tbl 92=some a92:=rfl
theorem tf93:fsT tbl 93=some a93:=rfl
theorem tf94:fsT tbl 94=some a94:=rfl
theorem tf95:fsT tbl 95=some a95:=rfl
theorem tf96:fsT tbl 96=some a96:=rfl
theorem tf97:fsT tbl 97=some a97:=rfl
theorem tf98:fsT tbl 98=some a98:=rfl
theorem tf99:fsT tbl 99=some a99:=rfl
theorem zB00{p:Prop}(h:p:=by
 refine zB7 (I:=fun n t N => ∃ (i:Nat),n=m - i∧i≤m∧nth zA3 t 0=a∧nth zA3 t 3 = .ptr 0 0∧nth zA3 t 40=I64 m∧nth zA3 t 41=I64 i∧Wf N∧N.get 0=some (.row false (rnR x ra))∧(∀ j,j<i→zB2 l (x.sp.at (j:Nat))=none)∧N.size≤i+1) (n:=m) (by omega) ?_ ?_
 ·refine⟨0,rfl,Nat.zero_le _, ?_, ?_, ?_, ?_,Wf.mem0.add _,by simp (disch:=try exact SX) only[RV,seval,zA0],(fun _ h=>absurd h (by omega)),Nat.le_refl _⟩ <;> simp (disch:=try exact SX) only[RV,seval,zA0,h0,h1,hmn]
  all_goals first | rfl | assumption | done
 ·rintro n t N hlt ⟨i,rfl,hi,g0,g3,g40,g41,w,g,hj,sz⟩
  simp only[ht] at hlt ⊢
  have lg:=Mem.get_lt g
  by_cases hc:i<m
  ·have q1:decide ((i:Int)<m)=true:=DT
   have w1:IntKind.i64.wrap ((i:Int)+1)=((i+1:Nat):Int):=WI
   have iai:=ia i hc
   have hwi:=hwh (x.sp.at (i:Nat))
   cases hwl:zB2 l (x.sp.at (i:Nat)) with
   | some p =>
    have e2:putE l x=2:=by rw[hiE,if_pos ⟨i,by omega,by rw[hwl];simp⟩]
    have er:insR l x=[]:=by unfold insR;rw[e2];rfl
    rw[hwl] at hwi
    have qp:decide ((0:Int)≤((p.1:Nat):Int))=true:=DT
    rw[e2,er]
    simp (disch:=try exact SX) only[RV,seval,zA0,g0,g3,g40,g41,hS.fz.rows,hS.fz.one,hS.fz.cells,hS.fz.icy,hS.fz.frz,hR.fz.rows,hR.fz.one,hR.fz.cells,hR.fz.icy,hR.fz.frz,q1,iai,g,w,hwi,wN,wK,qp]
    exact⟨hpz _,NIL,rfl,NK.ND.nil _ _⟩
   | none =>
    rw[hwl] at hwi
    simp (disch:=try exact SX) only[RV,seval,zA0,g0,g3,g40,g41,hS.fz.rows,hS.fz.one,hS.fz.cells,hS.fz.icy,hS.fz.frz,hR.fz.rows,hR.fz.one,hR.fz.cells,hR.fz.icy,hR.fz.frz,q1,iai,g,w,hwi,wN,wK,qg1,w1]
    refine⟨hlt,m - (i+1),by omega,i+1,rfl,by omega,rfl,fun j hj'=>?_,by omega⟩
    rcases Nat.lt_succ_iff_lt_or_eq.1 hj' with h | rfl
    ·exact hj j h
    ·exact hwl
  ·obtain rfl:i=m:=by omega
   have q1:decide ((i:Int)<i)=false:=DF
   have hno:¬∃ j:Nat,(j:Int)<x.sp.n∧zB2 l (x.sp.at j)≠none:=fun⟨j,h1,h2⟩=>h2 (hj j (by omega))
   rw[if_neg hno] at hiE
   have hct:=fun M=>@zG0 fuel (d+9) a l hS hok.1 (by omega) (by omega) M
   have hcl:=zE7 hok.1
   have w2:IntKind.i64.wrap (zB3 l+x.sp.n)=zB3 l+x.sp.n:=WI
   by_cases h4:8192<zB3 l+x.sp.n
   ·have e4:putE l x=4:=by rw[hiE,if_pos h4]
    have er:insR l x=[]:=by unfold insR;rw[e4];rfl
    have q4:decide (8192<zB3 l+x.sp.n)=true:=decide_eq_true h4
    rw[e4,er]
    simp (disch:=try exact SX) only[RV,seval,zA0,g0,g3,g40,g41,hS.fz.rows,hS.fz.one,hS.fz.cells,hS.fz.icy,hS.fz.frz,hR.fz.rows,hR.fz.one,hR.fz.cells,hR.fz.icy,hR.fz.frz,q1,g,w,hct,w2,q4,zAK]
    exact⟨hpz _,NIL,rfl,NK.ND.nil _ _⟩
   ·have e0:putE l x=0:=by rw[hiE,if_neg h4]
    have er:insR l x=insL l x:=by unfold insR;rw[if_pos e0]
    have q4:decide (8192<zB3 l+x.sp.n)=false:=decide_eq_false h4
    obtain⟨r',hr',hpart⟩:=zMI (fuel:=fuel) (d:=d+2) hS hok.1 hx6 (by omega) (by omega)
    obtain⟨p1,p2,p3,p4⟩:=zNS hok.1 hx6
    have hpl:=zKQ l x.af
    have hsk:=zUN (x:=x.sp.f) p1
    have hss:=fun h=>@zMU (zBB l x.af).1 x.sp.f (zBB l x.af).2 h
    have hmt:=fun D hD i=>@zPE (zBB l x.af).1 x (zBB l x.af).2 D hD i
    have eL:insL l x=zBT ((zBB l x.af).1.take (zFD (zBB l x.af).1 x.sp.f (zBB l x.af).2)++[x]++(zBB l x.af).1.drop (zFD (zBB l x.af).1 x.sp.f (zBB l x.af).2)):=rfl
    unfold zFD at hsk hss eL
    rw[e0,er,eL]
    generalize hD:((zBB l x.af).1.drop (zBB l x.af).2).takeWhile (fun q=>x.sp.f.less q.sp.f)=D at *
    have hmt:=fun i=>hmt D rfl (i:=i)
    generalize (zBB l x.af).1=l' at *
    generalize (zBB l x.af).2=n0 at *
    have or':=hr'.one
    have lr':=hr'.len
    simp (disch:=try exact SX) only[RV,seval,zA0,g0,g3,g40,g41,hS.fz.rows,hS.fz.one,hS.fz.cells,hS.fz.icy,hS.fz.frz,hR.fz.rows,hR.fz.one,hR.fz.cells,hR.fz.icy,hR.fz.frz,q1,g,w,hct,w2,q4,zAK,hpart,hr'.fz.rows,hr'.fz.one,hr'.fz.cells,hr'.fz.icy,hr'.fz.frz]
    refine zB7 (I:=fun n2 t2 N2 => ∃ (i2:Nat),n2=l'.length - n0 - i2∧i2≤l'.length - n0∧nth zA3 t2 0=r'∧nth zA3 t2 3 = .ptr 0 0∧nth zA3 t2 14=I64 ((n0+i2:Nat):Int)∧Wf N2∧N2.size≤70∧N2.get 0=some (.row false (rnR x ra))∧i2≤D.length) (n:=l'.length - n0) (by omega) ?_ ?_
    ·refine⟨0,rfl,Nat.zero_le _, ?_, ?_, ?_,w,by omega,g,Nat.zero_le _⟩ <;> simp (disch:=try exact SX) only[RV,seval,zA0,g0,g3,Nat.add_zero]
     all_goals first | rfl | assumption | done
    ·rintro n2 t2 N2 hlt2 ⟨i2,rfl,hi2,g20,g23,g214,wf2,sz2,gg,hi2⟩
     simp only[hlt] at hlt2 ⊢
     have lgg:=Mem.get_lt gg
     by_cases hc2:n0+i2<l'.length
     ·have q2:decide (((n0+i2:Nat):Int)<l'.length)=true:=DT
      have w3:IntKind.i64.wrap (((n0+i2:Nat):Int)+1)=((n0+(i2+1):Nat):Int):=WI
      obtain⟨r2,hiad2,hre,hrl2⟩:=hr'.iad (n0+i2) hc2
      by_cases hd2:i2<D.length
      ·have hlt3:=(hmt i2 hd2 hc2).1
       generalize l'[n0+i2]=e2 at *
       obtain⟨rb,rfl,hrb,_⟩:=hre
       have orb:=hrb.one
       have hls:=fun M=>@zF8 fuel (d+8) x.sp.f e2.sp.f M
       rw[hlt3] at hls
       simp (disch:=try exact SX) only[RV,seval,zA0,g20,g23,g214,hr'.fz.rows,hr'.fz.one,hr'.fz.cells,hr'.fz.icy,hr'.fz.frz,hR.fz.rows,hR.fz.one,hR.fz.cells,hR.fz.icy,hR.fz.frz,q2,lr',hiad2,hrb.fz.rows,hrb.fz.one,hrb.fz.cells,hrb.fz.icy,hrb.fz.frz,gg,wf2,hls,w3,zAK]
       exact⟨hlt2,l'.length - n0 - (i2+1),by omega,i2+1,rfl,by omega,rfl,by omega⟩
      ·obtain rfl:i2=D.length:=by omega
       have hlt3:=hss hc2
       generalize l'[n0+D.length]=e2 at *
       obtain⟨rb,rfl,hrb,_⟩:=hre
       have orb:=hrb.one
       have hls:=fun M=>@zF8 fuel (d+8) x.sp.f e2.sp.f M
       rw[hlt3] at hls
       simp (disch:=try exact SX) only[RV,seval,zA0,g20,g23,g214,hr'.fz.rows,hr'.fz.one,hr'.fz.cells,hr'.fz.icy,hr'.fz.frz,hR.fz.rows,hR.fz.one,hR.fz.cells,hR.fz.icy,hR.fz.frz,q2,lr',hiad2,hrb.fz.rows,hrb.fz.one,hrb.fz.cells,hrb.fz.icy,hrb.fz.frz,gg,wf2,hls,zAK]
       refine zGL zDI.cel tf31 Try.underlying22 hr' (by omega) (by omega) (by simp (disch:=try exact SX) only[RV,seval,zA0,wf2]) fun o3 M3 wf3 le3 kp3 sn3 nr3 wm3 di3 sz3=>?_
       have hd3:M3.dirty=false:=di3
       have z0:M3.get 0=some (.row false (rnR x ra)):=(kp3 0 lgg).trans gg
       have lz0:=Mem.get_lt z0
       have sm3:=sn3.slm
       have on3:=sm3.one
       have oc3:=sm3.cells
       have rl3:=zAM sm3.rl (Nat.le_refl M3.size)
       have rl3':=zAM sm3.rl (Nat.le_succ M3.size)
       simp (disch:=try exact SX) only[RV,seval,zA0,g20,g23,g214,hd3,wf3,z0,on3,oc3,rl3,rl3',hR.fz.rows,hR.fz.one,hR.fz.cells,hR.fz.icy,hR.fz.frz,zY9,zAK]
       have sz3':M3.size≤N2.size+2:=sz3
       have hb0:Nat.ble N2.size 0=false:=by
        cases hb:Nat.ble N2.size 0 with
        | false=>rfl
        | true=>have:=Nat.le_of_ble_eq_true hb;omega
       refine⟨by simp [zB8,FP.apart,FP.reads,FP.writes,hb0],by simp [zB8,FP.apart,FP.reads,FP.writes], ?_⟩
       have eX:((N2.bk M3).add (.row false (rnR x ra))).lo=(⟨M3.t,M3.size,M3.size+1,false⟩:Mem).add (.row false (rnR x ra)):=rfl
       show W3 (insO _ (((N2.bk M3).add (.row false (rnR x ra))).lo) 30 10 80 o3 (I64 ((n0+D.length:Nat):Int)) (.sl M3.size 0 1 (some 1) 10)) _
       rw[eX]
       have wX:Wf (⟨M3.t,M3.size,M3.size+1,false⟩:Mem):=wf3
       have sX:(⟨M3.t,M3.size,M3.size+1,false⟩:Mem).size=M3.size:=rfl
       have snX:SlN (⟨M3.t,M3.size,M3.size+1,false⟩:Mem) 10 isRn o3 l':=sn3
       generalize (⟨M3.t,M3.size,M3.size+1,false⟩:Mem)=X3 at *
       have key:W3 (insO (zAU Try.prog (fsT tbl) fuel (d+10)) (X3.add (.row false (rnR x ra))) 30 10 80 o3 (I64 ((n0+D.length:Nat):Int)) (.sl M3.size 0 1 (some 1) 10)) (fun o4 M4=>SlM M4 10 isRn o4 (l'.take (n0+D.length)++[x]++l'.drop (n0+D.length))∧Wf M4):=by
        rw[← sX]
        by_cases hz:l'=[]
        ·subst hz
         have e0:n0+D.length=0:=by simp only[List.length_nil] at hsk;omega
         rw[e0]
         have hc0:((0:Nat):Int)=0:=rfl
         rw[hc0]
         have h0':W3 (zCN fuel (d+10) 30 [o3,I64 0,.sl X3.size 0 1 (some 1) 10] (X3.add (.row false (rnR x ra)))) (fun o4 M4=>SlM M4 10 isRn o4 [x]∧Wf M4):=zP7 (d:=d+9) wX snX ⟨ra,rfl,hR,hx⟩ rfl (fun o' M' a b _ _ _ _=>⟨a,b⟩)
         have e1:insO (zAU Try.prog (fsT tbl) fuel (d+10)) (X3.add (.row false (rnR x ra))) 30 10 80 o3 (I64 0) (.sl X3.size 0 1 (some 1) 10)=zCN fuel (d+10) 30 [o3,I64 0,.sl X3.size 0 1 (some 1) 10] (X3.add (.row false (rnR x ra))):=by
          rcases snX with⟨_,rfl | ⟨id,rfl,_⟩⟩ | ⟨hn,_⟩
          ·exact zKJ ..
          ·exact zKI ..
          ·exact absurd rfl hn
         rw[e1]
         exact h0'
        ·exact snX.ins (bytes:=80) (g:=30) wX hz zDI.cel ⟨ra,rfl,hR,hx⟩ rfl (by omega) (by omega) (by omega) (by omega) (by omega) fun o' M' a b _ _ _=>⟨a,b⟩
       obtain⟨o4,M4,he4,sm4,wf4⟩:=key
       rw[he4]
       clear he4 eX hmt hss snX sn3 sm3 kp3 hno hwh hwa hck hcx hcl ia hj hpart hct
       have on4:=sm4.one
       have oc4:=sm4.cells
       have rl4:=zAM sm4.rl (Nat.le_refl M4.size)
       simp (disch:=try exact SX) only[RV,seval,zA0,g20,g23,g214,wf4,on4,oc4,rl4,zAK]
       refine zHQ (d:=d+1) (sm4.keep fun _ _=>rfl) (by simp only[List.length_append,List.length_take,List.length_drop,List.length_singleton];omega) (fun q hq=>?_) (by simp only[List.length_append,List.length_take,List.length_drop,List.length_singleton];omega) (show Wf _ from wf4) fun r X' kX' hr=>?_
       ·have hq64:q.rs.length≤64:=by
         rcases List.mem_append.1 hq with hq | hq
         ·rcases List.mem_append.1 hq with hq | hq
          ·exact zEY p2 q (List.mem_of_mem_take hq)
          ·rw[List.mem_singleton] at hq;subst hq
           exact(Rn.may_iff.1 hxm).2.2.2.1
         ·exact zEY p2 q (List.mem_of_mem_drop hq)
        omega
       ·obtain⟨or5,oc5,rl5,_,pu5,_⟩:=ND.lr hr
        have wX':=kX'.wf
        have rl5:=zAM rl5 (Nat.le_refl X'.size)
        simp (disch:=try exact SX) only[RV,seval,zA0,g20,g23,g214,wX',or5,oc5,rl5,zAK]
        exact⟨by simp [purA,purL,pu5],r,rfl,(ND.mono hr (Nat.zero_le _)).keep fun _ _ _=>rfl⟩
     ·obtain rfl:i2=D.length:=by omega
      have q2:decide (((n0+D.length:Nat):Int)<l'.length)=false:=DF
      simp (disch:=try exact SX) only[RV,seval,zA0,g20,g23,g214,hr'.fz.rows,hr'.fz.one,hr'.fz.cells,hr'.fz.icy,hr'.fz.frz,hR.fz.rows,hR.fz.one,hR.fz.cells,hR.fz.icy,hR.fz.frz,q2,lr',gg,wf2,zAK]
      refine zGL zDI.cel tf31 Try.underlying22 hr' (by omega) (by omega) (by simp (disch:=try exact SX) only[RV,seval,zA0,wf2]) fun o3 M3 wf3 le3 kp3 sn3 nr3 wm3 di3 sz3=>?_
      have hd3:M3.dirty=false:=di3
      have z0:M3.get 0=some (.row false (rnR x ra)):=(kp3 0 lgg).trans gg
      have lz0:=Mem.get_lt z0
      have sm3:=sn3.slm
      have on3:=sm3.one
      have oc3:=sm3.cells
      have rl3:=zAM sm3.rl (Nat.le_refl M3.size)
      have rl3':=zAM sm3.rl (Nat.le_succ M3.size)
      simp (disch:=try exact SX) only[RV,seval,zA0,g20,g23,g214,hd3,wf3,z0,on3,oc3,rl3,rl3',hR.fz.rows,hR.fz.one,hR.fz.cells,hR.fz.icy,hR.fz.frz,zY9,zAK]
      have sz3':M3.size≤N2.size+2:=sz3
      have hb0:Nat.ble N2.size 0=false:=by
       cases hb:Nat.ble N2.size 0 with
       | false=>rfl
       | true=>have:=Nat.le_of_ble_eq_true hb;omega
      refine⟨by simp [zB8,FP.apart,FP.reads,FP.writes,hb0],by simp [zB8,FP.apart,FP.reads,FP.writes], ?_⟩
      have eX:((N2.bk M3).add (.row false (rnR x ra))).lo=(⟨M3.t,M3.size,M3.size+1,false⟩:Mem).add (.row false (rnR x ra)):=rfl
      show W3 (insO _ (((N2.bk M3).add (.row false (rnR x ra))).lo) 30 10 80 o3 (I64 ((n0+D.length:Nat):Int)) (.sl M3.size 0 1 (some 1) 10)) _
      rw[eX]
      have wX:Wf (⟨M3.t,M3.size,M3.size+1,false⟩:Mem):=wf3
      have sX:(⟨M3.t,M3.size,M3.size+1,false⟩:Mem).size=M3.size:=rfl
      have snX:SlN (⟨M3.t,M3.size,M3.size+1,false⟩:Mem) 10 isRn o3 l':=sn3
      generalize (⟨M3.t,M3.size,M3.size+1,false⟩:Mem)=X3 at *
      have key:W3 (insO (zAU Try.prog (fsT tbl) fuel (d+10)) (X3.add (.row false (rnR x ra))) 30 10 80 o3 (I64 ((n0+D.length:Nat):Int)) (.sl M3.size 0 1 (some 1) 10)) (fun o4 M4=>SlM M4 10 isRn o4 (l'.take (n0+D.length)++[x]++l'.drop (n0+D.length))∧Wf M4):=by
       rw[← sX]
       by_cases hz:l'=[]
       ·subst hz
        have e0:n0+D.length=0:=by simp only[List.length_nil] at hsk;omega
        rw[e0]
        have hc0:((0:Nat):Int)=0:=rfl
        rw[hc0]
        have h0':W3 (zCN fuel (d+10) 30 [o3,I64 0,.sl X3.size 0 1 (some 1) 10] (X3.add (.row false (rnR x ra)))) (fun o4 M4=>SlM M4 10 isRn o4 [x]∧Wf M4):=zP7 (d:=d+9) wX snX ⟨ra,rfl,hR,hx⟩ rfl (fun o' M' a b _ _ _ _=>⟨a,b⟩)
        have e1:insO (zAU Try.prog (fsT tbl) fuel (d+10)) (X3.add (.row false (rnR x ra))) 30 10 80 o3 (I64 0) (.sl X3.size 0 1 (some 1) 10)=zCN fuel (d+10) 30 [o3,I64 0,.sl X3.size 0 1 (some 1) 10] (X3.add (.row false (rnR x ra))):=by
         rcases snX with⟨_,rfl | ⟨id,rfl,_⟩⟩ | ⟨hn,_⟩
         ·exact zKJ ..
         ·exact zKI ..
         ·exact absurd rfl hn
        rw[e1]
        exact h0'
       ·exact snX.ins (bytes:=80) (g:=30) wX hz zDI.cel ⟨ra,rfl,hR,hx⟩ rfl (by omega) (by omega) (by omega) (by omega) (by omega) fun o' M' a b _ _ _=>⟨a,b⟩
      obtain⟨o4,M4,he4,sm4,wf4⟩:=key
      rw[he4]
      clear he4 eX hmt hss snX sn3 sm3 kp3 hno hwh hwa hck hcx hcl ia hj hpart hct
      have on4:=sm4.one
      have oc4:=sm4.cells
      have rl4:=zAM sm4.rl (Nat.le_refl M4.size)
      simp (disch:=try exact SX) only[RV,seval,zA0,g20,g23,g214,wf4,on4,oc4,rl4,zAK]
      refine zHQ (d:=d+1) (sm4.keep fun _ _=>rfl) (by simp only[List.length_append,List.length_take,List.length_drop,List.length_singleton];omega) (fun q hq=>?_) (by simp only[List.length_append,List.length_take,List.length_drop,List.length_singleton];omega) (show Wf _ from wf4) fun r X' kX' hr=>?_
      ·have hq64:q.rs.length≤64:=by
        rcases List.mem_append.1 hq with hq | hq
        ·rcases List.mem_append.1 hq with hq | hq
         ·exact zEY p2 q (List.mem_of_mem_take hq)
         ·rw[List.mem_singleton] at hq;subst hq
          exact(Rn.may_iff.1 hxm).2.2.2.1
        ·exact zEY p2 q (List.mem_of_mem_drop hq)
       omega
      ·obtain⟨or5,oc5,rl5,_,pu5,_⟩:=ND.lr hr
       have wX':=kX'.wf
       have rl5:=zAM rl5 (Nat.le_refl X'.size)
       simp (disch:=try exact SX) only[RV,seval,zA0,g20,g23,g214,wX',or5,oc5,rl5,zAK]
       exact⟨by simp [purA,purL,pu5],r,rfl,(ND.mono hr (Nat.zero_le _)).keep fun _ _ _=>rfl⟩):p:=h
theorem zB01{p:Prop}(h:p:=by
 by_cases c5:x.1∈pre.map (·.1)
 ·simp only[c5,if_true] at hlk
  simp (disch:=try exact SX) only[RV,seval,zA0,g2,g3,g4,g5,g6,g7,hne,oo',y0,y1,y3,ya,yb,yc,wY,↓pIdE,zAE,↓pIdN,zAB,↓pHdE,zAC,↓pHdN,zAD,↓pLbE,zAF,↓pLbN,zAG,↓pSpE,zAH,↓pSpN,zAI,ETA,c2,c3,hls,x_lk,hlk,z01,z0lt]
  have os:OS tm ((Y.upd 0 (.row false [BL false])).upd 6 (.loop .done (some .ret) tm [12,13] cO1 cO2 5)):=by
   refine⟨(wY.upd _ _).upd _ _,by simp only[zA9];omega, ?_, ?_, ?_⟩
   ·rw[zA2 (wY.upd _ _) _ _ _ (by omega)]
    exact zAJ wY _ _ l0
   ·rw[zA2 (wY.upd _ _) _ _ _ (by omega),zA2 wY _ _ _ (by omega)]
    exact(yj 5 (by omega) (by omega) (by omega)).trans h.g5
   ·exact zAJ (wY.upd _ _) _ _ (by simp only[zA9];omega)
  refine⟨_,_,_,_,_,_,_,y6,.inr (.inr ?_)⟩
  first
  | exact os
  | exact⟨os,by simp [*]⟩
 ·simp only[c5,if_false] at hlk
  simp (disch:=try exact SX) only[RV,seval,zA0,g2,g3,g4,g5,g6,g7,hne,oo',y0,y1,y3,ya,yb,yc,wY,↓pIdE,zAE,↓pIdN,zAB,↓pHdE,zAC,↓pHdN,zAD,↓pLbE,zAF,↓pLbN,zAG,↓pSpE,zAH,↓pSpN,zAI,ETA,c2,c3,hls,x_lk,hlk,z01,z0lt,x_mu]
  refine zPF zQP wY l2 y2 hset x.1 fun obj' hset'=>?_
  simp only[c5,if_false] at hset'
  simp (disch:=try exact SX) only[RV,seval,zA0,g2,g3,g4,g5,g6,g7,oo',y1,y3,ya,yb,yc,wY]
  refine⟨spY.rows (by omega),SlP.app1 (bytes:=24) (x:=x.1) (wY.upd 2 obj') (spY.keep fun j hj=>zA2 wY _ _ _ (by have:=(ro j (ro' ▸ hj)).2;omega)) zF7 ⟨rfl,hx⟩ rfl (by omega) (by rw[List.length_reverse];omega) (by rw[List.length_reverse];omega) fun o2 M2 sp2 w2 le2 kp2 nw2 rl2 on2 oc2=>?_⟩
  rw[zA9] at le2 kp2 nw2
  have hS:ordS x (stk pre) (pre.map (·.1))=true:=by
   unfold ordS
   rw[hpop]
   simp [*]
  have hst:(stk (pre++[x])).reverse=q.reverse++[x.1]:=by rw[zEM,hpop,List.reverse_cons]
  have ro2:∀ j,rowOf o'=some j→O j∧7≤j:=fun j hj=>ro j (ro' ▸ hj)
  have k2:∀ j,j<M.size→j≠1→j≠2→j≠6→rowOf o'≠some j→M2.get j=M.get j:=fun j a b c e f=>by
   rw[kp2 j (by omega) f,zA2 wY _ _ _ (fun e=>c e.symm)]
   exact yj j a b e
  have m6:M2.get 6=some (.loop .busy none tm [12,13] cO1 cO2 5):=by
   rw[kp2 6 (by omega) (fun e=>by have:=(ro2 6 e).2;omega),zA2 wY _ _ _ (by omega)]
   exact y6
  have m2:M2.get 2=some obj':=by
   rw[kp2 2 (by omega) (fun e=>by have:=(ro2 2 e).2;omega)]
   exact zAJ wY _ _ l2
  have m1:1<M2.size:=by omega
  have n1:M2.get 1=some (.row false [o']):=by
   rw[kp2 1 (by omega) (fun e=>by have:=(ro2 1 e).2;omega),zA2 wY _ _ _ (by omega)]
   exact y1
  simp (disch:=try exact SX) only[RV,seval,zA0,g2,g3,g4,g5,g6,g7,on2,oc2,rl2,w2,m6,n1]
  have yl:Yl (OI tm) (pre++[x]) O B M ((M2.upd 1 (.row false [o2])).upd 6 (.loop .ready none tm [12,13] cO1 cO2 5)):=by
   have wZ:=w2.upd 1 (.row false [o2])
   have zk:∀ j,j≠1→j≠6→((M2.upd 1 (.row false [o2])).upd 6 (.loop .ready none tm [12,13] cO1 cO2 5)).get j=M2.get j:=fun j a b=>by
    rw[zA2 wZ _ _ _ (fun e=>b e.symm),zA2 w2 _ _ _ (fun e=>a e.symm)]
   have nro:∀ j,j<7→rowOf o'≠some j:=fun j hj e=>by have:=(ro2 j e).2;omega
   have no2:∀ j,rowOf o2=some j→7≤j∧(O j∨M.size≤j):=fun j hj=>by
    rcases nw2 j hj with e | e
    ·exact⟨(ro2 j e).2,.inl (ro2 j e).1⟩
    ·exact⟨by omega,.inr (by omega)⟩
   refine⟨⟨fun j=>O j∨rowOf o2=some j,⟨wZ.upd _ _,by simp only[zA9];omega, ?_,⟨o2, ?_, ?_,fun j hj=>⟨.inr hj,(no2 j hj).1⟩⟩,⟨obj', ?_, ?_⟩, ?_, ?_, ?_,.inl h.o1,.inl h.o2,.inl h.o6, ?_,h.od.snoc hS⟩, ?_⟩,wZ.upd _ _,by simp only[zA9];omega, ?_⟩
   ·rw[zk 0 (by omega) (by omega),k2 0 (by omega) (by omega) (by omega) (by omega) (nro 0 (by omega))];exact h.g0
   ·rw[zA2 wZ _ _ _ (by omega)];exact zAJ w2 _ _ m1
   ·rw[hst]
    exact sp2.keep fun j hj=>zk j (by have:=(no2 j hj).1;omega) (by have:=(no2 j hj).1;omega)
   ·rw[zk 2 (by omega) (by omega)];exact m2
   ·rw[List.map_append];exact hset'
   ·rw[zk 3 (by omega) (by omega),k2 3 (by omega) (by omega) (by omega) (by omega) (nro 3 (by omega))];exact h.g3
   ·rw[zk 5 (by omega) (by omega),k2 5 (by omega) (by omega) (by omega) (by omega) (nro 5 (by omega))];exact h.g5
   ·exact zAJ wZ _ _ (by simp only[zA9];omega)
   ·intro j hj
    simp only[zA9]
    rcases hj with hj | hj
    ·exact⟨by have:=(h.ol j hj).1;omega,(h.ol j hj).2⟩
    ·exact⟨sp2.lt j hj,.inr (.inr (by have:=(no2 j hj).1;omega))⟩
   ·rintro j (hj | hj)
    ·exact .inl hj
    ·exact(no2 j hj).2
   ·intro j hj hO
    have h1:j≠1:=fun e=>hO (e ▸ h.o1)
    have h2:j≠2:=fun e=>hO (e ▸ h.o2)
    have h6:j≠6:=fun e=>hO (e ▸ h.o6)
    rw[zk j h1 h6]
    exact k2 j hj h1 h2 h6 fun e=>hO (ro2 j e).1
  exact⟨_,_,_,_,_,_,_,rfl,.inl (.inl yl)⟩):p:=h
theorem zB02{p:Prop}(h:p:=by
 refine zCR (fuel:=fuel) (d:=d+6) hra (by omega) (by simp (disch:=try exact SX) only[RV,seval,zA0,w]) fun rt U kU sU nU=>?_
 have wU:=kU.wf
 have zU:N.size+1≤U.size:=kU.le
 have ort:=sU.one
 have crt:=sU.cells
 have rrt:=zAM sU.rl (Nat.le_refl U.size)
 have rlU:=rlo U.size (by omega)
 have rlU1:=rlo (U.size+1) (by omega)
 have kN:∀ j,j<N.size→U.get j=N.get j:=fun j hj=>(kU.get j (by show j<N.size+1;omega)).trans (by simp (disch:=try exact SX) only[RV,seval,zA0,w])
 simp (disch:=try exact SX) only[RV,seval,zA0,g2,g13,g14,g15,wU,oo,oc,rlU,rlU1,ort,crt,rrt]
 refine NK.ND.app (K:=rnK) (ra:=rt) (x:=e) (by':=80) wU sm (fun j _ hj=>kN j hj) (by omega) ⟨rfl,ort,crt⟩ ⟨sU,fun j _=>Nat.zero_le j,hok⟩ (fun j hj=>by have:N.size+1≤j:=nU j hj;omega) (by omega) (by omega) (Nat.zero_le _) fun o' M' sm' w' le' kp nw wm'=>?_
 obtain⟨oo',oc',orl',olen',opu',olt'⟩:=ND.lr sm'
 simp (disch:=try exact SX) only[RV,seval,zA0,g2,g13,g14,g15,w1]
 exact⟨hlt,l.length - (i+1),by omega,i+1,o',rfl,by omega,rfl,rfl,fin e o' M' hts rfl sm' w'⟩):p:=h
theorem zB03{p:Prop}(h:p:=by
 have os:OS tm ((Y.upd 0 (.row false [BL false])).upd 6 (.loop .done (some .ret) tm [12,13] cO1 cO2 5)):=by
  refine⟨(wY.upd _ _).upd _ _,by simp only[zA9];omega, ?_, ?_, ?_⟩
  ·rw[zA2 (wY.upd _ _) _ _ _ (by omega)]
   exact zAJ wY _ _ l0
  ·rw[zA2 (wY.upd _ _) _ _ _ (by omega),zA2 wY _ _ _ (by omega)]
   exact(yj 5 (by omega) (by omega) (by omega)).trans h.g5
  ·exact zAJ (wY.upd _ _) _ _ (by simp only[zA9];omega)
 refine⟨_,_,_,_,_,_,_,y6,.inr (.inr ?_)⟩
 first
 | exact os
 | exact⟨os,by simp [*]⟩):p:=h
theorem zB04{p:Prop}(h:p:=by
 unfold rnEq
 cases q1:decide (o.sp=p.sp)
 ·simp (disch:=try exact SX) only[RV,seval,zA0,h0,h1,hR.fz.rows,hR.fz.one,hR.fz.cells,hR.fz.icy,hR.fz.frz,hP.fz.rows,hP.fz.one,hP.fz.cells,hP.fz.icy,hP.fz.frz,↓pIdE,zAE,↓pIdN,zAB,↓pHdE,zAC,↓pHdN,zAD,↓pLbE,zAF,↓pLbN,zAG,↓pSpE,zAH,↓pSpN,zAI,ETA,q1,Bool.false_and]
 ·cases q2:decide (o.af=p.af)
  ·simp (disch:=try exact SX) only[RV,seval,zA0,h0,h1,hR.fz.rows,hR.fz.one,hR.fz.cells,hR.fz.icy,hR.fz.frz,hP.fz.rows,hP.fz.one,hP.fz.cells,hP.fz.icy,hP.fz.frz,↓pIdE,zAE,↓pIdN,zAB,↓pHdE,zAC,↓pHdN,zAD,↓pLbE,zAF,↓pLbN,zAG,↓pSpE,zAH,↓pSpN,zAI,ETA,q1,q2,Bool.false_and,Bool.true_and]
  ·simp (disch:=try exact SX) only[RV,seval,zA0,h0,h1,hR.fz.rows,hR.fz.one,hR.fz.cells,hR.fz.icy,hR.fz.frz,hP.fz.rows,hP.fz.one,hP.fz.cells,hP.fz.icy,hP.fz.frz,↓pIdE,zAE,↓pIdN,zAB,↓pHdE,zAC,↓pHdN,zAD,↓pLbE,zAF,↓pLbN,zAG,↓pSpE,zAH,↓pSpN,zAI,ETA,q1,q2,hs,Bool.false_and,Bool.true_and]):p:=h
theorem zB05{p:Prop}(h:p:=by
 simp (disch:=try exact SX) only[RV,seval,zA0]):p:=h
theorem zB06{p:Prop}(h:p:=by
 simp only[PT.iss,PT.is]
 exact⟨[.int .u8 a0,.int .u32 a1,.int .u8 a2,.int .i64 a3],[.int .i64 a4],rfl,⟨[.int .u8 a0,.int .u32 a1,.int .u8 a2],[.int .i64 a3],rfl,⟨[.int .u8 a0,.int .u32 a1],[.int .u8 a2],rfl,⟨[.int .u8 a0],[.int .u32 a1],rfl,⟨_,rfl⟩,⟨[.int .u32 a1],[],rfl,⟨_,rfl⟩,rfl⟩⟩,⟨[.int .u8 a2],[],rfl,⟨_,rfl⟩,rfl⟩⟩,⟨[.int .i64 a3],[],rfl,⟨_,rfl⟩,rfl⟩⟩,⟨[.int .i64 a4],[],rfl,⟨_,rfl⟩,rfl⟩⟩):p:=h
theorem zB07{p:Prop}(h:p:=by
 cases c3:decide (el=Eid.z)
 ·cases c4:x.1.less el
  ·rw[c4] at hls
   simp (disch:=try exact SX) only[RV,seval,zA0,g2,g3,g4,g5,g6,g7,hne,oo',y0,y1,y3,ya,yb,yc,wY,↓pIdE,zAE,↓pIdN,zAB,↓pHdE,zAC,↓pHdN,zAD,↓pLbE,zAF,↓pLbN,zAG,↓pSpE,zAH,↓pSpN,zAI,ETA,c2,c3,hls]
   exact zB03
  ·rw[c4] at hls
   exact zB01
 ·skip
  exact zB01):p:=h
theorem zB08{p:Prop}(h:p:=by
 simp only[PT.iss,PT.is]
 exact⟨[.int .u8 a0,.int .u32 a1,.int .u8 a2],[.int .i64 a3],rfl,⟨[.int .u8 a0,.int .u32 a1],[.int .u8 a2],rfl,⟨[.int .u8 a0],[.int .u32 a1],rfl,⟨_,rfl⟩,⟨[.int .u32 a1],[],rfl,⟨_,rfl⟩,rfl⟩⟩,⟨[.int .u8 a2],[],rfl,⟨_,rfl⟩,rfl⟩⟩,⟨[.int .i64 a3],[],rfl,⟨_,rfl⟩,rfl⟩⟩):p:=h
theorem zB09{p:Prop}(h:p:=by
 rw[hd]
 simp (disch:=try exact SX) only[RV,seval,zA0,x0,wX,Option.getD_none,Option.getD_some]
 refine zKD (by simp (disch:=try exact SX) only[RV,seval,zA0,wX]) (by simp (disch:=try exact SX) only[RV,seval,zA0,wX,x5]) ?_
 simp (disch:=try exact SX) only[RV,seval,zA0,x0,wX]):p:=h
theorem zB0a{p:Prop}(h:p:=by
 simp (disch:=try exact SX) only[RV,seval,zA0,h0,hS.fz.rows,hS.fz.one,hS.fz.cells,hS.fz.icy,hS.fz.frz,↓pIdE,zAE,↓pIdN,zAB,↓pHdE,zAC,↓pHdN,zAD,↓pLbE,zAF,↓pLbN,zAG,↓pSpE,zAH,↓pSpN,zAI,ETA,q1,hc,hs,q3,q4,q5,ll,hr,zBP,zCH,z00,z80,Bool.false_and]):p:=h
theorem zB0b{p:Prop}(h:p:=by
 simp (disch:=try exact SX) only[RV,seval,zA0,h0,hS.fz.rows,hS.fz.one,hS.fz.cells,hS.fz.icy,hS.fz.frz,↓pIdE,zAE,↓pIdN,zAB,↓pHdE,zAC,↓pHdN,zAD,↓pLbE,zAF,↓pLbN,zAG,↓pSpE,zAH,↓pSpN,zAI,ETA,q1,hc,hs,q4,q5,ll,hr,zBP,zCH,z00,z80,Bool.false_and]):p:=h
theorem zB0c{p:Prop}(h:p:=by
 have e:cs.drop (k+5)=(cs.drop k).drop 5:=by rw[List.drop_drop]
 have e':cs.drop k=rnR x ra++cs.drop (k+10):=by rw[← h2,← List.drop_drop,List.take_append_drop]
 rw[e,e',List.drop_append_of_le_length (by show 5≤10;omega)]):p:=h
theorem zB0d{p:Prop}(h:p:=by
 simp only[PT.iss,PT.is]
 exact⟨[.int .u8 a0,.int .u32 a1],[.int .u8 a2],rfl,⟨[.int .u8 a0],[.int .u32 a1],rfl,⟨_,rfl⟩,⟨[.int .u32 a1],[],rfl,⟨_,rfl⟩,rfl⟩⟩,⟨[.int .u8 a2],[],rfl,⟨_,rfl⟩,rfl⟩⟩):p:=h
theorem zB0e{p:Prop}(h:p:=by
 have:decide (l=m)=true:=by
  simp only[decide_eq_true_eq]
  rw[show i=l.length by omega,List.take_length] at tk
  rw[tk,show l.length=m.length from hll,List.take_length]
 rw[this]):p:=h
theorem zB0f{p:Prop}(h:p:=by
 have:=lrq j hj
 simp (disch:=try exact SX) only[RV,seval,zA0,w]):p:=h
theorem zB0g{p:Prop}(h:p:=by
 congr 4
 rw[Bool.eq_iff_iff]
 simp [and_assoc]):p:=h
theorem zB0h{p:Prop}(h:p:=by
 refine⟨hlt,l.length - (i+1),by omega,i+1,rfl,by omega,rfl, ?_⟩
 rw[List.take_add_one,List.take_add_one,tk,List.getElem?_eq_getElem hlt',List.getElem?_eq_getElem hmt,he]):p:=h
theorem zB0i{p:Prop}(h:p:=by
 refine⟨0,rfl,Nat.zero_le _, ?_, ?_,Wf.mem0,(fun _ _ h=>absurd h (by omega))⟩ <;> simp (disch:=try exact SX) only[RV,seval,zA0,h0]
 all_goals first | rfl | assumption | done):p:=h
theorem zB0j{p:Prop}(h:p:=by
 rw[Bool.eq_iff_iff,he]
 simp [and_assoc]):p:=h
theorem zB0k{p:Prop}(h:p:=by
 have q1:decide ((64:Int)<l.length)=true:=DT
 simp (disch:=try exact SX) only[RV,seval,zA0,h0,ll,hS.fz.rows,hS.fz.one,hS.fz.cells,hS.fz.icy,hS.fz.frz,q1,q,if_true]):p:=h
theorem zB0l{p:Prop}(h:p:=by
 exact⟨by simp [purA,purL],NIL,rfl,.inl ⟨rfl,rfl⟩⟩):p:=h
theorem zB0m{p:Prop}(h:p:=by
 exact⟨NIL,.inl ⟨rfl,rfl⟩,rfl⟩):p:=h
theorem zB0n{p:Prop}(h:p:=by
 simp (disch:=try exact SX) only[RV,seval,zA0,h0,hl,hr,zCH,z80,Bool.false_and]):p:=h
theorem zB0o{p:Prop}(h:p:=by
 rw[zHS] at hj
 cases ha:rowOf r with
 | none=>rw[ha] at hj;cases hj
 | some i=>rw[ha] at hj;simp only[Option.map_some,Option.some.injEq] at hj;omega):p:=h
theorem zB0p{p:Prop}(h:p:=by
 unfold idsR
 split
 ·rename_i hb
  rw[zKH,List.length_map]
  exact zCV (zBI.1 hb).1
 ·exact Nat.zero_le _):p:=h
theorem zB0q{p:Prop}(h:p:=by
 rintro (((h | h) | h) | h)
 ·exact .inl (.inl (.inl h))
 ·exact .inl (.inl (.inr h))
 ·exact .inr h
 ·exact .inl (.inr h)):p:=h
theorem zB0r{p:Prop}(h:p:=by
 have e:r=(decide (a0=b0)&&decide (a1=b1)&&decide (a2=b2)&&decide (a3=b3)&&decide (a4=b4)):=by
  exact zB0j
 rw[← e]
 exact hr):p:=h
theorem zB0s{p:Prop}(h:p:=by
 have hym:=hm y List.mem_cons_self
 rcases ha with⟨rfl,rfl⟩ | ha
 ·exact .root hym h1
 ·exact .step hym (h1 ▸ ha)):p:=h
theorem zB0t{p:Prop}(h:p:=by
 rintro⟨h1,h2⟩
 refine⟨h1, ?_⟩
 rw[h2,h1]
 simp only[Spn.at]
 rw[wrap_i64 (by omega) (by omega)]
 congr 1;omega):p:=h
theorem zB0u{p:Prop}(h:p:=by
 exact zCX.use (zKN (fuel:=fuel) (d:=d) b1 hl hd hf) (M0:=N') (by simp only[icyL,i1]) wf fun r M2 hr=>k _ _ (zD5 wf) (zR7 hr wf)):p:=h
theorem zB0v{p:Prop}(h:p:=by
 unfold Spn.has
 rw[if_neg]
 rintro⟨_,_,h1,h2⟩
 rw[wrap_i64 (by omega) (by omega)] at hw
 omega):p:=h
theorem zB0w{p:Prop}(h:p:=by
 simp (disch:=try exact SX) only[RV,seval,zA0,wU]):p:=h
theorem zB0x{p:Prop}(h:p:=by
 simp only[PT.iss,PT.is]
 exact⟨[.int .u8 a0],[.int .u32 a1],rfl,⟨_,rfl⟩,⟨[.int .u32 a1],[],rfl,⟨_,rfl⟩,rfl⟩⟩):p:=h
theorem zB0y{p:Prop}(h:p:=by
 have:decide (l=m)=false:=by
  simp only[decide_eq_false_iff_not]
  rintro rfl;exact he rfl
 rw[this]):p:=h
theorem zB0z{p:Prop}(h:p:=by
 have e:r=(decide (a0=b0)&&decide (a1=b1)&&decide (a2=b2)&&decide (a3=b3)):=by
  exact zB0j
 rw[← e]
 exact hr):p:=h
theorem zB0A{p:Prop}(h:p:=by
 rw[Bool.eq_iff_iff,decide_eq_true_iff,decide_eq_true_iff];omega):p:=h
theorem zB0B{p:Prop}(h:p:=by
 rcases List.mem_append.1 hy with hy | hy
 ·exact h2 y hy
 ·rw[List.mem_singleton] at hy;subst hy;exact h1x):p:=h
theorem zB0C{p:Prop}(h:p:=by
 have e:r=(decide (a0=b0)&&decide (a1=b1)):=by
  rw[Bool.eq_iff_iff,he]
  simp []
 rw[← e]
 exact hr):p:=h
theorem zB0D{p:Prop}(h:p:=by
 have e:r=(decide (a0=b0)&&decide (a1=b1)&&decide (a2=b2)):=by
  exact zB0j
 rw[← e]
 exact hr):p:=h
theorem zB0E{p:Prop}(h:p:=by
 rcases Nat.lt_succ_iff_lt_or_eq.1 hj' with h | rfl
 ·exact hj j x1 x2 h
 ·exact q2):p:=h
theorem zB0F{p:Prop}(h:p:=by
 rw[zAP w1 _ _ (by rw[zA8];omega),← hX]
 exact zAO w _ _ (Nat.le_refl _) (Nat.lt_succ_self _)):p:=h
theorem zB0G{p:Prop}(h:p:=by
 rw[List.take_add,show (cs.drop k).take 4=((cs.drop k).take 10).take 4 by rw[List.take_take];rfl,h2]):p:=h
theorem zB0H{p:Prop}(h:p:=by
 rintro ((h | h) | h)
 ·exact .inl (.inl h)
 ·exact .inr h
 ·exact .inl (.inr h)):p:=h
theorem zB0I{p:Prop}(h:p:=by
 exact⟨hpz _,NIL,rfl,NK.ND.nil _ _⟩):p:=h
end Go.Proofs.Ytdgikiebohcohaa
