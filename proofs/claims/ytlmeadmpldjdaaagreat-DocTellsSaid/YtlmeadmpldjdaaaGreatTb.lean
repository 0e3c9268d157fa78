/-
 The program's functions, as the executor has them: the table.
-/
import Derived.Test.YtlmeadmpldjdaaaGreatRows
import Derived.Test.YtlmeadmpldjdaaaGreatEg
set_option linter.unusedSimpArgs false
set_option linter.unusedVariables false
set_option maxRecDepth 100000
namespace Go.Ax.E
open Go Go.Ax
def t (n:Nat):Operand:=.tmp n
def o (d:Nat)(x:AOp):AOper:=⟨some d,x,none,[]⟩
def u (d:Nat)(x:AOp)(l:List Nat):AOper:=⟨some d,x,none,l⟩
def p (d:Nat)(x:AOp)(g:Nat)(l:List Nat):AOper:=⟨some d,x,some (g,true),l⟩
def q (d:Nat)(x:AOp)(g:Nat)(l:List Nat):AOper:=⟨some d,x,some (g,false),l⟩
def O (x:AOp):AOper:=⟨none,x,none,[]⟩
def U (x:AOp)(l:List Nat):AOper:=⟨none,x,none,l⟩
def S (a b:ACode):ACode:=.seq a b
def R (l:List AOper):ACode:=.region l false
def D (l:List AOper):ACode:=.region l true
def C (n:Nat)(a b:ACode):ACode:=.cond (.tmp n) a b
def K:ACode:=.skip
def N:ACode:=.ret
def X (n:Nat):ACode:=.exit n
def B (n:Nat)(a:ACode):ACode:=.block n a
def L (a:ACode):ACode:=.loop a
def m_ (a:Nat):AOp:=.mov (.tmp a)
def m (D:Nat)(a:Nat):AOper:=⟨some D,.mov (.tmp a),none,[]⟩
def m' (D:Nat)(a:Nat)(U:List Nat):AOper:=⟨some D,.mov (.tmp a),none,U⟩
def n_ (k:Int):AOp:=.mov (.const (.int .i64 k))
def n (D:Nat)(k:Int):AOper:=⟨some D,.mov (.const (.int .i64 k)),none,[]⟩
def n' (D:Nat)(k:Int)(U:List Nat):AOper:=⟨some D,.mov (.const (.int .i64 k)),none,U⟩
def bt_:AOp:=.mov (.const (.bool true))
def bt (D:Nat):AOper:=⟨some D,.mov (.const (.bool true)),none,[]⟩
def bt' (D:Nat)(U:List Nat):AOper:=⟨some D,.mov (.const (.bool true)),none,U⟩
def bf_:AOp:=.mov (.const (.bool false))
def bf (D:Nat):AOper:=⟨some D,.mov (.const (.bool false)),none,[]⟩
def bf' (D:Nat)(U:List Nat):AOper:=⟨some D,.mov (.const (.bool false)),none,U⟩
def z_:AOp:=.mov (.const (.slice none 0 0))
def z (D:Nat):AOper:=⟨some D,.mov (.const (.slice none 0 0)),none,[]⟩
def z' (D:Nat)(U:List Nat):AOper:=⟨some D,.mov (.const (.slice none 0 0)),none,U⟩
def l_ (k a:Nat):AOp:=.load k true (.tmp a)
def l (D:Nat)(k a:Nat):AOper:=⟨some D,.load k true (.tmp a),none,[]⟩
def l' (D:Nat)(k a:Nat)(U:List Nat):AOper:=⟨some D,.load k true (.tmp a),none,U⟩
def f_ (k a:Nat):AOp:=.load k false (.tmp a)
def f (D:Nat)(k a:Nat):AOper:=⟨some D,.load k false (.tmp a),none,[]⟩
def f' (D:Nat)(k a:Nat)(U:List Nat):AOper:=⟨some D,.load k false (.tmp a),none,U⟩
def d_ (k a:Nat):AOp:=.fad k (.tmp a)
def d (D:Nat)(k a:Nat):AOper:=⟨some D,.fad k (.tmp a),none,[]⟩
def d' (D:Nat)(k a:Nat)(U:List Nat):AOper:=⟨some D,.fad k (.tmp a),none,U⟩
def e_ (a i:Nat):AOp:=.ext (.tmp a) i
def e (D:Nat)(a i:Nat):AOper:=⟨some D,.ext (.tmp a) i,none,[]⟩
def e' (D:Nat)(a i:Nat)(U:List Nat):AOper:=⟨some D,.ext (.tmp a) i,none,U⟩
def k_ (a:Nat):AOp:=.len (.tmp a)
def k (D:Nat)(a:Nat):AOper:=⟨some D,.len (.tmp a),none,[]⟩
def k' (D:Nat)(a:Nat)(U:List Nat):AOper:=⟨some D,.len (.tmp a),none,U⟩
def b_ (k a:Nat):AOp:=.box k (.tmp a)
def b (D:Nat)(k a:Nat):AOper:=⟨some D,.box k (.tmp a),none,[]⟩
def b' (D:Nat)(k a:Nat)(U:List Nat):AOper:=⟨some D,.box k (.tmp a),none,U⟩
def i_ (k a c:Nat):AOp:=.iad k (.tmp a) (.tmp c)
def i (D:Nat)(k a c:Nat):AOper:=⟨some D,.iad k (.tmp a) (.tmp c),none,[]⟩
def i' (D:Nat)(k a c:Nat)(U:List Nat):AOper:=⟨some D,.iad k (.tmp a) (.tmp c),none,U⟩
def ca_ (f a:Nat):AOp:=.call (.func f) [.tmp a]
def ca (D:Nat)(f a:Nat):AOper:=⟨some D,.call (.func f) [.tmp a],none,[]⟩
def ca' (D:Nat)(f a:Nat)(U:List Nat):AOper:=⟨some D,.call (.func f) [.tmp a],none,U⟩
def cb_ (f a b:Nat):AOp:=.call (.func f) [.tmp a,.tmp b]
def cb (D:Nat)(f a b:Nat):AOper:=⟨some D,.call (.func f) [.tmp a,.tmp b],none,[]⟩
def cb' (D:Nat)(f a b:Nat)(U:List Nat):AOper:=⟨some D,.call (.func f) [.tmp a,.tmp b],none,U⟩
def cd_ (f a b c:Nat):AOp:=.call (.func f) [.tmp a,.tmp b,.tmp c]
def cd (D:Nat)(f a b c:Nat):AOper:=⟨some D,.call (.func f) [.tmp a,.tmp b,.tmp c],none,[]⟩
def cd' (D:Nat)(f a b c:Nat)(U:List Nat):AOper:=⟨some D,.call (.func f) [.tmp a,.tmp b,.tmp c],none,U⟩
def s_ (k a c:Nat):AOp:=.store k (.tmp a) (.tmp c)
def s (k a c:Nat):AOper:=⟨none,.store k (.tmp a) (.tmp c),none,[]⟩
def s' (k a c:Nat)(U:List Nat):AOper:=⟨none,.store k (.tmp a) (.tmp c),none,U⟩
def x_ (a c:Nat):AOp:=.pick (.tmp a) (.tmp c) (.const (.bool false))
def x (D:Nat)(a c:Nat):AOper:=⟨some D,.pick (.tmp a) (.tmp c) (.const (.bool false)),none,[]⟩
def x' (D:Nat)(a c:Nat)(U:List Nat):AOper:=⟨some D,.pick (.tmp a) (.tmp c) (.const (.bool false)),none,U⟩
def y_ (a c:Nat):AOp:=.pick (.tmp a) (.const (.bool true)) (.tmp c)
def y (D:Nat)(a c:Nat):AOper:=⟨some D,.pick (.tmp a) (.const (.bool true)) (.tmp c),none,[]⟩
def y' (D:Nat)(a c:Nat)(U:List Nat):AOper:=⟨some D,.pick (.tmp a) (.const (.bool true)) (.tmp c),none,U⟩
def v_ (o:BinOp)(q a c r s:Nat):AOp:=.pur (mkO (.binOp o q (.tmp a) (.tmp c) r) s)
def v (D:Nat)(o:BinOp)(q a c r s:Nat):AOper:=⟨some D,.pur (mkO (.binOp o q (.tmp a) (.tmp c) r) s),none,[]⟩
def v' (D:Nat)(o:BinOp)(q a c r s:Nat)(U:List Nat):AOper:=⟨some D,.pur (mkO (.binOp o q (.tmp a) (.tmp c) r) s),none,U⟩
def w_ (o:BinOp)(q a:Nat)(k:Int)(r s:Nat):AOp:=.pur (mkO (.binOp o q (.tmp a) (.const (.int .i64 k)) r) s)
def w (D:Nat)(o:BinOp)(q a:Nat)(k:Int)(r s:Nat):AOper:=⟨some D,.pur (mkO (.binOp o q (.tmp a) (.const (.int .i64 k)) r) s),none,[]⟩
def w' (D:Nat)(o:BinOp)(q a:Nat)(k:Int)(r s:Nat)(U:List Nat):AOper:=⟨some D,.pur (mkO (.binOp o q (.tmp a) (.const (.int .i64 k)) r) s),none,U⟩
def j_ (q a s:Nat):AOp:=.pur (mkO (.unOp .not q (.tmp a)) s)
def j (D:Nat)(q a s:Nat):AOper:=⟨some D,.pur (mkO (.unOp .not q (.tmp a)) s),none,[]⟩
def j' (D:Nat)(q a s:Nat)(U:List Nat):AOper:=⟨some D,.pur (mkO (.unOp .not q (.tmp a)) s),none,U⟩
def Z0:Value:=.agg #[(.int .u8 0),(.int .u32 0),(.int .u8 0),(.int .i64 0),(.int .i64 0),(.int .u8 0),(.int .u32 0),(.int .u8 0),(.int .i64 0),(.slice none 0 0)]
def Z1:Value:=.agg #[(.int .u8 0),(.int .u32 0),(.int .u8 0),(.int .i64 0),(.int .i64 0)]
def Z2:Value:=.agg #[(.int .u8 0),(.int .u32 0),(.int .u8 0),(.int .i64 0),(.int .u8 0),(.int .u32 0),(.int .u8 0),(.int .i64 0),(.int .i32 0)]
def Z3:Value:=.agg #[(.int .u8 0),(.int .u32 0),(.int .u8 0),(.int .i64 0)]
def Z4:Value:=.agg #[(.int .u8 0),(.int .u32 0)]
def Z5:Value:=.agg #[(.int .u8 0),(.int .u8 0),(.int .u32 0),(.int .u8 0),(.int .i64 0),(.int .u8 0),(.int .u32 0),(.int .u8 0),(.int .i64 0),(.int .i64 0),(.int .u8 0),(.int .u32 0),(.int .u8 0),(.int .i64 0),(.int .u8 0),(.int .u32 0),(.slice none 0 0)]
def Z6:Value:=.agg #[.nilFunc,.nilFunc,.nilFunc,.nilFunc,.nilFunc,.nilFunc,.nilFunc,.nilFunc]
def Z7:Value:=.agg #[.nilFunc,.nilFunc]
end Go.Ax.E
structure Go.Ax.TbD (x:Go.Ax.ACode) where
 c:Go.Ax.ACode
 h:x=c:=by first | (dsimp only[Go.Ax.E.t,Go.Ax.E.o,Go.Ax.E.u,Go.Ax.E.p,Go.Ax.E.q,Go.Ax.E.O,Go.Ax.E.U,Go.Ax.E.S,Go.Ax.E.R,Go.Ax.E.D,Go.Ax.E.C,Go.Ax.E.K,Go.Ax.E.N,Go.Ax.E.X,Go.Ax.E.B,Go.Ax.E.L,Go.Ax.E.m_,Go.Ax.E.m,Go.Ax.E.m',Go.Ax.E.n_,Go.Ax.E.n,Go.Ax.E.n',Go.Ax.E.bt_,Go.Ax.E.bt,Go.Ax.E.bt',Go.Ax.E.bf_,Go.Ax.E.bf,Go.Ax.E.bf',Go.Ax.E.z_,Go.Ax.E.z,Go.Ax.E.z',Go.Ax.E.l_,Go.Ax.E.l,Go.Ax.E.l',Go.Ax.E.f_,Go.Ax.E.f,Go.Ax.E.f',Go.Ax.E.d_,Go.Ax.E.d,Go.Ax.E.d',Go.Ax.E.e_,Go.Ax.E.e,Go.Ax.E.e',Go.Ax.E.k_,Go.Ax.E.k,Go.Ax.E.k',Go.Ax.E.b_,Go.Ax.E.b,Go.Ax.E.b',Go.Ax.E.i_,Go.Ax.E.i,Go.Ax.E.i',Go.Ax.E.ca_,Go.Ax.E.ca,Go.Ax.E.ca',Go.Ax.E.cb_,Go.Ax.E.cb,Go.Ax.E.cb',Go.Ax.E.cd_,Go.Ax.E.cd,Go.Ax.E.cd',Go.Ax.E.s_,Go.Ax.E.s,Go.Ax.E.s',Go.Ax.E.x_,Go.Ax.E.x,Go.Ax.E.x',Go.Ax.E.y_,Go.Ax.E.y,Go.Ax.E.y',Go.Ax.E.v_,Go.Ax.E.v,Go.Ax.E.v',Go.Ax.E.w_,Go.Ax.E.w,Go.Ax.E.w',Go.Ax.E.j_,Go.Ax.E.j,Go.Ax.E.j',Go.Ax.E.Z0,Go.Ax.E.Z1,Go.Ax.E.Z2,Go.Ax.E.Z3,Go.Ax.E.Z4,Go.Ax.E.Z5,Go.Ax.E.Z6,Go.Ax.E.Z7];done) | rfl
namespace Go.Proofs.YtlmeadmpldjdaaaGreat
open Go Go.Ax Go.Ax.E
def c3:ACode:=({c:=_}:TbD (S (R [b 5 34 1,b 6 29 2,b 7 25 3,bf 8]) (S (S (R [m 29 0,o 30 (.call (.func 4) [(t 29),(.const (.int .i64 25))]),m 31 30,q 32 (d_ 16 5) 31 [],q 33 (f_ 1 32) 31 [],q 34 (k_ 33) 31 [],q 35 (w_ .gtr 3 34 300 3 4) 31 [],y 36 31 35]) (C 36 (S (R [bt 8]) N) K)) (S (R [m 37 0,ca 38 5 37,m 9 38]) (S (R [l 39 17 5,ca 40 6 39,o 10 (.alloc 34 Z5),s 17 10 40]) (S (R [m 42 9,ca 43 7 42,m 41 43,e 44 41 0,e 45 41 1,m 11 44,m 12 45]) (S (R [m 47 0,ca 48 8 47,m 46 48,e 49 46 0,e 50 46 1,m 13 49,m 14 50]) (S (R [m 52 9,l 53 4 6,cb 54 9 52 53,m 51 54,e 55 51 0,e 56 51 1,m 15 55,m 16 56]) (S (R [m 58 0,l 59 4 6,cb 60 10 58 59,m 57 60,e 61 57 0,e 62 57 1,m 17 61,m 18 62]) (S (R [m 64 9,l 65 2 7,cb 66 11 64 65,m 63 66,e 67 63 0,e 68 63 1,m 19 67,m 20 68]) (S (R [m 70 0,l 71 2 7,cb 72 12 70 71,m 69 72,e 73 69 0,e 74 69 1,m 21 73,m 22 74]) (S (R [m 75 11,m 76 13,cb 77 13 75 76,m 78 77,p 79 (m_ 12) 78 [],p 80 (m_ 14) 78 [],p 81 (v_ .eql 3 79 80 3 4) 78 [],x 82 78 81,m 83 82,p 84 (m_ 15) 83 [],p 85 (m_ 17) 83 [],p 86 (v_ .eql 4 84 85 4 4) 83 [],x 87 83 86,m 88 87,p 89 (m_ 16) 88 [],p 90 (m_ 18) 88 [],p 91 (v_ .eql 3 89 90 3 4) 88 [],x 92 88 91,m 93 92,p 94 (m_ 19) 93 [],p 95 (m_ 21) 93 [],p 96 (cb_ 14 94 95) 93 [],x 97 93 96,m 98 97,p 99 (m_ 20) 98 [],p 100 (m_ 22) 98 [],p 101 (v_ .eql 3 99 100 3 4) 98 [],x 102 98 101,m 23 102]) (S (D [m' 103 9 [2],ca' 104 15 103 [2],m' 105 0 [0,1],ca 106 16 105,v 107 .eql 3 104 106 3 4,m 108 107,p 109 (m_ 9) 108 [7,9,10],p 110 (l_ 17 10) 108 [6,9,10],p 111 (cb_ 17 109 110) 108 [9,10],p 112 (m_ 0) 108 [6,7,8,10],p 113 (l_ 17 5) 108 [6,7,8,9],p 114 (cb_ 18 112 113) 108 [],p 115 (v_ .eql 3 111 114 3 4) 108 [],x 116 108 115,m 24 116]) (S (S (R [n 25 0]) (B 0 (L (S (S (R [m 117 25,m 118 11,k 119 118,v 120 .lss 3 117 119 3 4]) (C 120 K (X 0))) (S (B 1 (S (R [n 26 0]) (B 2 (L (S (S (R [m 123 26,m 124 11,m 125 25,i 126 10 124 125,d 127 9 126,f 128 1 127,k 129 128,v 130 .lss 3 123 129 3 4]) (C 130 K (X 2))) (S (B 3 (R [m 133 11,m 134 25,i 135 10 133 134,d 136 9 135,f 137 1 136,m 138 26,i 139 1 137 138,O (.store 1 (t 139) (.const (.int .i32 7)))])) (R [m 131 26,w 132 .add 3 131 1 3 3,m 26 132]))))))) (R [m 121 25,w 122 .add 3 121 1 3 3,m 25 122])))))) (S (S (R [n 27 0]) (B 4 (L (S (S (R [m 140 27,m 141 19,k 142 141,v 143 .lss 3 140 142 3 4]) (C 143 K (X 4))) (S (B 5 (S (R [n 28 0]) (B 6 (L (S (S (R [m 146 28,m 147 19,m 148 27,i 149 17 147 148,d 150 16 149,f 151 1 150,k 152 151,v 153 .lss 3 146 152 3 4]) (C 153 K (X 6))) (S (B 7 (R [m 156 19,m 157 27,i 158 17 156 157,d 159 16 158,f 160 1 159,m 161 28,i 162 1 160 161,O (.store 1 (t 162) (.const (.int .i32 7)))])) (R [m 154 28,w 155 .add 3 154 1 3 3,m 28 155]))))))) (R [m 144 27,w 145 .add 3 144 1 3 3,m 27 145])))))) (S (R [m 163 23,m 164 163,p 165 (m_ 24) 164 [],x 166 164 165,m 167 166,p 168 (m_ 9) 167 [],p 169 (m_ 0) 167 [],p 170 (cb_ 14 168 169) 167 [],x 171 167 170,m 172 171,p 173 (l_ 17 10) 172 [],p 174 (l_ 17 5) 172 [],p 175 (cb_ 19 173 174) 172 [],x 176 172 175,m 8 176]) N)))))))))))))))).c
def a3:AFunc:=⟨177,c3,[.tmp 8],1⟩
def c4:ACode:=({c:=_}:TbD (S (R [bf 4]) (S (R [n 5 0]) (S (S (R [n 6 0]) (B 0 (L (S (S (R [m 7 6,m 8 0,k 9 8,v 10 .lss 3 7 9 3 4,m 11 10,p 12 (m_ 6) 11 [],p 13 (w_ .lss 3 12 300 3 4) 11 [],x 14 11 13]) (C 14 K (X 0))) (S (B 1 (D [m' 17 5 [1,2,3,4,5,6,7,8,9,10,11,12,13,14,15,16],m' 18 0 [0,2,9,10,11,12,13,14,15],m' 19 6 [0,1,9,10,11,12,13,14,15],i' 20 17 18 19 [0,9,10,11,12,13,14,15],d' 21 5 20 [0,9,10,11,12,13,14,15],d' 22 4 21 [0,9,10,11,12,13,14,15],f' 23 1 22 [0,9,10,11,12,13,14,15],u 24 (.pur (mkO (.call ⟨.builtin .max,#[(t 23),(.const (.int .i64 0))],#[3,3]⟩) 3)) [0,9,10,11,12,13,14,15],u 25 (.pur (mkO (.call ⟨.builtin .min,#[(t 24),(.const (.int .i64 100))],#[3,3]⟩) 3)) [0,9,10,11,12,13,14,15],m' 26 0 [0,1,2,3,4,5,6,7,8,10],m' 27 6 [0,1,2,3,4,5,6,7,8,9],i' 28 17 26 27 [0,1,2,3,4,5,6,7,8],d' 29 16 28 [0,1,2,3,4,5,6,7,8],f' 30 1 29 [0,1,2,3,4,5,6,7,8],k' 31 30 [0,1,2,3,4,5,6,7,8],u 32 (.pur (mkO (.call ⟨.builtin .min,#[(t 31),(.const (.int .i64 1000))],#[3,3]⟩) 3)) [0,1,2,3,4,5,6,7,8],u 33 (.pur (mkO (.call ⟨.builtin .max,#[(t 25),(t 32)],#[3,3]⟩) 3)) [0],v 34 .add 3 17 33 3 3,m 5 34])) (R [m 15 6,w 16 .add 3 15 1 3 3,m 6 16])))))) (S (R [m 35 0,k 36 35,m 37 1,v 38 .gtr 3 36 37 3 4,m 39 38,q 40 (m_ 5) 39 [],q 41 (w_ .gtr 3 40 300 3 4) 39 [],y 42 39 41,m 4 42]) N))))).c
def a4:AFunc:=⟨43,c4,[.tmp 4],1⟩
def c5:ACode:=({c:=_}:TbD (S (R [z 2]) (S (R [z 3]) (S (S (R [n 4 0]) (B 0 (L (S (S (R [m 5 4,m 6 0,k 7 6,v 8 .lss 3 5 7 3 4]) (C 8 K (X 0))) (S (B 1 (R [m 11 3,m 12 0,m 13 4,i 14 17 12 13,l 15 17 14,ca 16 6 15,o 17 (.bsl 34 17 Z5 1 [(0,17,(t 16))]),o 18 (.app 34 17 112 Z5 (t 11) (t 17)),m 3 18])) (R [m 9 4,w 10 .add 3 9 1 3 3,m 4 10])))))) (S (R [m 19 3,m 2 19]) N))))).c
def a5:AFunc:=⟨20,c5,[.tmp 2],1⟩
def c6:ACode:=({c:=_}:TbD (S (R [b 1 34 0,o 2 (.alloc 34 Z5)]) (S (R [d 3 16 1,f 4 1 3,o 5 (.app 21 1 4 (.int .i32 0) (.const (.slice none 0 0)) (t 4)),d 6 16 1,s 1 6 5]) (S (R [l 7 17 1,s 17 2 7]) N)))).c
def a6:AFunc:=⟨8,c6,[.cell 2 17 true],1⟩
def c7:ACode:=({c:=_}:TbD (S (R [z 2,n 3 0]) (S (S (R [m 9 0,ca 10 15 9,m 4 10]) (S (R [m 11 4,w 12 .neq 39 11 0 39 4]) (C 12 (S (R [m 13 4,z 2,m 3 13]) N) K))) (S (S (R [m 14 0,k 15 14,n 16 0]) (B 0 (L (S (R [v 17 .lss 3 16 15 3 0]) (S (C 17 K (X 0)) (S (B 1 (S (R [i 18 17 14 16,l 19 17 18,o 6 (.alloc 34 Z5),s 17 6 19]) (S (R [l 21 17 6,ca 22 20 21,m 20 22,e 23 20 0,e 24 20 1,o 7 (.alloc 59 Z0),s 10 7 23,m 8 24]) (S (R [m 25 8,w 26 .eql 39 25 0 39 4]) (C 26 (S (R [m 28 2,l 29 10 7,cb 30 21 28 29,m 27 30,e 31 27 0,e 32 27 1,m 2 31,m 8 32]) (S (R [m 33 8,w 34 .neq 39 33 0 39 4]) (C 34 (S (R [m 35 8,z 2,m 3 35]) N) K))) K))))) (R [w 36 .add 3 16 1 3 3,m 16 36]))))))) (S (R [m 37 2,m 2 37,n 3 0]) N))))).c
def a7:AFunc:=⟨38,c7,[.tmp 2,.tmp 3],4⟩
def c8:ACode:=({c:=_}:TbD (S (R [z 2,n 3 0]) (S (S (R [m 4 0,ca 5 22 4,j 6 4 5 4]) (C 6 (S (R [z 2,n 3 8]) N) K)) (S (R [m 7 0,ca 8 23 7,m 2 8,n 3 0]) N)))).c
def a8:AFunc:=⟨9,c8,[.tmp 2,.tmp 3],1⟩
def c9:ACode:=({c:=_}:TbD (S (R [b 3 29 1,bf 4,n 5 0]) (S (S (R [m 7 0,ca 8 15 7,m 6 8]) (S (R [m 9 6,w 10 .neq 39 9 0 39 4]) (C 10 (S (R [m 11 6,bf 4,m 5 11]) N) K))) (S (R [m 12 0,o 13 (.mkfn 25 [] [(t 3)]),cb 14 24 12 13,m 4 14,n 5 0]) N)))).c
def a9:AFunc:=⟨15,c9,[.tmp 4,.tmp 5],1⟩
def c10:ACode:=({c:=_}:TbD (S (R [b 3 29 1,bf 4,n 5 0]) (S (S (R [m 6 0,ca 7 22 6,j 8 4 7 4]) (C 8 (S (R [bf 4,n 5 8]) N) K)) (S (R [m 9 0,l 10 4 3,cb 11 27 9 10,m 4 11,n 5 0]) N)))).c
def a10:AFunc:=⟨12,c10,[.tmp 4,.tmp 5],1⟩
def c11:ACode:=({c:=_}:TbD (S (R [b 3 25 1,z 4,n 5 0]) (S (S (D [m' 9 0 [2],ca' 10 15 9 [2],l' 11 2 3 [0,1],ca 12 28 11,o 13 (.pur (mkO (.call ⟨.builtin .max,#[(t 10),(t 12)],#[39,39]⟩) 39)),m 6 13]) (S (R [m 14 6,w 15 .neq 39 14 0 39 4]) (C 15 (S (R [m 16 6,z 4,m 5 16]) N) K))) (S (S (R [m 17 0,k 18 17,n 19 0]) (B 0 (L (S (R [v 20 .lss 3 19 18 3 0]) (S (C 20 K (X 0)) (S (B 1 (S (R [i 21 17 17 19,l 22 17 21,o 8 (.alloc 34 Z5),s 17 8 22]) (S (R [d 23 1 8,d 24 0 23,l 25 2 24,l 26 2 3,cb 27 29 25 26]) (C 27 (R [m 28 4,l 29 17 8,ca 30 30 29,o 31 (.bsl 34 17 Z5 1 [(0,17,(t 30))]),o 32 (.app 34 17 112 Z5 (t 28) (t 31)),m 4 32]) K)))) (R [w 33 .add 3 19 1 3 3,m 19 33]))))))) (S (R [m 34 4,m 4 34,n 5 0]) N))))).c
def a11:AFunc:=⟨35,c11,[.tmp 4,.tmp 5],4⟩
def c12:ACode:=({c:=_}:TbD (S (R [b 3 25 1,z 4,n 5 0]) (S (S (R [m 6 0,ca 7 22 6,j 8 4 7 4,m 9 8,q 10 (l_ 2 3) 9 [],q 11 (ca_ 31 10) 9 [],q 12 (j_ 4 11 4) 9 [],y 13 9 12]) (C 13 (S (R [z 4,n 5 8]) N) K)) (S (R [m 14 0,l 15 2 3,cb 16 32 14 15,ca 17 5 16,m 4 17,n 5 0]) N)))).c
def a12:AFunc:=⟨18,c12,[.tmp 4,.tmp 5],1⟩
def c13:ACode:=({c:=_}:TbD (S (R [bf 4]) (S (S (R [m 6 0,k 7 6,m 8 1,k 9 8,v 10 .neq 3 7 9 3 4]) (C 10 (S (R [bf 4]) N) K)) (S (S (R [n 5 0]) (B 0 (L (S (S (R [m 11 5,m 12 0,k 13 12,v 14 .lss 3 11 13 3 4]) (C 14 K (X 0))) (S (B 1 (S (D [m' 17 0 [1,4,5,6,7],m' 18 5 [0,4,5,6,7],i' 19 10 17 18 [4,5,6,7],l' 20 10 19 [4,5,6,7],m' 21 1 [0,1,2,3,5],m' 22 5 [0,1,2,3,4],i' 23 10 21 22 [0,1,2,3],l' 24 10 23 [0,1,2,3],cb 25 33 20 24,j 26 4 25 4]) (C 26 (S (R [bf 4]) N) K))) (R [m 15 5,w 16 .add 3 15 1 3 3,m 5 16])))))) (S (R [bt 4]) N))))).c
def a13:AFunc:=⟨27,c13,[.tmp 4],2⟩
def c14:ACode:=({c:=_}:TbD (S (R [bf 4]) (S (S (R [m 6 0,k 7 6,m 8 1,k 9 8,v 10 .neq 3 7 9 3 4]) (C 10 (S (R [bf 4]) N) K)) (S (S (R [n 5 0]) (B 0 (L (S (S (R [m 11 5,m 12 0,k 13 12,v 14 .lss 3 11 13 3 4]) (C 14 K (X 0))) (S (B 1 (S (D [m' 17 0 [1,4,5,6,7],m' 18 5 [0,4,5,6,7],i' 19 17 17 18 [4,5,6,7],l' 20 17 19 [4,5,6,7],m' 21 1 [0,1,2,3,5],m' 22 5 [0,1,2,3,4],i' 23 17 21 22 [0,1,2,3],l' 24 17 23 [0,1,2,3],cb 25 19 20 24,j 26 4 25 4]) (C 26 (S (R [bf 4]) N) K))) (R [m 15 5,w 16 .add 3 15 1 3 3,m 5 16])))))) (S (R [bt 4]) N))))).c
def a14:AFunc:=⟨27,c14,[.tmp 4],2⟩
def c15:ACode:=({c:=_}:TbD (S (R [n 2 0]) (S (S (R [m 6 0,ca 7 34 6,m 5 7,e 8 5 0,e 9 5 1,m 3 8,m 4 9]) (S (R [m 10 4,j 11 4 10 4]) (C 11 (S (R [n 2 8]) N) K))) (S (R [n 2 0]) N)))).c
def a15:AFunc:=⟨12,c15,[.tmp 2],1⟩
def c16:ACode:=({c:=_}:TbD (S (R [n 2 0]) (S (S (R [m 3 0,ca 4 22 3,j 5 4 4 4]) (C 5 (S (R [n 2 8]) N) K)) (S (R [n 2 0]) N)))).c
def a16:AFunc:=⟨6,c16,[.tmp 2],1⟩
def c17:ACode:=({c:=_}:TbD (S (R [b 3 34 1,n 4 0]) (S (R [m 9 0,ca 10 34 9,m 8 10,e 11 8 0,e 12 8 1,m 5 11,m 6 12]) (S (S (R [m 13 6,j 14 4 13 4]) (C 14 (S (R [n 4 8]) N) K)) (S (S (R [l 15 17 3,ca 16 35 15,m 7 16]) (S (R [m 17 7,w 18 .neq 39 17 0 39 4]) (C 18 (S (R [m 19 7,m 4 19]) N) K))) (S (R [m 20 5,l 21 17 3,cb 22 36 20 21,m 4 22]) N)))))).c
def a17:AFunc:=⟨23,c17,[.tmp 4],1⟩
def c18:ACode:=({c:=_}:TbD (S (R [b 3 34 1,n 4 0]) (S (S (R [m 5 0,ca 6 22 5,j 7 4 6 4,m 8 7,q 9 (l_ 17 3) 8 [],q 10 (ca_ 37 9) 8 [],q 11 (j_ 4 10 4) 8 [],y 12 8 11]) (C 12 (S (R [n 4 8]) N) K)) (S (R [m 13 0,l 14 17 3,cb 15 38 13 14,m 4 15]) N)))).c
def a18:AFunc:=⟨16,c18,[.tmp 4],1⟩
def c19:ACode:=({c:=_}:TbD (S (R [b 2 34 0,b 3 34 1,bf 4]) (S (R [d 5 0 2,f 6 1 5,d 7 0 3,f 8 1 7,v 9 .eql 5 6 8 5 4,m 10 9,p 11 (d_ 1 2) 10 [],p 12 (l_ 3 11) 10 [],p 13 (d_ 1 3) 10 [],p 14 (l_ 3 13) 10 [],p 15 (v_ .eql 27 12 14 27 4) 10 [],x 16 10 15,m 17 16,p 18 (d_ 4 2) 17 [],p 19 (f_ 1 18) 17 [],p 20 (d_ 4 3) 17 [],p 21 (f_ 1 20) 17 [],p 22 (v_ .eql 3 19 21 3 4) 17 [],x 23 17 22,m 24 23,p 25 (d_ 5 2) 24 [],p 26 (l_ 5 25) 24 [],p 27 (d_ 5 3) 24 [],p 28 (l_ 5 27) 24 [],p 29 (v_ .eql 31 26 28 31 4) 24 [],x 30 24 29,m 31 30,p 32 (d_ 10 2) 31 [],p 33 (l_ 4 32) 31 [],p 34 (d_ 10 3) 31 [],p 35 (l_ 4 34) 31 [],p 36 (v_ .eql 29 33 35 29 4) 31 [],x 37 31 36,m 38 37,p 39 (d_ 14 2) 38 [],p 40 (l_ 2 39) 38 [],p 41 (d_ 14 3) 38 [],p 42 (l_ 2 41) 38 [],p 43 (v_ .eql 25 40 42 25 4) 38 [],x 44 38 43,m 45 44,p 46 (d_ 16 2) 45 [],p 47 (f_ 1 46) 45 [],p 48 (d_ 16 3) 45 [],p 49 (f_ 1 48) 45 [],p 50 (cb_ 39 47 49) 45 [],x 51 45 50,m 4 51]) N))).c
def a19:AFunc:=⟨52,c19,[.tmp 4],1⟩
def c20:ACode:=({c:=_}:TbD (S (R [b 1 34 0,o 2 (.alloc 59 Z0),n 3 0]) (S (S (R [l 6 17 1,ca 7 35 6,m 4 7]) (S (R [m 8 4,w 9 .neq 39 8 0 39 4]) (C 9 (S (R [o 10 (.build Z0 []),m 11 4,s 10 2 10,m 3 11]) N) K))) (S (D [d' 12 5 1 [2,3,4,5,6,8],l' 13 5 12 [2,3,4,5,6,8],d' 14 10 1 [0,1,4,5,6,8],l' 15 4 14 [0,1,4,5,6,8],d' 16 16 1 [0,1,2,3,8],f' 17 1 16 [0,1,2,3,8],ca' 18 40 17 [0,1,2,3,8],u 19 (.build Z0 [(0,5,(t 13)),(5,4,(t 15)),(9,1,(t 18))]) [8],u 5 (.alloc 59 Z0) [0,1,2,3,4,5,6,7],s 10 5 19]) (S (S (R [d 20 0 1,f 21 1 20,o 22 (.pur (mkO (.binOp .neq 5 (t 21) (.const (.int .u8 1)) 5) 4)),m 23 22,q 24 (l_ 10 5) 23 [],q 25 (ca_ 41 24) 23 [],q 26 (w_ .neq 39 25 0 39 4) 23 [],y 27 23 26]) (C 27 (S (R [o 28 (.build Z0 []),s 10 2 28,n 3 2]) N) K)) (S (R [l 29 10 5,s 10 2 29,n 3 0]) N)))))).c
def a20:AFunc:=⟨30,c20,[.cell 2 10 true,.tmp 3],1⟩
def c21:ACode:=({c:=_}:TbD (S (R [b 3 59 1,z 4,n 5 0]) (S (S (D [m' 15 0 [2],ca' 16 42 15 [2],l' 17 10 3 [0,1],ca 18 41 17,o 19 (.pur (mkO (.call ⟨.builtin .max,#[(t 16),(t 18)],#[39,39]⟩) 39)),m 6 19]) (S (R [m 20 6,w 21 .neq 39 20 0 39 4]) (C 21 (S (R [m 22 6,z 4,m 5 22]) N) K))) (S (S (R [m 24 0,d 25 5 3,l 26 4 25,cb 27 43 24 26,m 23 27,e 28 23 0,e 29 23 1,m 7 28,m 8 29]) (S (R [m 30 7,w 31 .lss 3 30 0 3 4,m 32 31,p 33 (d_ 5 3) 32 [],p 34 (l_ 4 33) 32 [],p 35 (.build Z3 []) 32 [],p 36 (v_ .neq 29 34 35 29 4) 32 [],x 37 32 36]) (C 37 (S (R [z 4,n 5 6]) N) K))) (S (S (R [d 38 0 3,d 39 4 38,f 40 1 39,n 41 0]) (B 0 (L (S (R [v 42 .lss 3 41 40 3 4]) (S (C 42 K (X 0)) (S (B 1 (S (R [m 43 41,m 9 43]) (S (R [d 45 0 3,l 46 5 45,m 47 9,cb 48 44 46 47,m 44 48,e 49 44 0,e 50 44 1,o 10 (.alloc 29 Z3),s 4 10 49,m 11 50]) (S (R [m 52 0,l 53 4 10,cb 54 43 52 53,m 51 54,e 55 51 0,e 56 51 1,m 12 55,m 13 56]) (S (R [m 57 12,w 58 .geq 3 57 0 3 4]) (C 58 (S (R [z 4,n 5 2]) N) K)))))) (R [w 59 .add 3 41 1 3 3,m 41 59]))))))) (S (S (D [m' 60 0 [2,3,4],ca' 61 45 60 [2,3,4],d' 62 0 3 [0,1],d' 63 4 62 [0,1],f' 64 1 63 [0,1],v 65 .add 3 61 64 3 3,w 66 .gtr 3 65 8192 3 4]) (C 66 (S (R [z 4,n 5 4]) N) K)) (S (R [m 68 0,d 69 5 3,l 70 4 69,cb 71 46 68 70,m 67 71,e 72 67 0,e 73 67 1,m 0 72,m 14 73]) (S (B 2 (L (S (S (D [m' 74 14 [1,2],m' 75 0 [0],k' 76 75 [0],v 77 .lss 3 74 76 3 4,m 78 77,p 79 (d_ 0 3) 78 [8,9,10,11,12,13],p 80 (d_ 0 79) 78 [8,9,10,11,12,13],p 81 (l_ 4 80) 78 [8,9,10,11,12,13],p 82 (m_ 0) 78 [5,6,7,9],p 83 (m_ 14) 78 [5,6,7,8],p 84 (i_ 10 82 83) 78 [5,6,7],p 85 (d_ 0 84) 78 [5,6,7],p 86 (d_ 0 85) 78 [5,6,7],p 87 (l_ 4 86) 78 [5,6,7],p 88 (cb_ 47 81 87) 78 [],x 89 78 88]) (C 89 K (X 2))) (B 3 (R [m 90 14,w 91 .add 3 90 1 3 3,m 14 91]))))) (S (D [m' 92 0 [2,3,4],ca' 93 50 92 [2,3,4],m' 94 14 [0,1,3,4],l' 95 10 3 [0,1,2],u 96 (.bsl 59 10 Z0 1 [(0,10,(t 95))]) [0,1,2],o 97 (.ins 49 59 10 80 (t 93) (t 94) (t 96)),ca 98 48 97,m 4 98,n 5 0]) N))))))))).c
def a21:AFunc:=⟨99,c21,[.tmp 4,.tmp 5],4⟩
def c22:ACode:=({c:=_}:TbD (S (R [bf 2]) (S (S (R [n 3 0]) (B 0 (L (S (S (R [m 4 3,m 5 0,k 6 5,v 7 .lss 3 4 6 3 4]) (C 7 K (X 0))) (S (B 1 (S (D [m' 10 0 [1],m' 11 3 [0],i 12 17 10 11,l 13 17 12,ca 14 37 13,j 15 4 14 4,m 16 15,q 17 (m_ 0) 16 [8,10,11,12,13],q 18 (m_ 3) 16 [7,10,11,12,13],q 19 (.slc 17 (t 17) none (some (t 18)) none) 16 [10,11,12,13],q 20 (m_ 0) 16 [7,8,9,11],q 21 (m_ 3) 16 [7,8,9,10],q 22 (i_ 17 20 21) 16 [7,8,9],q 23 (l_ 17 22) 16 [7,8,9],q 24 (cb_ 38 19 23) 16 [],q 25 (w_ .neq 3 24 0 3 4) 16 [],y 26 16 25]) (C 26 (S (R [bf 2]) N) K))) (R [m 8 3,w 9 .add 3 8 1 3 3,m 3 9])))))) (S (R [bt 2]) N)))).c
def a22:AFunc:=⟨27,c22,[.tmp 2],1⟩
def c23:ACode:=({c:=_}:TbD (S (R [z 2]) (S (R [m 3 0,ca 4 53 3,ca 5 52 4,ca 6 51 5,m 2 6]) N))).c
def a23:AFunc:=⟨7,c23,[.tmp 2],1⟩
def c24:ACode:=({c:=_}:TbD (S (R [bf 4]) (S (R [m 5 0,m 6 1,cb 7 54 5 6,w 8 .geq 3 7 0 3 4,m 4 8]) N))).c
def a24:AFunc:=⟨9,c24,[.tmp 4],0⟩
def c25:ACode:=({c:=_}:TbD (S (R [b 2 34 0,bf 3]) (S (R [d 7 5 2,l 8 5 7,l 9 4 1,cb 10 26 8 9,m 6 10,e 11 6 0,e 12 6 1,m 4 11,m 5 12]) (S (R [d 13 0 2,f 14 1 13,o 15 (.pur (mkO (.binOp .eql 5 (t 14) (.const (.int .u8 2)) 5) 4)),m 16 15,p 17 (m_ 5) 16 [],x 18 16 17,m 3 18]) N)))).c
def a25:AFunc:=⟨19,c25,[.tmp 3],0⟩
def c26:ACode:=({c:=_}:TbD (S (R [b 2 31 0,b 3 29 1,n 4 0,bf 5]) (S (R [d 7 3 3,f 8 1 7,d 9 0 2,d 10 3 9,f 11 1 10,v 12 .sub 3 8 11 3 3,m 6 12]) (S (S (D [l 13 5 2,ca 14 55 13,w 15 .neq 39 14 0 39 4,m 16 15,q 17 (m_ 6) 16 [],q 18 (w_ .lss 3 17 0 3 4) 16 [],y 19 16 18,m 20 19,q 21 (m_ 6) 20 [9,10],q 22 (d_ 4 2) 20 [8],q 23 (f_ 1 22) 20 [8],q 24 (v_ .geq 3 21 23 3 4) 20 [],y 25 20 24,m 26 25,q 27 (l_ 4 3) 26 [15,16,17,18],q 28 (d_ 0 2) 26 [14,17],q 29 (l_ 4 28) 26 [14,17],q 30 (m_ 6) 26 [14,15,16],q 31 (cb_ 56 29 30) 26 [14],q 32 (v_ .neq 29 27 31 29 4) 26 [],y 33 26 32]) (C 33 (S (R [n 4 0,bf 5]) N) K)) (S (R [m 34 6,m 4 34,bt 5]) N))))).c
def a26:AFunc:=⟨35,c26,[.tmp 4,.tmp 5],1⟩
def c27:ACode:=({c:=_}:TbD (S (R [b 3 29 1,bf 4]) (S (S (R [n 5 0]) (B 0 (L (S (S (R [m 8 5,m 9 0,k 10 9,v 11 .lss 3 8 10 3 4]) (C 11 K (X 0))) (S (B 1 (S (S (R [m 14 0,m 15 5,i 16 17 14 15,d 17 0 16,f 18 1 17,o 19 (.pur (mkO (.binOp .neq 5 (t 18) (.const (.int .u8 2)) 5) 4))]) (C 19 (X 1) K)) (S (R [m 20 0,m 21 5,i 22 17 20 21,d 23 5 22,l 24 5 23,ca 25 57 24,m 6 25]) (S (R [n 7 0]) (B 2 (L (S (S (R [m 26 7,m 27 6,k 28 27,v 29 .lss 3 26 28 3 4]) (C 29 K (X 2))) (S (B 3 (S (D [m' 32 6 [1,4],m' 33 7 [0,4],i' 34 4 32 33 [4],l' 35 4 34 [4],l' 36 4 3 [0,1,2,3],v 37 .eql 29 35 36 29 4]) (C 37 (S (R [bt 4]) N) K))) (R [m 30 7,w 31 .add 3 30 1 3 3,m 7 31]))))))))) (R [m 12 5,w 13 .add 3 12 1 3 3,m 5 13])))))) (S (R [bf 4]) N)))).c
def a27:AFunc:=⟨38,c27,[.tmp 4],1⟩
def c28:ACode:=({c:=_}:TbD (S (R [b 1 25 0,n 2 0]) (S (S (R [d 3 0 1,f 4 1 3,o 5 (.pur (mkO (.binOp .gtr 5 (t 4) (.const (.int .u8 15)) 5) 4))]) (C 5 (S (R [n 2 8]) N) K)) (S (R [n 2 0]) N)))).c
def a28:AFunc:=⟨6,c28,[.tmp 2],1⟩
def c29:ACode:=({c:=_}:TbD (S (R [b 2 25 0,b 3 25 1,bf 4]) (S (R [d 5 0 2,f 6 1 5,d 7 0 3,f 8 1 7,v 9 .leq 5 6 8 5 4,m 10 9,p 11 (d_ 1 2) 10 [],p 12 (f_ 1 11) 10 [],p 13 (d_ 1 3) 10 [],p 14 (f_ 1 13) 10 [],p 15 (v_ .andNot 23 12 14 23 23) 10 [],p 16 (.pur (mkO (.binOp .eql 23 (t 15) (.const (.int .u32 0)) 23) 4)) 10 [],x 17 10 16,m 4 17]) N))).c
def a29:AFunc:=⟨18,c29,[.tmp 4],1⟩
def c30:ACode:=({c:=_}:TbD (S (R [b 1 34 0,o 2 (.alloc 34 Z5)]) (S (R [d 3 16 1,f 4 1 3,ca 5 40 4,d 6 16 1,s 1 6 5]) (S (R [l 7 17 1,s 17 2 7]) N)))).c
def a30:AFunc:=⟨8,c30,[.cell 2 17 true],0⟩
def c31:ACode:=({c:=_}:TbD (S (R [b 1 25 0,bf 2]) (S (R [d 3 0 1,f 4 1 3,o 5 (.pur (mkO (.binOp .leq 5 (t 4) (.const (.int .u8 15)) 5) 4)),m 2 5]) N))).c
def a31:AFunc:=⟨6,c31,[.tmp 2],1⟩
def c32:ACode:=({c:=_}:TbD (S (R [b 3 25 1,z 4]) (S (R [z 5]) (S (S (R [n 6 0]) (B 0 (L (S (S (R [m 7 6,m 8 0,k 9 8,v 10 .lss 3 7 9 3 4]) (C 10 K (X 0))) (S (B 1 (S (D [m' 13 0 [1,6],m' 14 6 [0,6],i' 15 17 13 14 [6],d' 16 1 15 [6],d' 17 0 16 [6],l' 18 2 17 [6],l' 19 2 3 [0,1,2,3,4,5],cb 20 58 18 19]) (C 20 (R [m 21 5,m 22 0,m 23 6,i 24 17 22 23,l 25 17 24,o 26 (.bsl 34 17 Z5 1 [(0,17,(t 25))]),o 27 (.app 34 17 112 Z5 (t 21) (t 26)),m 5 27]) K))) (R [m 11 6,w 12 .add 3 11 1 3 3,m 6 12])))))) (S (R [m 28 5,m 4 28]) N))))).c
def a32:AFunc:=⟨29,c32,[.tmp 4],1⟩
def c33:ACode:=({c:=_}:TbD (S (R [b 2 59 0,b 3 59 1,bf 4]) (S (R [d 5 0 2,l 6 5 5,d 7 0 3,l 8 5 7,v 9 .eql 31 6 8 31 4,m 10 9,p 11 (d_ 5 2) 10 [],p 12 (l_ 4 11) 10 [],p 13 (d_ 5 3) 10 [],p 14 (l_ 4 13) 10 [],p 15 (v_ .eql 29 12 14 29 4) 10 [],x 16 10 15,m 17 16,p 18 (d_ 9 2) 17 [],p 19 (f_ 1 18) 17 [],p 20 (d_ 9 3) 17 [],p 21 (f_ 1 20) 17 [],p 22 (cb_ 39 19 21) 17 [],x 23 17 22,m 4 23]) N))).c
def a33:AFunc:=⟨24,c33,[.tmp 4],1⟩
def c34:ACode:=({c:=_}:TbD (S (R [o 2 (.mov (.const (.pointer none))),bf 3]) (S (R [o 9 (.mkmap),o 10 (.build (.agg #[(.slice none 0 0),(.map none)]) [(1,1,(t 9))]),b 11 105 10,m 4 11]) (S (S (R [m 12 0,k 13 12,n 14 0]) (B 0 (L (S (R [v 15 .lss 3 14 13 3 0]) (S (C 15 K (X 0)) (S (B 1 (S (R [i 16 17 12 14,l 17 17 16,o 6 (.alloc 34 Z5),s 17 6 17]) (S (S (R [l 18 17 6,ca 19 35 18,w 20 .neq 39 19 0 39 4,m 21 20,q 22 (m_ 4) 21 [],q 23 (l_ 17 6) 21 [],q 24 (cb_ 36 22 23) 21 [],q 25 (w_ .neq 39 24 0 39 4) 21 [],y 26 21 25]) (C 26 (S (R [o 2 (.mov (.const (.pointer none))),bf 3]) N) K)) (S (D [m' 27 4 [1,2,3,4,5,6,7],m' 28 4 [0,5,6],u 29 (.nilck (t 28)) [0,5,6],d' 30 0 29 [0,5,6],f' 31 1 30 [0,5,6],l' 32 17 6 [0,1,2,3,4],u 33 (.bsl 34 17 Z5 1 [(0,17,(t 32))]) [0,1,2,3,4],u 34 (.app 34 17 112 Z5 (t 31) (t 33)) [0],o 35 (.nilck (t 27)),d 36 0 35,s 1 36 34]) (S (R [d 37 0 6,f 38 1 37,o 39 (.pur (mkO (.binOp .eql 5 (t 38) (.const (.int .u8 1)) 5) 4))]) (C 39 (S (R [d 40 5 6,l 41 5 40,ca 42 59 41,k 43 42,n 44 0]) (B 2 (L (S (R [v 45 .lss 3 44 43 3 0]) (S (C 45 K (X 2)) (S (B 3 (S (R [i 46 4 42 44,l 47 4 46,o 8 (.alloc 29 Z3),s 4 8 47]) (.region [m' 48 4 [4],u 49 (.nilck (t 48)) [4],d' 50 1 49 [4],f' 51 1 50 [4],l' 52 4 8 [0,1,2,3],O (.mupd 29 (t 51) (t 52) (.const (.bool true)))] true))) (R [w 53 .add 3 44 1 3 3,m 44 53]))))))) K)))))) (R [w 54 .add 3 14 1 3 3,m 14 54]))))))) (S (R [m 55 4,m 2 55,bt 3]) N))))).c
def a34:AFunc:=⟨56,c34,[.tmp 2,.tmp 3],0⟩
def c35:ACode:=({c:=_}:TbD (S (R [b 1 34 0,n 2 0]) (S (S (D [d 3 0 1,f 4 1 3,o 5 (.pur (mkO (.binOp .eql 5 (t 4) (.const (.int .u8 0)) 5) 4)),m 6 5,q 7 (d_ 0 1) 6 [],q 8 (f_ 1 7) 6 [],q 9 (.pur (mkO (.binOp .geq 5 (t 8) (.const (.int .u8 4)) 5) 4)) 6 [],y 10 6 9,m 11 10,q 12 (d_ 1 1) 11 [],q 13 (l_ 3 12) 11 [],q 14 (ca_ 60 13) 11 [],q 15 (w_ .neq 39 14 0 39 4) 11 [],y 16 11 15,m 17 16,q 18 (d_ 4 1) 17 [],q 19 (f_ 1 18) 17 [],q 20 (w_ .lss 3 19 1 3 4) 17 [],y 21 17 20,m 22 21,q 23 (d_ 4 1) 22 [],q 24 (f_ 1 23) 22 [],q 25 (w_ .geq 3 24 16777216 3 4) 22 [],y 26 22 25,m 27 26,q 28 (d_ 5 1) 27 [],q 29 (l_ 5 28) 27 [],q 30 (ca_ 55 29) 27 [],q 31 (w_ .neq 39 30 0 39 4) 27 [],y 32 27 31,m 33 32,q 34 (.call (.func 61) []) 33 [32,33,36],q 35 (d_ 0 1) 33 [31,36],q 36 (f_ 1 35) 33 [31,36],q 37 (.idx 4 2 true (t 34) (t 36)) 33 [36],q 38 (.fld 0 1 false (t 37)) 33 [36],q 39 (l_ 17 1) 33 [31,32,33,34,35],q 40 (.call (t 38) [(t 39)]) 33 [],q 41 (j_ 4 40 4) 33 [],y 42 33 41]) (C 42 (S (R [n 2 8]) N) K)) (S (R [n 2 0]) N)))).c
def a35:AFunc:=⟨43,c35,[.tmp 2],1⟩
def c36:ACode:=({c:=_}:TbD (S (R [b 3 34 1,n 4 0]) (S (D [u 6 (.build (.agg #[.nilFunc,.nilFunc,.nilFunc,.nilFunc]) [(1,1,(.func 62)),(2,1,(.func 63)),(3,1,(.func 64))]) [1,2,4,5],d' 7 0 3 [0,4,5],f' 8 1 7 [0,4,5],u 9 (.idx 4 1 false (t 6) (t 8)) [4,5],m' 10 0 [0,1,2,3,5],l' 11 17 3 [0,1,2,3,4],o 12 (.call (t 9) [(t 10),(t 11)]),m 5 12]) (S (S (R [m 13 5,w 14 .eql 39 13 0 39 4,m 15 14,p 16 (m_ 0) 15 [],p 17 (.nilck (t 16)) 15 [],p 18 (d_ 0 17) 15 [],p 19 (f_ 1 18) 15 [],p 20 (k_ 19) 15 [],p 21 (w_ .geq 3 20 2048 3 4) 15 [],x 22 15 21]) (C 22 (R [n 5 4]) K)) (S (R [m 23 5,m 4 23]) N))))).c
def a36:AFunc:=⟨24,c36,[.tmp 4],0⟩
def c37:ACode:=({c:=_}:TbD (S (R [b 1 34 0,bf 2]) (S (S (R [d 4 1 1,l 5 3 4,ca 6 65 5,j 7 4 6 4,m 8 7,q 9 (d_ 4 1) 8 [],q 10 (f_ 1 9) 8 [],q 11 (w_ .lss 3 10 1 3 4) 8 [],y 12 8 11,m 13 12,q 14 (d_ 4 1) 13 [],q 15 (f_ 1 14) 13 [],q 16 (w_ .geq 3 15 16777216 3 4) 13 [],y 17 13 16,m 18 17,q 19 (d_ 5 1) 18 [],q 20 (l_ 5 19) 18 [],q 21 (ca_ 66 20) 18 [],q 22 (j_ 4 21 4) 18 [],y 23 18 22]) (C 23 (S (R [bf 2]) N) K)) (S (R [d 24 14 1,l 25 2 24,o 26 (.build Z4 []),v 27 .eql 25 25 26 25 4,m 3 27]) (S (S (R [d 28 0 1,f 29 1 28,o 30 (.pur (mkO (.binOp .eql 5 (t 29) (.const (.int .u8 1)) 5) 4))]) (C 30 (S (R [m 31 3,m 32 31,p 33 (d_ 10 1) 32 [],p 34 (l_ 4 33) 32 [],p 35 (ca_ 67 34) 32 [],p 36 (m_ 35) 32 [],q 37 (d_ 10 1) 36 [],q 38 (l_ 4 37) 36 [],q 39 (ca_ 68 38) 36 [],p 40 (y_ 36 39) 32 [],x 41 32 40,m 42 41,p 43 (d_ 5 1) 42 [],p 44 (d_ 0 43) 42 [],p 45 (d_ 0 44) 42 [],p 46 (l_ 3 45) 42 [],p 47 (d_ 1 1) 42 [],p 48 (l_ 3 47) 42 [],p 49 (v_ .eql 27 46 48 27 4) 42 [],x 50 42 49,m 51 50,p 52 (d_ 16 1) 51 [],p 53 (f_ 1 52) 51 [],p 54 (k_ 53) 51 [],p 55 (d_ 5 1) 51 [],p 56 (d_ 4 55) 51 [],p 57 (f_ 1 56) 51 [],p 58 (v_ .eql 3 54 57 3 4) 51 [],x 59 51 58,m 60 59,p 61 (d_ 16 1) 60 [],p 62 (f_ 1 61) 60 [],p 63 (ca_ 69 62) 60 [],p 64 (w_ .eql 3 63 0 3 4) 60 [],x 65 60 64,m 2 65]) N) K)) (S (S (R [d 66 10 1,l 67 4 66,ca 68 67 67,j 69 4 68 4,m 70 69,q 71 (d_ 16 1) 70 [],q 72 (f_ 1 71) 70 [],q 73 (k_ 72) 70 [],q 74 (w_ .gtr 3 73 0 3 4) 70 [],y 75 70 74]) (C 75 (S (R [bf 2]) N) K)) (S (R [d 76 0 1,f 77 1 76,o 78 (.pur (mkO (.binOp .eql 5 (t 77) (.const (.int .u8 2)) 5) 4)),m 79 78,p 80 (m_ 3) 79 [],x 81 79 80,m 82 81,q 83 (d_ 0 1) 82 [],q 84 (f_ 1 83) 82 [],q 85 (.pur (mkO (.binOp .eql 5 (t 84) (.const (.int .u8 3)) 5) 4)) 82 [],q 86 (m_ 85) 82 [],p 87 (d_ 14 1) 86 [],p 88 (l_ 2 87) 86 [],p 89 (ca_ 31 88) 86 [],q 90 (x_ 86 89) 82 [],y 91 82 90,m 2 91]) N))))))).c
def a37:AFunc:=⟨92,c37,[.tmp 2],1⟩
def c38:ACode:=({c:=_}:TbD (S (R [b 3 34 1,n 4 0]) (S (R [m 9 0,ca 10 53 9,m 5 10]) (S (R [d 11 5 3,l 12 5 11,ca 13 57 12,m 6 13]) (S (S (R [d 14 0 3,f 15 1 14,o 16 (.pur (mkO (.binOp .eql 5 (t 15) (.const (.int .u8 1)) 5) 4))]) (C 16 (S (S (R [d 17 10 3,l 18 4 17,o 19 (.build Z3 []),v 20 .neq 29 18 19 29 4,m 21 20,p 22 (m_ 5) 21 [],p 23 (d_ 10 3) 21 [],p 24 (l_ 4 23) 21 [],p 25 (d_ 1 3) 21 [],p 26 (d_ 0 25) 21 [],p 27 (l_ 2 26) 21 [],p 28 (cd_ 70 22 24 27) 21 [],p 29 (j_ 4 28 4) 21 [],x 30 21 29]) (C 30 (S (R [n 4 6]) N) K)) (S (S (R [d 31 5 3,l 32 5 31,d 33 10 3,l 34 4 33,d 35 16 3,f 36 1 35,o 37 (.build Z0 [(0,5,(t 32)),(5,4,(t 34)),(9,1,(t 36))]),ca 38 71 37,j 39 4 38 4]) (C 39 (S (R [n 4 2]) N) K)) (S (S (R [n 7 0]) (B 0 (L (S (S (R [m 40 7,m 41 6,k 42 41,v 43 .lss 3 40 42 3 4]) (C 43 K (X 0))) (S (B 1 (S (R [m 46 5,m 47 6,m 48 7,i 49 4 47 48,l 50 4 49,cb 51 72 46 50,w 52 .geq 3 51 0 3 4]) (C 52 (S (R [n 4 2]) N) K))) (R [m 44 7,w 45 .add 3 44 1 3 3,m 7 45])))))) (S (R [m 53 5,k 54 53,m 55 6,k 56 55,v 57 .add 3 54 56 3 3,w 58 .gtr 3 57 8192 3 4]) (C 58 (S (R [n 4 4]) N) K))))) K)) (S (S (R [n 8 0]) (B 2 (L (S (S (R [m 59 8,m 60 6,k 61 60,v 62 .lss 3 59 61 3 4,m 63 62,p 64 (d_ 0 3) 63 [],p 65 (f_ 1 64) 63 [],p 66 (.pur (mkO (.binOp .neq 5 (t 65) (.const (.int .u8 1)) 5) 4)) 63 [],x 67 63 66]) (C 67 K (X 2))) (S (B 3 (S (D [m' 70 5 [1,2,3,4,5,6,7],m' 71 6 [0,2,5,6,7],m' 72 8 [0,1,5,6,7],i' 73 4 71 72 [0,5,6,7],l' 74 4 73 [0,5,6,7],d' 75 1 3 [0,1,2,3,4],d' 76 0 75 [0,1,2,3,4],l' 77 2 76 [0,1,2,3,4],cd 78 70 70 74 77,j 79 4 78 4]) (C 79 (S (R [n 4 6]) N) K))) (R [m 68 8,w 69 .add 3 68 1 3 3,m 8 69])))))) (S (S (R [d 80 0 3,f 81 1 80,o 82 (.pur (mkO (.binOp .eql 5 (t 81) (.const (.int .u8 2)) 5) 4)),m 83 82,p 84 (d_ 5 3) 83 [],p 85 (d_ 0 84) 83 [],p 86 (d_ 0 85) 83 [],p 87 (d_ 0 86) 83 [],p 88 (l_ 2 87) 83 [],p 89 (d_ 1 3) 83 [],p 90 (d_ 0 89) 83 [],p 91 (l_ 2 90) 83 [],p 92 (v_ .neq 25 88 91 25 4) 83 [],x 93 83 92,m 94 93,q 95 (d_ 0 3) 94 [],q 96 (f_ 1 95) 94 [],q 97 (.pur (mkO (.binOp .eql 5 (t 96) (.const (.int .u8 3)) 5) 4)) 94 [],q 98 (m_ 97) 94 [],p 99 (m_ 0) 98 [],p 100 (l_ 17 3) 98 [],p 101 (cb_ 73 99 100) 98 [],p 102 (j_ 4 101 4) 98 [],q 103 (x_ 98 102) 94 [],y 104 94 103]) (C 104 (S (R [n 4 2]) N) K)) (S (S (R [m 105 0,k 106 105,w 107 .geq 3 106 2048 3 4]) (C 107 (S (R [n 4 4]) N) K)) (S (R [n 4 0]) N))))))))).c
def a38:AFunc:=⟨108,c38,[.tmp 4],1⟩
def c39:ACode:=({c:=_}:TbD (S (R [bf 4]) (S (S (R [m 6 0,k 7 6,m 8 1,k 9 8,v 10 .neq 3 7 9 3 4]) (C 10 (S (R [bf 4]) N) K)) (S (S (R [n 5 0]) (B 0 (L (S (S (R [m 11 5,m 12 0,k 13 12,v 14 .lss 3 11 13 3 4]) (C 14 K (X 0))) (S (B 1 (S (D [m' 17 0 [1,4,5,6,7],m' 18 5 [0,4,5,6,7],i' 19 1 17 18 [4,5,6,7],f' 20 1 19 [4,5,6,7],m' 21 1 [0,1,2,3,5],m' 22 5 [0,1,2,3,4],i' 23 1 21 22 [0,1,2,3],f' 24 1 23 [0,1,2,3],v 25 .neq 21 20 24 21 4]) (C 25 (S (R [bf 4]) N) K))) (R [m 15 5,w 16 .add 3 15 1 3 3,m 5 16])))))) (S (R [bt 4]) N))))).c
def a39:AFunc:=⟨26,c39,[.tmp 4],1⟩
def c40:ACode:=({c:=_}:TbD (S (R [z 2]) (S (S (R [m 3 0,o 4 (.eqnil false 1 (t 3) (mkO (.binOp .eql 32 (t 3) (.const (.slice none 0 0)) 32) 4))]) (C 4 (S (R [z 2]) N) K)) (S (R [o 5 (.bsl 21 1 (.int .i32 0) 0 []),m 6 0,o 7 (.app 21 1 4 (.int .i32 0) (t 5) (t 6)),m 2 7]) N)))).c
def a40:AFunc:=⟨8,c40,[.tmp 2],0⟩
def c41:ACode:=({c:=_}:TbD (S (R [b 1 59 0,n 2 0]) (S (R [d 4 5 1,l 5 4 4,o 6 (.build Z3 []),v 7 .eql 29 5 6 29 4,m 8 7,q 9 (d_ 5 1) 8 [],q 10 (l_ 4 9) 8 [],q 11 (ca_ 74 10) 8 [],q 12 (w_ .eql 39 11 0 39 4) 8 [],q 13 (m_ 12) 8 [],p 14 (d_ 5 1) 13 [],p 15 (d_ 3 14) 13 [],p 16 (f_ 1 15) 13 [],p 17 (d_ 0 1) 13 [],p 18 (d_ 0 17) 13 [],p 19 (d_ 3 18) 13 [],p 20 (f_ 1 19) 13 [],p 21 (v_ .lss 3 16 20 3 4) 13 [],q 22 (x_ 13 21) 8 [],y 23 8 22,m 3 23]) (S (S (R [d 24 0 1,l 25 5 24,ca 26 55 25,w 27 .neq 39 26 0 39 4,m 28 27,q 29 (m_ 3) 28 [],q 30 (j_ 4 29 4) 28 [],y 31 28 30,m 32 31,q 33 (d_ 9 1) 32 [],q 34 (f_ 1 33) 32 [],q 35 (k_ 34) 32 [],q 36 (d_ 0 1) 32 [],q 37 (d_ 4 36) 32 [],q 38 (f_ 1 37) 32 [],q 39 (v_ .neq 3 35 38 3 4) 32 [],y 40 32 39,m 41 40,q 42 (d_ 9 1) 41 [],q 43 (f_ 1 42) 41 [],q 44 (ca_ 75 43) 41 [],q 45 (w_ .neq 39 44 0 39 4) 41 [],y 46 41 45]) (C 46 (S (R [n 2 8]) N) K)) (S (R [n 2 0]) N))))).c
def a41:AFunc:=⟨47,c41,[.tmp 2],1⟩
def c42:ACode:=({c:=_}:TbD (S (R [n 2 0]) (S (S (R [m 3 0,o 4 (.call (.func 76) [(t 3),(.func 77)]),m 5 4,q 6 (m_ 0) 5 [],q 7 (ca_ 45 6) 5 [],q 8 (w_ .gtr 3 7 8192 3 4) 5 [],y 9 5 8,m 10 9,q 11 (m_ 0) 10 [],q 12 (ca_ 78 11) 10 [],q 13 (j_ 4 12 4) 10 [],y 14 10 13,m 15 14,q 16 (m_ 0) 15 [],q 17 (ca_ 48 16) 15 [],q 18 (m_ 0) 15 [],q 19 (cb_ 79 17 18) 15 [],q 20 (j_ 4 19 4) 15 [],y 21 15 20]) (C 21 (S (R [n 2 8]) N) K)) (S (R [n 2 0]) N)))).c
def a42:AFunc:=⟨22,c42,[.tmp 2],1⟩
def c43:ACode:=({c:=_}:TbD (S (R [b 3 29 1,n 4 0,n 5 0]) (S (S (R [m 10 0,k 11 10,n 12 0]) (B 0 (L (S (R [v 13 .lss 3 12 11 3 0]) (S (C 13 K (X 0)) (S (B 1 (S (R [m 14 12,i 15 10 10 12,l 16 10 15,o 7 (.alloc 59 Z0),m 6 14,s 10 7 16]) (S (R [d 18 0 7,l 19 5 18,l 20 4 3,cb 21 26 19 20,m 17 21,e 22 17 0,e 23 17 1,m 8 22,m 9 23]) (S (R [m 24 9]) (C 24 (S (R [m 25 6,m 26 8,m 4 25,m 5 26]) N) K))))) (R [w 27 .add 3 12 1 3 3,m 12 27]))))))) (S (R [n 4 (-1),n 5 0]) N)))).c
def a43:AFunc:=⟨28,c43,[.tmp 4,.tmp 5],1⟩
def c44:ACode:=({c:=_}:TbD (S (R [b 2 31 0,o 4 (.alloc 29 Z3),n 5 0]) (S (S (R [l 7 5 2,ca 8 55 7,m 6 8]) (S (R [m 9 6,w 10 .neq 39 9 0 39 4]) (C 10 (S (R [o 11 (.build Z3 []),m 12 6,s 4 4 11,m 5 12]) N) K))) (S (S (R [m 13 1,w 14 .lss 3 13 0 3 4,m 15 14,q 16 (m_ 1) 15 [],q 17 (d_ 4 2) 15 [],q 18 (f_ 1 17) 15 [],q 19 (v_ .geq 3 16 18 3 4) 15 [],y 20 15 19]) (C 20 (S (R [o 21 (.build Z3 []),s 4 4 21,n 5 2]) N) K)) (S (R [d 22 0 2,l 23 4 22,m 24 1,cb 25 56 23 24,s 4 4 25,n 5 0]) N))))).c
def a44:AFunc:=⟨26,c44,[.cell 4 4 true,.tmp 5],1⟩
def c45:ACode:=({c:=_}:TbD (S (R [n 2 0]) (S (S (R [m 5 0,k 6 5,n 7 0]) (B 0 (L (S (R [v 8 .lss 3 7 6 3 0]) (S (C 8 K (X 0)) (S (B 1 (S (R [i 9 10 5 7,l 10 10 9,o 4 (.alloc 59 Z0),s 10 4 10]) (R [m 11 2,d 12 0 4,d 13 4 12,f 14 1 13,v 15 .add 3 11 14 3 3,m 2 15]))) (R [w 16 .add 3 7 1 3 3,m 7 16]))))))) (S (R [m 17 2,m 2 17]) N)))).c
def a45:AFunc:=⟨18,c45,[.tmp 2],1⟩
def c46:ACode:=({c:=_}:TbD (S (R [b 3 29 1,z 4,n 5 0]) (S (S (R [l 11 4 3,o 12 (.build Z3 []),v 13 .eql 29 11 12 29 4]) (C 13 (S (R [m 14 0,m 4 14,n 5 0]) N) K)) (S (R [m 16 0,l 17 4 3,cb 18 43 16 17,m 15 18,e 19 15 0,e 20 15 1,m 6 19,m 7 20]) (S (S (R [m 22 0,m 23 6,i 24 10 22 23,l 25 10 24,m 26 7,w 27 .add 3 26 1 3 3,cb 28 80 25 27,m 21 28,e 29 21 0,e 30 21 1,e 31 21 2,o 8 (.alloc 59 Z0),o 9 (.alloc 59 Z0),s 10 8 29,s 10 9 30,m 10 31]) (S (R [m 32 10,w 33 .eql 39 32 0 39 4]) (C 33 (D [m' 34 0 [1,3,4,5,6,7,8,9],m' 35 6 [0,3,4,5,6,7,8,9],u 36 (.slc 10 (t 34) none (some (t 35)) none) [3,4,5,6,7,8,9],l' 37 10 8 [0,1,2,4,6,7,8,9],l' 38 10 9 [0,1,2,3,6,7,8,9],u 39 (.bsl 59 10 Z0 2 [(0,10,(t 37)),(10,10,(t 38))]) [0,1,2,6,7,8,9],m' 40 0 [0,1,2,3,4,5,7,8],m' 41 6 [0,1,2,3,4,5,6],w' 42 .add 3 41 1 3 3 [0,1,2,3,4,5,6],u 43 (.slc 10 (t 40) (some (t 42)) none none) [0,1,2,3,4,5],o 44 (.bsl 38 1 (.slice none 0 0) 3 [(0,1,(t 36)),(1,1,(t 39)),(2,1,(t 43))]),ca 45 81 44,m 0 45]) K))) (S (R [m 46 0,m 47 6,w 48 .add 3 47 1 3 3,m 4 46,m 5 48]) N)))))).c
def a46:AFunc:=⟨49,c46,[.tmp 4,.tmp 5],1⟩
def c47:ACode:=({c:=_}:TbD (S (R [b 2 29 0,b 3 29 1,bf 4]) (S (B 0 (S (R [d 6 3 2,f 7 1 6,d 8 3 3,f 9 1 8,v 10 .neq 3 7 9 3 4,m 5 10]) (C 5 (S (R [d 11 3 2,f 12 1 11,d 13 3 3,f 14 1 13,v 15 .lss 3 12 14 3 4,m 4 15]) N) (S (R [d 17 0 2,d 18 0 17,l 19 2 18,d 20 0 3,d 21 0 20,l 22 2 21,v 23 .neq 25 19 22 25 4,m 16 23]) (C 16 (S (R [d 24 0 2,d 25 0 24,l 26 2 25,d 27 0 3,d 28 0 27,l 29 2 28,cb 30 82 26 29,m 4 30]) N) K))))) (S (R [d 31 0 2,d 32 2 31,f 33 1 32,d 34 0 3,d 35 2 34,f 36 1 35,v 37 .lss 5 33 36 5 4,m 4 37]) N)))).c
def a47:AFunc:=⟨38,c47,[.tmp 4],1⟩
def c48:ACode:=({c:=_}:TbD (S (R [z 2]) (S (S (R [m 13 0,k 14 13,n 15 0]) (B 0 (L (S (R [v 16 .lss 3 15 14 3 0]) (S (C 16 K (X 0)) (S (B 1 (S (R [i 17 10 13 15,l 18 10 17,o 4 (.alloc 59 Z0),s 10 4 18]) (S (R [m 19 2,k 20 19,w 21 .sub 3 20 1 3 3,m 5 21]) (S (D [m 22 5,w 23 .geq 3 22 0 3 4,m 24 23,p 25 (d_ 5 4) 24 [5,6,7,8,9],p 26 (l_ 4 25) 24 [5,6,7,8,9],p 27 (m_ 2) 24 [3,4,6],p 28 (m_ 5) 24 [3,4,5],p 29 (i_ 10 27 28) 24 [3,4],p 30 (l_ 10 29) 24 [3,4],p 31 (ca_ 83 30) 24 [3,4],p 32 (v_ .eql 29 26 31 29 4) 24 [],x 33 24 32,m 34 33,p 35 (d_ 0 4) 34 [16,17,18,19,20,21,22,23],p 36 (d_ 0 35) 34 [16,17,18,19,20,21,22,23],p 37 (l_ 4 36) 34 [16,17,18,19,20,21,22,23],p 38 (d_ 5 4) 34 [13,14,15,19,20,21,22],p 39 (d_ 0 38) 34 [13,14,15,19,20,21,22],p 40 (l_ 3 39) 34 [13,14,15,19,20,21,22],p 41 (d_ 5 4) 34 [13,14,15,16,17,18],p 42 (d_ 3 41) 34 [13,14,15,16,17,18],p 43 (f_ 1 42) 34 [13,14,15,16,17,18],p 44 (w_ .add 3 43 1 3 3) 34 [13,14,15,16,17,18],p 45 (.build Z3 [(0,3,(t 40)),(3,1,(t 44))]) 34 [13,14,15],p 46 (v_ .eql 29 37 45 29 4) 34 [],x 47 34 46,m 6 47]) (S (S (R [m 48 6]) (C 48 (S (R [m 49 2,m 50 5,i 51 10 49 50,d 52 0 51,d 53 4 52,f 54 1 53,o 55 (.pur (mkO (.binOp .sub 3 (.const (.int .i64 64)) (t 54) 3) 3)),m 7 55]) (S (R [l 57 10 4,m 58 7,cb 59 80 57 58,m 56 59,e 60 56 0,e 61 56 1,e 62 56 2,o 8 (.alloc 59 Z0),o 9 (.alloc 59 Z0),s 10 8 60,s 10 9 61,m 10 62]) (S (R [m 63 10,w 64 .eql 39 63 0 39 4]) (C 64 (S (D [m' 66 2 [1,2,3,4,5,6,7,8,9,10],m' 67 5 [0,2,3,4,5,6,7,8,9,10],m' 68 2 [0,1,3,6],m' 69 5 [0,1,2,6],i' 70 10 68 69 [0,1,6],l' 71 10 70 [0,1,6],l' 72 10 8 [0,1,2,3,4,5],cb' 73 84 71 72 [0,1],m' 65 73 [0,1],e' 74 65 0 [0,1,10],e' 75 65 1 [0,1,9,11,12],i' 76 10 66 67 [10],s' 10 76 74 [10]]) (R [l 77 10 9,s 10 4 77])) (S (D [m' 79 2 [1,4,9],m' 80 5 [0,4,9],i' 81 10 79 80 [4,9],l' 82 10 81 [4,9],l' 83 10 4 [0,1,2,3,9],cb' 84 84 82 83 [9],m' 78 84 [9],e' 85 78 0 [8,9],e' 86 78 1 [7,9,10],u 11 (.alloc 59 Z0) [0,1,2,3,4,5,6,7,8],s' 10 11 85 [8],m 12 86]) (S (R [m 87 12,w 88 .eql 39 87 0 39 4]) (C 88 (S (R [m 89 2,m 90 5,l 91 10 11,i 92 10 89 90,s 10 92 91]) (X 1)) K))))))) K)) (R [m 93 2,l 94 10 4,ca 95 85 94,o 96 (.bsl 59 10 Z0 1 [(0,10,(t 95))]),o 97 (.app 59 10 80 Z0 (t 93) (t 96)),m 2 97])))))) (R [w 98 .add 3 15 1 3 3,m 15 98]))))))) (S (R [m 99 2,m 2 99]) N)))).c
def a48:AFunc:=⟨100,c48,[.tmp 2],4⟩
def c49:ACode:=({c:=_}:TbD (S (R [z 6]) (S (R [m 10 0,m 11 1,o 12 (.slc 10 (t 10) (some (t 11)) none none)]) (S (R [m 13 2,k 14 13,m 7 14]) (S (S (R [m 15 7,w 16 .eql 3 15 0 3 4]) (C 16 (S (R [m 17 0,m 6 17]) N) K)) (S (R [m 18 0,k 19 18,m 8 19]) (S (S (R [m 20 1,m 21 8,v 22 .eql 3 20 21 3 4]) (C 22 (S (R [m 23 0,m 24 2,o 25 (.app 59 10 80 Z0 (t 23) (t 24)),m 6 25]) N) K)) (S (S (R [m 26 8,m 27 7,v 28 .add 3 26 27 3 3,m 29 0,o 30 (.cap (t 29)),v 31 .gtr 3 28 30 3 4]) (C 31 (S (R [m 32 0,m 33 1,o 34 (.slc 10 (t 32) none (some (t 33)) none),m 35 8,m 36 7,v 37 .add 3 35 36 3 3,m 38 1,v 39 .sub 3 37 38 3 3,o 40 (.appz 59 10 80 Z0 (t 34) (t 39)),m 9 40]) (S (R [m 41 9,m 42 1,o 43 (.slc 10 (t 41) (some (t 42)) none none),m 44 2,o 45 (.cpy 10 (t 43) (t 44))]) (S (D [m' 46 9 [1,2,3,5,6,7],m' 47 1 [0,2,5,6,7],m' 48 7 [0,1,5,6,7],v' 49 .add 3 47 48 3 3 [0,5,6,7],u 50 (.slc 10 (t 46) (some (t 49)) none none) [5,6,7],m' 51 0 [0,1,2,3,4,6],m' 52 1 [0,1,2,3,4,5],u 53 (.slc 10 (t 51) (some (t 52)) none none) [0,1,2,3,4],o 54 (.cpy 10 (t 50) (t 53))]) (S (R [m 55 9,m 6 55]) N)))) K)) (S (R [m 56 0,m 57 8,m 58 7,v 59 .add 3 57 58 3 3,o 60 (.slc 10 (t 56) none (some (t 59)) none),m 0 60]) (S (S (R [m 61 2,m 62 0,m 63 1,m 64 7,v 65 .add 3 63 64 3 3,o 66 (.slc 10 (t 62) (some (t 65)) none none),o 67 (.ovl 10 (t 61) (t 66)),j 68 4 67 4]) (C 68 (S (D [m' 69 0 [1,2,3,5,6,7],m' 70 1 [0,2,5,6,7],m' 71 7 [0,1,5,6,7],v' 72 .add 3 70 71 3 3 [0,5,6,7],u 73 (.slc 10 (t 69) (some (t 72)) none none) [5,6,7],m' 74 0 [0,1,2,3,4,6],m' 75 1 [0,1,2,3,4,5],u 76 (.slc 10 (t 74) (some (t 75)) none none) [0,1,2,3,4],o 77 (.cpy 10 (t 73) (t 76))]) (S (R [m 78 0,m 79 1,o 80 (.slc 10 (t 78) (some (t 79)) none none),m 81 2,o 82 (.cpy 10 (t 80) (t 81))]) (S (R [m 83 0,m 6 83]) N))) K)) (S (R [m 84 0,m 85 8,o 86 (.slc 10 (t 84) (some (t 85)) none none),m 87 2,o 88 (.cpy 10 (t 86) (t 87))]) (S (R [m 89 0,m 90 1,o 91 (.slc 10 (t 89) (some (t 90)) none none),m 92 7,cb 93 87 91 92]) (S (R [m 94 0,m 6 94]) N))))))))))))).c
def a49:AFunc:=⟨95,c49,[.tmp 6],0⟩
def c50:ACode:=({c:=_}:TbD (S (R [z 2]) (S (S (R [m 3 0,o 4 (.eqnil false 1 (t 3) (mkO (.binOp .eql 38 (t 3) (.const (.slice none 0 0)) 38) 4))]) (C 4 (S (R [z 2]) N) K)) (S (R [o 5 (.bsl 59 10 Z0 0 []),m 6 0,o 7 (.app 59 10 80 Z0 (t 5) (t 6)),m 2 7]) N)))).c
def a50:AFunc:=⟨8,c50,[.tmp 2],0⟩
def c51:ACode:=({c:=_}:TbD (S (R [z 2]) (S (R [z 3]) (S (S (R [n 4 0]) (B 0 (L (S (S (R [m 6 4,m 7 0,k 8 7,v 9 .lss 3 6 8 3 4]) (C 9 K (X 0))) (S (B 1 (S (R [m 12 3,k 13 12,m 5 13]) (S (S (D [m 14 5,w 15 .gtr 3 14 0 3 4,m 16 15,p 17 (m_ 3) 16 [4,5,8,9,10,11],p 18 (m_ 5) 16 [3,8,9,10,11],p 19 (w_ .sub 3 18 1 3 3) 16 [3,8,9,10,11],p 20 (i_ 10 17 19) 16 [8,9,10,11],p 21 (l_ 10 20) 16 [8,9,10,11],p 22 (m_ 0) 16 [3,4,5,6,7,9],p 23 (m_ 4) 16 [3,4,5,6,7,8],p 24 (i_ 9 22 23) 16 [3,4,5,6,7],p 25 (l_ 9 24) 16 [3,4,5,6,7],p 26 (cb_ 88 21 25) 16 [],x 27 16 26]) (C 27 (S (R [m 28 3,m 29 5,w 30 .sub 3 29 1 3 3,m 31 3,m 32 5,w 33 .sub 3 32 1 3 3,i 34 10 31 33,d 35 0 34,d 36 4 35,f 37 1 36,w 38 .add 3 37 1 3 3,i 39 10 28 30,d 40 0 39,d 41 4 40,s 1 41 38]) (S (D [m' 42 3 [1,2,3,4,5,6,7,8,9,10,11,12,13,14,15],m' 43 5 [0,3,4,5,6,7,8,9,10,11,12,13,14,15],w' 44 .sub 3 43 1 3 3 [0,3,4,5,6,7,8,9,10,11,12,13,14,15],m' 45 3 [0,1,2,4,5,9,10,11,12,13,14],m' 46 5 [0,1,2,3,9,10,11,12,13,14],w' 47 .sub 3 46 1 3 3 [0,1,2,3,9,10,11,12,13,14],i' 48 10 45 47 [0,1,2,9,10,11,12,13,14],d' 49 9 48 [0,1,2,9,10,11,12,13,14],f' 50 1 49 [0,1,2,9,10,11,12,13,14],m' 51 0 [0,1,2,3,4,5,6,7,8,10],m' 52 4 [0,1,2,3,4,5,6,7,8,9],i' 53 9 51 52 [0,1,2,3,4,5,6,7,8],d' 54 8 53 [0,1,2,3,4,5,6,7,8],f' 55 1 54 [0,1,2,3,4,5,6,7,8],u 56 (.bsl 21 1 (.int .i32 0) 1 [(0,1,(t 55))]) [0,1,2,3,4,5,6,7,8],u 57 (.app 21 1 4 (.int .i32 0) (t 50) (t 56)) [0,1,2],i 58 10 42 44,d 59 9 58,s 1 59 57]) (X 1))) K)) (D [m' 60 3 [1,2,3,4,5,6,7,8,9,10,11,12,13,14,15,16,17,18,19],m' 61 0 [0,2,7,8,9,10,11,12,13,14,15,16,17],m' 62 4 [0,1,7,8,9,10,11,12,13,14,15,16,17],i' 63 9 61 62 [0,7,8,9,10,11,12,13,14,15,16,17],d' 64 0 63 [0,7,8,9,10,11,12,13,14,15,16,17],l' 65 4 64 [0,7,8,9,10,11,12,13,14,15,16,17],u 66 (.build Z1 [(0,4,(t 65)),(4,1,(.const (.int .i64 1)))]) [0,7,8,9,10,11,12,13,14,15,16,17],m' 67 0 [0,1,2,3,4,5,6,8,12,13,14,15,16,17],m' 68 4 [0,1,2,3,4,5,6,7,12,13,14,15,16,17],i' 69 9 67 68 [0,1,2,3,4,5,6,12,13,14,15,16,17],d' 70 4 69 [0,1,2,3,4,5,6,12,13,14,15,16,17],l' 71 4 70 [0,1,2,3,4,5,6,12,13,14,15,16,17],m' 72 0 [0,1,2,3,4,5,6,7,8,9,10,11,13],m' 73 4 [0,1,2,3,4,5,6,7,8,9,10,11,12],i' 74 9 72 73 [0,1,2,3,4,5,6,7,8,9,10,11],d' 75 8 74 [0,1,2,3,4,5,6,7,8,9,10,11],f' 76 1 75 [0,1,2,3,4,5,6,7,8,9,10,11],u 77 (.bsl 21 1 (.int .i32 0) 1 [(0,1,(t 76))]) [0,1,2,3,4,5,6,7,8,9,10,11],u 78 (.build Z0 [(0,5,(t 66)),(5,4,(t 71)),(9,1,(t 77))]) [0],u 79 (.bsl 59 10 Z0 1 [(0,10,(t 78))]) [0],o 80 (.app 59 10 80 Z0 (t 60) (t 79)),m 3 80])))) (R [m 10 4,w 11 .add 3 10 1 3 3,m 4 11])))))) (S (R [m 81 3,m 2 81]) N))))).c
def a51:AFunc:=⟨82,c51,[.tmp 2],1⟩
def c52:ACode:=({c:=_}:TbD (S (R [z 2]) (S (R [z 3]) (S (R [z 4]) (S (S (R [n 5 0]) (B 0 (L (S (S (R [m 10 5,m 11 0,k 12 11,v 13 .lss 3 10 12 3 4]) (C 13 K (X 0))) (S (B 1 (S (R [m 16 0,m 17 0,m 18 5,i 19 9 17 18,l 20 9 19,cb 21 89 16 20,m 6 21]) (S (R [n 7 0]) (S (B 2 (L (S (S (R [m 22 7,m 23 3,k 24 23,v 25 .lss 3 22 24 3 4,m 26 25,p 27 (m_ 6) 26 [],p 28 (m_ 4) 26 [],p 29 (m_ 7) 26 [],p 30 (i_ 1 28 29) 26 [],p 31 (f_ 1 30) 26 [],p 32 (cb_ 90 27 31) 26 [],p 33 (j_ 4 32 4) 26 [],x 34 26 33]) (C 34 K (X 2))) (B 3 (R [m 35 7,w 36 .add 3 35 1 3 3,m 7 36]))))) (S (R [z 8]) (S (R [z 9]) (S (D [m' 37 8 [1,2,3,5,6,7,8,9,11,12,13],m' 38 3 [0,2,5,6,7,8,9,11,12,13],m' 39 7 [0,1,5,6,7,8,9,11,12,13],u 40 (.slc 9 (t 38) none (some (t 39)) none) [0,5,6,7,8,9,11,12,13],u 41 (.app 135 9 56 Z2 (t 37) (t 40)) [5,6,7,8,9,11,12,13],m' 42 0 [0,1,2,3,4,6,11,12,13],m' 43 5 [0,1,2,3,4,5,11,12,13],i' 44 9 42 43 [0,1,2,3,4,11,12,13],l' 45 9 44 [0,1,2,3,4,11,12,13],u 46 (.bsl 135 9 Z2 1 [(0,9,(t 45))]) [0,1,2,3,4,11,12,13],u 47 (.app 135 9 56 Z2 (t 41) (t 46)) [11,12,13],m' 48 3 [0,1,2,3,4,5,6,7,8,9,10,12],m' 49 7 [0,1,2,3,4,5,6,7,8,9,10,11],u 50 (.slc 9 (t 48) (some (t 49)) none none) [0,1,2,3,4,5,6,7,8,9,10],o 51 (.app 135 9 56 Z2 (t 47) (t 50)),m 8 51]) (S (D [m' 52 9 [1,2,3,5,6,8,9,10],m' 53 4 [0,2,5,6,8,9,10],m' 54 7 [0,1,5,6,8,9,10],u 55 (.slc 1 (t 53) none (some (t 54)) none) [0,5,6,8,9,10],u 56 (.app 101 1 24 (.slice none 0 0) (t 52) (t 55)) [5,6,8,9,10],m' 57 6 [0,1,2,3,4,8,9,10],u 58 (.bsl 101 1 (.slice none 0 0) 1 [(0,1,(t 57))]) [0,1,2,3,4,8,9,10],u 59 (.app 101 1 24 (.slice none 0 0) (t 56) (t 58)) [8,9,10],m' 60 4 [0,1,2,3,4,5,6,7,9],m' 61 7 [0,1,2,3,4,5,6,7,8],u 62 (.slc 1 (t 60) (some (t 61)) none none) [0,1,2,3,4,5,6,7],o 63 (.app 101 1 24 (.slice none 0 0) (t 59) (t 62)),m 9 63]) (S (R [m 64 8,m 3 64]) (R [m 65 9,m 4 65])))))))))) (R [m 14 5,w 15 .add 3 14 1 3 3,m 5 15])))))) (S (R [m 66 3,m 2 66]) N)))))).c
def a52:AFunc:=⟨67,c52,[.tmp 2],1⟩
def c53:ACode:=({c:=_}:TbD (S (R [z 2]) (S (R [z 3]) (S (S (R [n 4 0]) (B 0 (L (S (S (R [m 6 4,m 7 0,k 8 7,v 9 .lss 3 6 8 3 4]) (C 9 K (X 0))) (S (B 1 (S (R [m 12 0,m 13 4,i 14 17 12 13,d 15 0 14,f 16 1 15,o 17 (.pur (mkO (.binOp .eql 5 (t 16) (.const (.int .u8 1)) 5) 4))]) (C 17 (S (D [m' 18 0 [1,5,6,7,8,9,10,11,12,13,14,16],m' 19 4 [0,5,6,7,8,9,10,11,12,13,14,16],i' 20 17 18 19 [5,6,7,8,9,10,11,12,13,14,16],d' 21 5 20 [5,6,7,8,9,10,11,12,13,14,16],l' 22 5 21 [5,6,7,8,9,10,11,12,13,14,16],m' 23 0 [0,1,2,3,4,6,10,11,12,13,14,16],m' 24 4 [0,1,2,3,4,5,10,11,12,13,14,16],i' 25 17 23 24 [0,1,2,3,4,10,11,12,13,14,16],d' 26 10 25 [0,1,2,3,4,10,11,12,13,14,16],l' 27 4 26 [0,1,2,3,4,10,11,12,13,14,16],m' 28 0 [0,1,2,3,4,5,6,7,8,9,11,16],m' 29 4 [0,1,2,3,4,5,6,7,8,9,10,16],i' 30 17 28 29 [0,1,2,3,4,5,6,7,8,9,16],d' 31 16 30 [0,1,2,3,4,5,6,7,8,9,16],f' 32 1 31 [0,1,2,3,4,5,6,7,8,9,16],u 33 (.build Z0 [(0,5,(t 22)),(5,4,(t 27)),(9,1,(t 32))]) [16],u 5 (.alloc 59 Z0) [0,1,2,3,4,5,6,7,8,9,10,11,12,13,14,15],s 10 5 33]) (R [m 34 3,l 35 10 5,o 36 (.bsl 59 10 Z0 1 [(0,10,(t 35))]),ca 37 91 36,o 38 (.app 135 9 56 Z2 (t 34) (t 37)),m 3 38])) K))) (R [m 10 4,w 11 .add 3 10 1 3 3,m 4 11])))))) (S (R [m 39 3,m 2 39]) N))))).c
def a53:AFunc:=⟨40,c53,[.tmp 2],1⟩
def c54:ACode:=({c:=_}:TbD (S (R [n 4 0]) (S (S (R [m 6 0,k 7 6,n 8 0]) (B 0 (L (S (R [v 9 .lss 3 8 7 3 0]) (S (C 9 K (X 0)) (S (B 1 (S (R [m 10 8,m 5 10]) (S (R [m 11 1,m 12 0,m 13 5,i 14 17 12 13,l 15 17 14,o 16 (.call (t 11) [(t 15)])]) (C 16 (S (R [m 17 5,m 4 17]) N) K)))) (R [w 18 .add 3 8 1 3 3,m 8 18]))))))) (S (R [n 4 (-1)]) N)))).c
def a54:AFunc:=⟨19,c54,[.tmp 4],0⟩
def c55:ACode:=({c:=_}:TbD (S (R [b 1 31 0,n 2 0]) (S (R [d 3 0 1,l 4 4 3,ca 5 74 4,w 6 .eql 39 5 0 39 4,m 7 6,p 8 (d_ 4 1) 7 [],p 9 (f_ 1 8) 7 [],p 10 (w_ .geq 3 9 1 3 4) 7 [],x 11 7 10,m 12 11,p 13 (d_ 4 1) 12 [],p 14 (f_ 1 13) 12 [],p 15 (w_ .leq 3 14 64 3 4) 12 [],x 16 12 15,m 17 16,p 18 (d_ 0 1) 17 [],p 19 (d_ 3 18) 17 [],p 20 (f_ 1 19) 17 [],p 21 (d_ 4 1) 17 [],p 22 (f_ 1 21) 17 [],p 23 (v_ .add 3 20 22 3 3) 17 [],p 24 (w_ .sub 3 23 1 3 3) 17 [],p 25 (w_ .leq 3 24 1099511627776 3 4) 17 [],x 26 17 25,ca 27 92 26,m 2 27]) N))).c
def a55:AFunc:=⟨28,c55,[.tmp 2],1⟩
def c56:ACode:=({c:=_}:TbD (S (R [b 2 29 0,o 4 (.alloc 29 Z3)]) (S (R [d 5 3 2,f 6 1 5,m 7 1,v 8 .add 3 6 7 3 3,d 9 3 2,s 1 9 8]) (S (R [l 10 4 2,s 4 4 10]) N)))).c
def a56:AFunc:=⟨11,c56,[.cell 4 4 true],1⟩
def c57:ACode:=({c:=_}:TbD (S (R [b 1 31 0,z 2]) (S (R [z 3]) (S (S (R [n 4 0]) (B 0 (L (S (S (R [m 5 4,d 6 4 1,f 7 1 6,v 8 .lss 3 5 7 3 4]) (C 8 K (X 0))) (S (B 1 (R [m 11 3,d 12 0 1,d 13 0 12,l 14 3 13,d 15 0 1,d 16 3 15,f 17 1 16,m 18 4,v 19 .add 3 17 18 3 3,o 20 (.build Z3 [(0,3,(t 14)),(3,1,(t 19))]),o 21 (.bsl 29 4 Z3 1 [(0,4,(t 20))]),o 22 (.app 29 4 24 Z3 (t 11) (t 21)),m 3 22])) (R [m 9 4,w 10 .add 3 9 1 3 3,m 4 10])))))) (S (R [m 23 3,m 2 23]) N))))).c
def a57:AFunc:=⟨24,c57,[.tmp 2],1⟩
def c58:ACode:=({c:=_}:TbD (S (R [b 2 25 0,b 3 25 1,bf 4]) (S (S (R [n 5 0]) (B 0 (L (S (S (R [m 6 5,w 7 .lss 3 6 32 3 4]) (C 7 K (X 0))) (S (B 1 (S (R [l 10 2 2,m 11 5,cb 12 93 10 11,m 13 12,p 14 (l_ 2 3) 13 [],p 15 (m_ 5) 13 [],p 16 (cb_ 93 14 15) 13 [],p 17 (j_ 4 16 4) 13 [],x 18 13 17]) (C 18 (S (R [bf 4]) N) K))) (R [m 8 5,w 9 .add 3 8 1 3 3,m 5 9])))))) (S (R [d 19 0 2,f 20 1 19,d 21 0 3,f 22 1 21,v 23 .leq 5 20 22 5 4,m 4 23]) N)))).c
def a58:AFunc:=⟨24,c58,[.tmp 4],1⟩
def c59:ACode:=({c:=_}:TbD (S (R [b 1 31 0,z 2]) (S (S (R [d 6 4 1,f 7 1 6,n 8 0]) (B 0 (L (S (R [v 9 .lss 3 8 7 3 4]) (S (C 9 K (X 0)) (S (B 1 (S (R [m 10 8,m 3 10]) (S (R [l 12 5 1,m 13 3,cb 14 44 12 13,m 11 14,e 15 11 0,e 16 11 1,o 4 (.alloc 29 Z3),s 4 4 15,m 5 16]) (R [m 17 2,l 18 4 4,o 19 (.bsl 29 4 Z3 1 [(0,4,(t 18))]),o 20 (.app 29 4 24 Z3 (t 17) (t 19)),m 2 20])))) (R [w 21 .add 3 8 1 3 3,m 8 21]))))))) (S (R [m 22 2,m 2 22]) N)))).c
def a59:AFunc:=⟨23,c59,[.tmp 2],1⟩
def c60:ACode:=({c:=_}:TbD (S (R [b 1 27 0,n 2 0]) (S (R [d 3 0 1,l 4 2 3,ca 5 28 4,w 6 .eql 39 5 0 39 4,m 7 6,p 8 (d_ 2 1) 7 [],p 9 (f_ 1 8) 7 [],p 10 (.pur (mkO (.binOp .lss 5 (t 9) (.const (.int .u8 8)) 5) 4)) 7 [],x 11 7 10,ca 12 92 11,m 2 12]) N))).c
def a60:AFunc:=⟨13,c60,[.tmp 2],1⟩
def c61:ACode:=({c:=_}:TbD (S (R [o 0 (.alloc 110 Z6)]) (S (R [o 1 (.alloc 70 .nilFunc),O (.store 1 (t 1) (.func 94))]) (S (R [o 2 (.alloc 70 .nilFunc),O (.store 1 (t 2) (.func 95))]) (S (R [o 3 (.mkfn 97 [] [(t 2)]),o 4 (.build Z7 [(0,1,(t 3)),(1,1,(.func 98))]),o 5 (.mkfn 99 [] [(t 2),(t 1)]),o 6 (.build Z7 [(0,1,(t 5)),(1,1,(.func 100))]),o 7 (.mkfn 101 [] [(t 1)]),o 8 (.build Z7 [(0,1,(t 7)),(1,1,(.func 102))]),o 9 (.build Z6 [(2,2,(t 4)),(4,2,(t 6)),(6,2,(t 8))]),s 8 0 9]) N))))).c
def a61:AFunc:=⟨10,c61,[.cell 0 8 true],0⟩
def c62:ACode:=({c:=_}:TbD (S (R [b 2 77 0,b 3 34 1,n 4 0]) (S (S (R [d 7 10 3,l 8 4 7,o 9 (.build Z3 []),v 10 .neq 29 8 9 29 4,m 11 10,p 12 (f_ 1 2) 11 [],p 13 (l_ 17 3) 11 [],p 14 (d_ 10 3) 11 [],p 15 (l_ 4 14) 11 [],p 16 (cd_ 103 12 13 15) 11 [],p 17 (j_ 4 16 4) 11 [],x 18 11 17]) (C 18 (S (R [n 4 6]) N) K)) (S (S (R [l 20 17 3,ca 21 20 20,m 19 21,e 22 19 0,e 23 19 1,o 5 (.alloc 59 Z0),s 10 5 22,m 6 23]) (S (R [m 24 6,w 25 .neq 39 24 0 39 4,m 26 25,q 27 (d_ 5 3) 26 [],q 28 (l_ 5 27) 26 [],q 29 (ca_ 59 28) 26 [],q 30 (.mkfn 105 [] [(t 2)]) 26 [],q 31 (cb_ 104 29 30) 26 [],y 32 26 31]) (C 32 (S (R [n 4 2]) N) K))) (S (S (D [f' 33 1 2 [5,6,7],u 34 (.nilck (t 33)) [5,6,7],d' 35 1 34 [5,6,7],f' 36 1 35 [5,6,7],u 37 (.mlen (t 36)) [5,6,7],d' 38 5 3 [0,1,2,3,4],d' 39 4 38 [0,1,2,3,4],f' 40 1 39 [0,1,2,3,4],v 41 .add 3 37 40 3 3,w 42 .gtr 3 41 8192 3 4]) (C 42 (S (R [n 4 4]) N) K)) (S (R [n 4 0]) N)))))).c
def a62:AFunc:=⟨43,c62,[.tmp 4],0⟩
def c63:ACode:=({c:=_}:TbD (S (R [b 3 34 1,n 4 0]) (S (B 0 (S (R [m 6 0,l 7 17 3,cb 8 106 6 7,j 9 4 8 4,m 5 9]) (C 5 (S (R [n 4 6]) N) (S (R [d 11 5 3,d 12 0 11,d 13 0 12,d 14 0 13,l 15 2 14,d 16 1 3,d 17 0 16,l 18 2 17,v 19 .neq 25 15 18 25 4,m 10 19]) (C 10 (S (R [n 4 2]) N) K))))) (S (R [n 4 0]) N)))).c
def a63:AFunc:=⟨20,c63,[.tmp 4],0⟩
def c64:ACode:=({c:=_}:TbD (S (R [b 3 34 1,n 4 0]) (S (S (R [m 7 0,l 8 17 3,cb 9 106 7 8,j 10 4 9 4]) (C 10 (S (R [n 4 6]) N) K)) (S (S (D [m' 12 0 [4],u 13 (.nilck (t 12)) [4],d' 14 0 13 [4],f' 15 1 14 [4],l' 16 17 3 [0,1,2,3],cb 17 107 15 16,m 11 17,e' 18 11 0 [8],e' 19 11 1 [7,9],m' 5 18 [8],m 6 19]) (S (R [m 20 6,w 21 .neq 39 20 0 39 4,m 22 21,q 23 (m_ 5) 22 [],q 24 (j_ 4 23 4) 22 [],y 25 22 24]) (C 25 (S (R [n 4 2]) N) K))) (S (R [n 4 0]) N))))).c
def a64:AFunc:=⟨26,c64,[.tmp 4],0⟩
def c65:ACode:=({c:=_}:TbD (S (R [b 1 27 0,bf 2]) (S (R [d 3 0 1,l 4 2 3,ca 5 31 4,m 6 5,p 7 (d_ 2 1) 6 [],p 8 (f_ 1 7) 6 [],p 9 (.pur (mkO (.binOp .lss 5 (t 8) (.const (.int .u8 8)) 5) 4)) 6 [],x 10 6 9,m 2 10]) N))).c
def a65:AFunc:=⟨11,c65,[.tmp 2],1⟩
def c66:ACode:=({c:=_}:TbD (S (R [b 1 31 0,bf 2]) (S (R [d 3 0 1,l 4 4 3,ca 5 68 4,m 6 5,p 7 (d_ 4 1) 6 [],p 8 (f_ 1 7) 6 [],p 9 (w_ .geq 3 8 1 3 4) 6 [],x 10 6 9,m 11 10,p 12 (d_ 4 1) 11 [],p 13 (f_ 1 12) 11 [],p 14 (w_ .leq 3 13 64 3 4) 11 [],x 15 11 14,m 16 15,p 17 (d_ 0 1) 16 [],p 18 (d_ 3 17) 16 [],p 19 (f_ 1 18) 16 [],p 20 (d_ 4 1) 16 [],p 21 (f_ 1 20) 16 [],p 22 (.pur (mkO (.binOp .sub 3 (.const (.int .i64 1099511627777)) (t 21) 3) 3)) 16 [],p 23 (v_ .leq 3 19 22 3 4) 16 [],x 24 16 23,m 2 24]) N))).c
def a66:AFunc:=⟨25,c66,[.tmp 2],1⟩
def c67:ACode:=({c:=_}:TbD (S (R [b 1 29 0,bf 2]) (S (R [l 3 4 1,o 4 (.build Z3 []),v 5 .eql 29 3 4 29 4,m 2 5]) N))).c
def a67:AFunc:=⟨6,c67,[.tmp 2],1⟩
def c68:ACode:=({c:=_}:TbD (S (R [b 1 29 0,bf 2]) (S (R [d 3 0 1,l 4 3 3,ca 5 65 4,m 6 5,p 7 (d_ 3 1) 6 [],p 8 (f_ 1 7) 6 [],p 9 (w_ .geq 3 8 1 3 4) 6 [],x 10 6 9,m 11 10,p 12 (d_ 3 1) 11 [],p 13 (f_ 1 12) 11 [],p 14 (w_ .leq 3 13 1099511627776 3 4) 11 [],x 15 11 14,m 2 15]) N))).c
def a68:AFunc:=⟨16,c68,[.tmp 2],1⟩
def c69:ACode:=({c:=_}:TbD (S (R [n 2 0]) (S (S (R [m 4 0,k 5 4,w 6 .gtr 3 5 64 3 4]) (C 6 (S (R [n 2 4]) N) K)) (S (S (R [n 3 0]) (B 0 (L (S (S (R [m 7 3,m 8 0,k 9 8,v 10 .lss 3 7 9 3 4]) (C 10 K (X 0))) (S (B 1 (S (R [m 13 0,m 14 3,i 15 1 13 14,f 16 1 15,o 17 (.pur (mkO (.binOp .neq 21 (t 16) (.const (.int .i32 (-1))) 21) 4)),m 18 17,p 19 (m_ 0) 18 [],p 20 (m_ 3) 18 [],p 21 (i_ 1 19 20) 18 [],p 22 (f_ 1 21) 18 [],p 23 (.pur (mkO (.convert 21 3 (t 22)) 3)) 18 [],p 24 (ca_ 108 23) 18 [],p 25 (j_ 4 24 4) 18 [],x 26 18 25]) (C 26 (S (R [n 2 8]) N) K))) (R [m 11 3,w 12 .add 3 11 1 3 3,m 3 12])))))) (S (R [n 2 0]) N))))).c
def a69:AFunc:=⟨27,c69,[.tmp 2],1⟩
def c70:ACode:=({c:=_}:TbD (S (R [b 4 29 1,b 5 25 2,bf 6]) (S (R [m 7 0,l 8 4 4,cb 9 72 7 8,w 10 .geq 3 9 0 3 4,m 11 10,p 12 (d_ 0 4) 11 [],p 13 (d_ 0 12) 11 [],p 14 (l_ 2 13) 11 [],p 15 (l_ 2 5) 11 [],p 16 (cb_ 58 14 15) 11 [],x 17 11 16,m 6 17]) N))).c
def a70:AFunc:=⟨18,c70,[.tmp 6],1⟩
def c71:ACode:=({c:=_}:TbD (S (R [b 1 59 0,bf 2]) (S (S (R [d 3 0 1,l 4 5 3,ca 5 66 4,j 6 4 5 4,m 7 6,q 8 (d_ 9 1) 7 [],q 9 (f_ 1 8) 7 [],q 10 (k_ 9) 7 [],q 11 (d_ 0 1) 7 [],q 12 (d_ 4 11) 7 [],q 13 (f_ 1 12) 7 [],q 14 (v_ .neq 3 10 13 3 4) 7 [],y 15 7 14,m 16 15,q 17 (d_ 9 1) 16 [],q 18 (f_ 1 17) 16 [],q 19 (ca_ 69 18) 16 [],q 20 (w_ .neq 3 19 0 3 4) 16 [],y 21 16 20]) (C 21 (S (R [bf 2]) N) K)) (S (R [d 22 5 1,l 23 4 22,ca 24 109 23,m 25 24,q 26 (d_ 5 1) 25 [],q 27 (l_ 4 26) 25 [],q 28 (ca_ 68 27) 25 [],q 29 (m_ 28) 25 [],p 30 (d_ 5 1) 29 [],p 31 (d_ 3 30) 29 [],p 32 (f_ 1 31) 29 [],p 33 (d_ 0 1) 29 [],p 34 (d_ 0 33) 29 [],p 35 (d_ 3 34) 29 [],p 36 (f_ 1 35) 29 [],p 37 (v_ .lss 3 32 36 3 4) 29 [],q 38 (x_ 29 37) 25 [],y 39 25 38,m 2 39]) N)))).c
def a71:AFunc:=⟨40,c71,[.tmp 2],1⟩
def c72:ACode:=({c:=_}:TbD (S (R [b 3 29 1,n 4 0]) (S (S (R [n 5 0]) (B 0 (L (S (S (R [m 6 5,m 7 0,k 8 7,v 9 .lss 3 6 8 3 4]) (C 9 K (X 0))) (S (B 1 (S (D [m' 12 0 [1,5],m' 13 5 [0,5],i' 14 9 12 13 [5],d' 15 0 14 [5],l' 16 4 15 [5],l' 17 4 3 [0,1,2,3,4],v 18 .eql 29 16 17 29 4]) (C 18 (S (R [m 19 5,m 4 19]) N) K))) (R [m 10 5,w 11 .add 3 10 1 3 3,m 5 11])))))) (S (R [n 4 (-1)]) N)))).c
def a72:AFunc:=⟨20,c72,[.tmp 4],1⟩
def c73:ACode:=({c:=_}:TbD (S (R [b 3 34 1,bf 4]) (S (S (R [d 7 0 3,f 8 1 7,o 9 (.pur (mkO (.binOp .neq 5 (t 8) (.const (.int .u8 3)) 5) 4))]) (C 9 (S (R [bt 4]) N) K)) (S (R [d 10 5 3,l 11 5 10,ca 12 57 11,m 5 12]) (S (S (R [n 6 0]) (B 0 (L (S (S (R [m 13 6,m 14 5,k 15 14,v 16 .lss 3 13 15 3 4]) (C 16 K (X 0))) (S (B 1 (S (D [m' 19 0 [1,2,3,4,5,6,7,9,10,11],m' 20 5 [0,2,5,6,7,9,10,11],m' 21 6 [0,1,5,6,7,9,10,11],i' 22 4 20 21 [0,5,6,7,9,10,11],l' 23 4 22 [0,5,6,7,9,10,11],d' 24 1 3 [0,1,2,3,4,9,10,11],d' 25 0 24 [0,1,2,3,4,9,10,11],l' 26 2 25 [0,1,2,3,4,9,10,11],cd' 27 111 19 23 26 [9,10,11],d' 28 1 3 [0,1,2,3,4,5,6,7,8],d' 29 0 28 [0,1,2,3,4,5,6,7,8],l' 30 2 29 [0,1,2,3,4,5,6,7,8],cb 31 110 27 30,j 32 4 31 4]) (C 32 (S (R [bf 4]) N) K))) (R [m 17 6,w 18 .add 3 17 1 3 3,m 6 18])))))) (S (R [d 33 1 3,d 34 0 33,l 35 2 34,d 36 14 3,l 37 2 36,cb 38 58 35 37,m 4 38]) N)))))).c
def a73:AFunc:=⟨39,c73,[.tmp 4],1⟩
def c74:ACode:=({c:=_}:TbD (S (R [b 1 29 0,n 2 0]) (S (R [d 3 0 1,l 4 3 3,ca 5 60 4,w 6 .eql 39 5 0 39 4,m 7 6,p 8 (d_ 3 1) 7 [],p 9 (f_ 1 8) 7 [],p 10 (w_ .geq 3 9 1 3 4) 7 [],x 11 7 10,m 12 11,p 13 (d_ 3 1) 12 [],p 14 (f_ 1 13) 12 [],p 15 (w_ .leq 3 14 1099511627776 3 4) 12 [],x 16 12 15,ca 17 92 16,m 2 17]) N))).c
def a74:AFunc:=⟨18,c74,[.tmp 2],1⟩
def c75:ACode:=({c:=_}:TbD (S (R [n 2 0]) (S (R [o 3 (.mov (.func 112))]) (S (B 0 (S (R [m 5 0,k 6 5,w 7 .gtr 3 6 64 3 4,m 4 7]) (C 4 (S (R [n 2 4]) N) (S (R [m 9 0,m 10 3,cb 11 114 9 10,m 8 11]) (C 8 (S (R [n 2 8]) N) K))))) (S (R [n 2 0]) N))))).c
def a75:AFunc:=⟨12,c75,[.tmp 2],1⟩
def c76:ACode:=({c:=_}:TbD (S (R [bf 4]) (S (R [m 5 0,m 6 1,cb 7 115 5 6,w 8 .geq 3 7 0 3 4,m 4 8]) N))).c
def a76:AFunc:=⟨9,c76,[.tmp 4],1⟩
def c77:ACode:=({c:=_}:TbD (S (R [b 1 59 0,bf 2]) (S (R [l 3 10 1,ca 4 41 3,w 5 .neq 39 4 0 39 4,m 2 5]) N))).c
def a77:AFunc:=⟨6,c77,[.tmp 2],1⟩
def c78:ACode:=({c:=_}:TbD (S (.region [o 2 (.alloc 4 (.bool false))] false) (S (R [o 3 (.alloc 101 (.slice none 0 0))]) (S (R [o 9 (.mkmap),o 4 (.alloc 153 (.map none)),s 1 4 9]) (S (S (R [m 10 0,ca 11 116 10]) (B 0 (.rangeFunc (.tmp 11) [12,13] (S (R [o 5 (.alloc 29 Z3),s 4 5 12]) (R [o 6 (.alloc 29 Z3),s 4 6 13])) (B 1 (.scope (S (R [o 7 (.alloc 29 Z3)]) (S .label (S (B 2 (L (S (S (R [f 14 1 3,k 15 14,w 16 .gtr 3 15 0 3 4]) (C 16 K (X 2))) (B 3 (S (R [f 17 1 3,f 18 1 3,k 19 18,w 20 .sub 3 19 1 3 3,i 21 4 17 20,l 22 4 21,o 8 (.alloc 29 Z3),s 4 8 22]) (S (S (R [l 23 4 8,l 24 4 6,v 25 .eql 29 23 24 29 4]) (C 25 (X 2) K)) (D [l' 26 4 8 [1,2,3,4,5],f' 27 1 3 [0,2,3,4,6],f' 28 1 3 [0,1,6],k' 29 28 [0,1,6],w' 30 .sub 3 29 1 3 3 [0,1,6],u 31 (.slc 4 (t 27) none (some (t 30)) none) [0,6],s' 4 7 26 [1,2,3,4,5],s 1 3 31]))))))) (S (S (.region [f 32 1 3,k 33 32,w 34 .eql 3 33 0 3 4,m 35 34,p 36 (l_ 4 6) 35 [],p 37 (.build Z3 []) 35 [],p 38 (v_ .neq 29 36 37 29 4) 35 [],x 39 35 38,m 40 39,q 41 (l_ 4 7) 40 [],q 42 (.build Z3 []) 40 [],q 43 (v_ .neq 29 41 42 29 4) 40 [],q 44 (m_ 43) 40 [],p 45 (l_ 4 5) 44 [],p 46 (l_ 4 7) 44 [],p 47 (cb_ 47 45 46) 44 [],p 48 (j_ 4 47 4) 44 [],q 49 (x_ 44 48) 40 [],y 50 40 49,m 51 50,q 52 (f_ 1 4) 51 [],q 53 (l_ 4 5) 51 [],q 54 (.lookup 29 (.int .i64 0) (t 52) (t 53) false) 51 [],q 55 (w_ .gtr 3 54 0 3 4) 51 [],y 56 51 55] false) (C 56 (S (.region [O (.store 1 (t 2) (.const (.bool false)))] false) N) K)) (S (R [f 57 1 4,l 58 4 5,O (.mupd 29 (t 57) (t 58) (.const (.int .i64 1)))]) (R [f 59 1 3,l 60 4 5,o 61 (.bsl 29 4 Z3 1 [(0,4,(t 60))]),o 62 (.app 29 4 24 Z3 (t 59) (t 61)),s 1 3 62]))))))))))) (S (.region [O (.store 1 (t 2) (.const (.bool true)))] false) N)))))).c
def a78:AFunc:=⟨63,c78,[.cell 2 1 false],1⟩
def c79:ACode:=({c:=_}:TbD (S (R [bf 4]) (S (R [m 5 0,m 6 1,o 7 (.call (.func 117) [(t 5),(t 6),(.func 118)]),m 4 7]) N))).c
def a79:AFunc:=⟨8,c79,[.tmp 4],2⟩
def c80:ACode:=({c:=_}:TbD (S (R [b 2 59 0,o 4 (.alloc 59 Z0),o 5 (.alloc 59 Z0),n 6 0]) (S (S (R [l 11 10 2,ca 12 41 11,m 7 12]) (S (R [m 13 7,w 14 .neq 39 13 0 39 4]) (C 14 (S (D [l' 15 10 4 [1,2],l' 16 10 5 [0,2,3],m' 17 7 [0,1,3,4],s' 10 4 15 [1,2],s' 10 5 16 [2],m 6 17]) N) K))) (S (R [d 19 0 2,l 20 5 19,m 21 1,cb 22 119 20 21,m 18 22,e 23 18 0,e 24 18 1,e 25 18 2,o 8 (.alloc 31 Z1),o 9 (.alloc 31 Z1),s 5 8 23,s 5 9 24,m 6 25]) (S (S (R [m 26 6,w 27 .neq 39 26 0 39 4]) (C 27 (S (D [l' 28 10 4 [1,2],l' 29 10 5 [0,2,3],m' 30 6 [0,1,3,4],s' 10 4 28 [1,2],s' 10 5 29 [2],m 6 30]) N) K)) (S (R [l 32 5 8,m 33 1,w 34 .sub 3 33 1 3 3,cb 35 44 32 34,m 31 35,e 36 31 0,e 37 31 1,o 10 (.alloc 29 Z3),s 4 10 36,m 6 37]) (S (D [l' 38 5 8 [1,2,3,4,5,6,9,10,11,12,13,14,15,17],d' 39 5 2 [0,3,4,5,6,9,10,11,12,13,14,15,17],l' 40 4 39 [0,3,4,5,6,9,10,11,12,13,14,15,17],d' 41 9 2 [0,1,2,5,9,10,11,12,13,14,15,17],f' 42 1 41 [0,1,2,5,9,10,11,12,13,14,15,17],m' 43 1 [0,1,2,3,4,9,10,11,12,13,14,15,17],u 44 (.slc 1 (t 42) none (some (t 43)) none) [0,1,2,9,10,11,12,13,14,15,17],u 45 (.build Z0 [(0,5,(t 38)),(5,4,(t 40)),(9,1,(t 44))]) [9,10,11,12,13,14,15,17],ca' 46 120 45 [9,10,11,12,13,14,15,17],l' 47 5 9 [0,1,2,3,4,5,6,7,8,10,11,12,13,14,17],l' 48 4 10 [0,1,2,3,4,5,6,7,8,9,11,12,13,14,17],d' 49 9 2 [0,1,2,3,4,5,6,7,8,9,10,13,17],f' 50 1 49 [0,1,2,3,4,5,6,7,8,9,10,13,17],m' 51 1 [0,1,2,3,4,5,6,7,8,9,10,11,12,17],u 52 (.slc 1 (t 50) (some (t 51)) none none) [0,1,2,3,4,5,6,7,8,9,10,17],u 53 (.build Z0 [(0,5,(t 47)),(5,4,(t 48)),(9,1,(t 52))]) [0,1,2,3,4,5,6,7,8,17],ca' 54 120 53 [17],m' 55 6 [0,1,2,3,4,5,6,7,8,9,10,11,12,13,14,15,16,18,19],s' 10 4 46 [17],s' 10 5 54 [17],m 6 55]) N))))))).c
def a80:AFunc:=⟨56,c80,[.cell 4 10 true,.cell 5 10 true,.tmp 6],5⟩
def c81:ACode:=({c:=_}:TbD (S (R [z 2]) (S (R [n 3 0]) (S (S (R [m 9 0,k 10 9,n 11 0]) (B 0 (L (S (R [v 12 .lss 3 11 10 3 0]) (S (C 12 K (X 0)) (S (B 1 (S (R [i 13 1 9 11,f 14 1 13,m 5 14]) (S (R [m 15 3,m 16 5,k 17 16,v 18 .add 3 15 17 3 3,m 3 18]) (S (R [m 19 3,w 20 .lss 3 19 0 3 4]) (C 20 (R [o 21 (.bad "op"),O (.bad "op")]) K))))) (R [w 22 .add 3 11 1 3 3,m 11 22]))))))) (S (R [m 23 3,o 24 (.call (.func 121) [(.const (.slice none 0 0)),(t 23)]),m 6 24]) (S (S (R [m 25 0,k 26 25,n 27 0]) (B 2 (L (S (R [v 28 .lss 3 27 26 3 0]) (S (C 28 K (X 2)) (S (B 3 (S (R [i 29 1 25 27,f 30 1 29,m 8 30]) (R [m 31 6,m 32 8,o 33 (.app 59 10 80 Z0 (t 31) (t 32)),m 6 33]))) (R [w 34 .add 3 27 1 3 3,m 27 34]))))))) (S (R [m 35 6,m 2 35]) N))))))).c
def a81:AFunc:=⟨36,c81,[.tmp 2],0⟩
def c82:ACode:=({c:=_}:TbD (S (R [b 2 25 0,b 3 25 1,bf 4]) (S (R [d 6 0 3,f 7 1 6,d 8 1 2,f 9 1 8,o 10 (.build Z4 [(0,1,(t 7)),(1,1,(t 9))]),o 5 (.alloc 25 Z4),s 2 5 10]) (S (R [d 11 0 2,f 12 1 11,d 13 0 3,f 14 1 13,v 15 .lss 5 12 14 5 4,m 16 15,q 17 (l_ 2 2) 16 [],q 18 (l_ 2 5) 16 [],q 19 (v_ .eql 25 17 18 25 4) 16 [],q 20 (m_ 19) 16 [],p 21 (d_ 1 2) 20 [],p 22 (f_ 1 21) 20 [],p 23 (d_ 1 3) 20 [],p 24 (f_ 1 23) 20 [],p 25 (v_ .lss 23 22 24 23 4) 20 [],q 26 (x_ 20 25) 16 [],y 27 16 26,m 4 27]) N)))).c
def a82:AFunc:=⟨28,c82,[.tmp 4],1⟩
def c83:ACode:=({c:=_}:TbD (S (R [b 1 59 0,o 2 (.alloc 29 Z3)]) (S (R [d 6 0 1,l 7 5 6,d 8 0 1,d 9 4 8,f 10 1 9,w 11 .sub 3 10 1 3 3,cb 12 44 7 11,m 5 12,e 13 5 0,e 14 5 1,o 3 (.alloc 29 Z3),s 4 3 13,m 4 14]) (S (R [l 15 4 3,s 4 2 15]) N)))).c
def a83:AFunc:=⟨16,c83,[.cell 2 4 true],5⟩
def c84:ACode:=({c:=_}:TbD (S (R [b 2 59 0,b 3 59 1,o 4 (.alloc 59 Z0),n 5 0]) (S (S (D [l' 11 10 2 [2],ca' 12 41 11 [2],l' 13 10 3 [0,1],ca 14 41 13,o 15 (.pur (mkO (.call ⟨.builtin .max,#[(t 12),(t 14)],#[39,39]⟩) 39)),m 6 15]) (S (R [m 16 6,w 17 .neq 39 16 0 39 4]) (C 17 (S (R [o 18 (.build Z0 []),m 19 6,s 10 4 18,m 5 19]) N) K))) (S (D [d' 20 0 2 [3,4,5,6,7,8,9,11,12,13,14,15,16,18],d' 21 0 20 [3,4,5,6,7,8,9,11,12,13,14,15,16,18],l' 22 4 21 [3,4,5,6,7,8,9,11,12,13,14,15,16,18],d' 23 0 2 [0,1,2,6,7,8,11,12,13,14,15,16,18],d' 24 4 23 [0,1,2,6,7,8,11,12,13,14,15,16,18],f' 25 1 24 [0,1,2,6,7,8,11,12,13,14,15,16,18],d' 26 0 3 [0,1,2,3,4,5,11,12,13,14,15,16,18],d' 27 4 26 [0,1,2,3,4,5,11,12,13,14,15,16,18],f' 28 1 27 [0,1,2,3,4,5,11,12,13,14,15,16,18],v' 29 .add 3 25 28 3 3 [0,1,2,11,12,13,14,15,16,18],u 30 (.build Z1 [(0,4,(t 22)),(4,1,(t 29))]) [11,12,13,14,15,16,18],d' 31 5 2 [0,1,2,3,4,5,6,7,8,9,10,13,14,15,16,18],l' 32 4 31 [0,1,2,3,4,5,6,7,8,9,10,13,14,15,16,18],l' 33 10 2 [0,1,2,3,4,5,6,7,8,9,10,11,12,14,18],l' 34 10 3 [0,1,2,3,4,5,6,7,8,9,10,11,12,13,18],u 35 (.bsl 59 10 Z0 2 [(0,10,(t 33)),(10,10,(t 34))]) [0,1,2,3,4,5,6,7,8,9,10,11,12,18],ca' 36 122 35 [0,1,2,3,4,5,6,7,8,9,10,11,12,18],u 37 (.build Z0 [(0,5,(t 30)),(5,4,(t 32)),(9,1,(t 36))]) [18],u 7 (.alloc 59 Z0) [0,1,2,3,4,5,6,7,8,9,10,11,12,13,14,15,16,17],s 10 7 37]) (S (S (R [l 39 10 7,d 40 0 2,d 41 4 40,f 42 1 41,cb 43 80 39 42,m 38 43,e 44 38 0,e 45 38 1,e 46 38 2,o 8 (.alloc 59 Z0),o 9 (.alloc 59 Z0),s 10 8 44,s 10 9 45,m 10 46]) (S (R [m 47 10,w 48 .neq 39 47 0 39 4,m 49 48,q 50 (l_ 10 8) 49 [],q 51 (l_ 10 2) 49 [],q 52 (cb_ 118 50 51) 49 [],q 53 (j_ 4 52 4) 49 [],y 54 49 53,m 55 54,q 56 (l_ 10 9) 55 [],q 57 (l_ 10 3) 55 [],q 58 (cb_ 118 56 57) 55 [],q 59 (j_ 4 58 4) 55 [],y 60 55 59]) (C 60 (S (R [o 61 (.build Z0 []),s 10 4 61,n 5 2]) N) K))) (S (R [l 62 10 7,s 10 4 62,n 5 0]) N)))))).c
def a84:AFunc:=⟨63,c84,[.cell 4 10 true,.tmp 5],4⟩
def c85:ACode:=({c:=_}:TbD (S (R [b 1 59 0,o 2 (.alloc 59 Z0)]) (S (R [d 3 9 1,f 4 1 3,ca 5 40 4,d 6 9 1,s 1 6 5]) (S (R [l 7 10 1,s 10 2 7]) N)))).c
def a85:AFunc:=⟨8,c85,[.cell 2 10 true],4⟩
def c87:ACode:=({c:=_}:TbD (R [m 4 0,m 5 0,k 6 5,m 7 1,v 8 .sub 3 6 7 3 3,cb 9 123 4 8])).c
def a87:AFunc:=⟨10,c87,[],0⟩
def c88:ACode:=({c:=_}:TbD (S (R [b 2 59 0,b 3 135 1,bf 4]) (S (R [d 6 0 2,d 7 4 6,f 8 1 7,m 5 8]) (S (D [m 9 5,w 10 .lss 3 9 64 3 4,m 11 10,p 12 (d_ 4 3) 11 [5,6,7,8],p 13 (l_ 4 12) 11 [5,6,7,8],p 14 (l_ 10 2) 11 [3,4,6,7],p 15 (m_ 5) 11 [3,4,5],p 16 (w_ .sub 3 15 1 3 3) 11 [3,4,5],p 17 (cb_ 124 14 16) 11 [3,4],p 18 (v_ .eql 29 13 17 29 4) 11 [],x 19 11 18,m 20 19,p 21 (d_ 0 3) 20 [14,15,16],p 22 (l_ 4 21) 20 [14,15,16],p 23 (l_ 10 2) 20 [12,13,15],p 24 (m_ 5) 20 [12,13,14],p 25 (cb_ 124 23 24) 20 [12,13],p 26 (v_ .eql 29 22 25 29 4) 20 [],x 27 20 26,m 4 27]) N)))).c
def a88:AFunc:=⟨28,c88,[.tmp 4],2⟩
def c89:ACode:=({c:=_}:TbD (S (R [b 3 135 1,z 4]) (S (R [z 5]) (S (S (R [m 7 0,d 8 0 3,l 9 4 8,cb 10 72 7 9,m 6 10]) (B 0 (L (S (S (R [m 11 6,w 12 .geq 3 11 0 3 4]) (C 12 K (X 0))) (S (B 1 (R [m 20 0,m 21 6,i 22 9 20 21,d 23 0 22,l 24 4 23,o 25 (.bsl 29 4 Z3 1 [(0,4,(t 24))]),m 26 5,o 27 (.app 29 4 24 Z3 (t 25) (t 26)),m 5 27])) (R [m 13 0,m 14 0,m 15 6,i 16 9 14 15,d 17 4 16,l 18 4 17,cb 19 72 13 18,m 6 19])))))) (S (R [m 28 5,m 4 28]) N))))).c
def a89:AFunc:=⟨29,c89,[.tmp 4],1⟩
def c90:ACode:=({c:=_}:TbD (S (R [bf 4]) (S (S (R [n 5 0]) (B 0 (L (S (S (R [m 6 5,m 7 0,k 8 7,v 9 .lss 3 6 8 3 4]) (C 9 K (X 0))) (S (B 1 (S (S (R [m 12 5,m 13 1,k 14 13,v 15 .eql 3 12 14 3 4]) (C 15 (S (R [bf 4]) N) K)) (S (D [m' 16 0 [1,4,5,6,7],m' 17 5 [0,4,5,6,7],i' 18 4 16 17 [4,5,6,7],l' 19 4 18 [4,5,6,7],m' 20 1 [0,1,2,3,5],m' 21 5 [0,1,2,3,4],i' 22 4 20 21 [0,1,2,3],l' 23 4 22 [0,1,2,3],v 24 .neq 29 19 23 29 4]) (C 24 (S (D [m' 25 1 [1,4,5,6,7],m' 26 5 [0,4,5,6,7],i' 27 4 25 26 [4,5,6,7],l' 28 4 27 [4,5,6,7],m' 29 0 [0,1,2,3,5],m' 30 5 [0,1,2,3,4],i' 31 4 29 30 [0,1,2,3],l' 32 4 31 [0,1,2,3],cb 33 125 28 32,m 4 33]) N) K)))) (R [m 10 5,w 11 .add 3 10 1 3 3,m 5 11])))))) (S (R [m 34 0,k 35 34,m 36 1,k 37 36,v 38 .lss 3 35 37 3 4,m 4 38]) N)))).c
def a90:AFunc:=⟨39,c90,[.tmp 4],1⟩
def c91:ACode:=({c:=_}:TbD (S (R [z 2]) (S (R [z 3]) (S (S (R [n 4 0]) (B 0 (L (S (S (R [m 6 4,m 7 0,k 8 7,v 9 .lss 3 6 8 3 4]) (C 9 K (X 0))) (S (B 1 (S (R [n 5 0]) (B 2 (L (S (S (R [m 12 5,m 13 0,m 14 4,i 15 10 13 14,d 16 0 15,d 17 4 16,f 18 1 17,v 19 .lss 3 12 18 3 4]) (C 19 K (X 2))) (S (B 3 (D [m' 22 3 [1,2,3,4,5,6,7,8,9,10,11,12,13,14,15,16,17,18,19,20,21,22],m' 23 0 [0,2,5,7,8,9,10,11,13,14,15,16,17,18,19,20],m' 24 4 [0,1,5,7,8,9,10,11,13,14,15,16,17,18,19,20],i' 25 10 23 24 [0,5,7,8,9,10,11,13,14,15,16,17,18,19,20],l' 26 10 25 [0,5,7,8,9,10,11,13,14,15,16,17,18,19,20],m' 27 5 [0,1,2,3,4,7,8,9,10,11,13,14,15,16,17,18,19,20],cb' 28 124 26 27 [0,7,8,9,10,11,13,14,15,16,17,18,19,20],m' 29 0 [0,1,2,3,4,5,6,8,11,13,14,15,16,17,18,19,20],m' 30 4 [0,1,2,3,4,5,6,7,11,13,14,15,16,17,18,19,20],i' 31 10 29 30 [0,1,2,3,4,5,6,11,13,14,15,16,17,18,19,20],l' 32 10 31 [0,1,2,3,4,5,6,11,13,14,15,16,17,18,19,20],m' 33 5 [0,1,2,3,4,5,6,7,8,9,10,13,14,15,16,17,18,19,20],cb' 34 126 32 33 [0,13,14,15,16,17,18,19,20],m' 35 0 [0,1,2,3,4,5,6,7,8,9,10,11,12,14,18],m' 36 4 [0,1,2,3,4,5,6,7,8,9,10,11,12,13,18],i' 37 10 35 36 [0,1,2,3,4,5,6,7,8,9,10,11,12,18],d' 38 9 37 [0,1,2,3,4,5,6,7,8,9,10,11,12,18],f' 39 1 38 [0,1,2,3,4,5,6,7,8,9,10,11,12,18],m' 40 5 [0,1,2,3,4,5,6,7,8,9,10,11,12,13,14,15,16,17],i' 41 1 39 40 [0,1,2,3,4,5,6,7,8,9,10,11,12],f' 42 1 41 [0,1,2,3,4,5,6,7,8,9,10,11,12],u 43 (.build Z2 [(0,4,(t 28)),(4,4,(t 34)),(8,1,(t 42))]) [0],u 44 (.bsl 135 9 Z2 1 [(0,9,(t 43))]) [0],o 45 (.app 135 9 56 Z2 (t 22) (t 44)),m 3 45])) (R [m 20 5,w 21 .add 3 20 1 3 3,m 5 21]))))))) (R [m 10 4,w 11 .add 3 10 1 3 3,m 4 11])))))) (S (R [m 46 3,m 2 46]) N))))).c
def a91:AFunc:=⟨47,c91,[.tmp 2],1⟩
def c92:ACode:=({c:=_}:TbD (S (R [n 2 0]) (S (S (R [m 3 0]) (C 3 (S (R [n 2 0]) N) K)) (S (R [n 2 8]) N)))).c
def a92:AFunc:=⟨4,c92,[.tmp 2],1⟩
def c93:ACode:=({c:=_}:TbD (S (R [b 2 25 0,bf 4]) (S (R [d 5 1 2,f 6 1 5,m 7 1,o 8 (.pur (mkO (.convert 3 167 (t 7)) 167)),v 9 .shr 23 6 8 167 23,o 10 (.pur (mkO (.binOp .rem 23 (t 9) (.const (.int .u32 2)) 23) 23)),o 11 (.pur (mkO (.binOp .eql 23 (t 10) (.const (.int .u32 1)) 23) 4)),m 4 11]) N))).c
def a93:AFunc:=⟨12,c93,[.tmp 4],1⟩
def c94:ACode:=({c:=_}:TbD (S (R [b 1 34 0,bf 2]) (S (R [d 3 10 1,l 4 4 3,o 5 (.build Z3 []),v 6 .eql 29 4 5 29 4,m 7 6,p 8 (d_ 16 1) 7 [],p 9 (f_ 1 8) 7 [],p 10 (k_ 9) 7 [],p 11 (w_ .eql 3 10 0 3 4) 7 [],x 12 7 11,m 2 12]) N))).c
def a94:AFunc:=⟨13,c94,[.tmp 2],0⟩
def c95:ACode:=({c:=_}:TbD (S (R [b 1 34 0,bf 2]) (S (D [d' 3 14 1 [2],l' 4 2 3 [2],u 5 (.call (.func 96) []) [0,1],v 6 .eql 25 4 5 25 4,m 2 6]) N))).c
def a95:AFunc:=⟨7,c95,[.tmp 2],0⟩
def c96:ACode:=({c:=_}:TbD (S (R [o 0 (.alloc 25 Z4)]) (S (R [o 1 (.build Z4 []),s 2 0 1]) N))).c
def a96:AFunc:=⟨2,c96,[.cell 0 2 true],1⟩
def c97:ACode:=({c:=_}:TbD (S (R [b 2 34 0,bf 3]) (S (R [d 5 10 2,l 6 4 5,o 7 (.build Z3 []),v 8 .eql 29 6 7 29 4,m 9 8,q 10 (d_ 10 2) 9 [],q 11 (l_ 4 10) 9 [],q 12 (ca_ 74 11) 9 [],q 13 (w_ .eql 39 12 0 39 4) 9 [],y 14 9 13,m 4 14]) (S (R [f 15 1 1,l 16 17 2,o 17 (.call (t 15) [(t 16)]),m 18 17,p 19 (m_ 4) 18 [],x 20 18 19,m 21 20,p 22 (d_ 5 2) 21 [],p 23 (d_ 0 22) 21 [],p 24 (d_ 0 23) 21 [],p 25 (l_ 3 24) 21 [],p 26 (d_ 1 2) 21 [],p 27 (l_ 3 26) 21 [],p 28 (v_ .eql 27 25 27 27 4) 21 [],x 29 21 28,m 30 29,p 31 (d_ 16 2) 30 [],p 32 (f_ 1 31) 30 [],p 33 (k_ 32) 30 [],p 34 (d_ 5 2) 30 [],p 35 (d_ 4 34) 30 [],p 36 (f_ 1 35) 30 [],p 37 (v_ .eql 3 33 36 3 4) 30 [],x 38 30 37,m 39 38,p 40 (d_ 16 2) 39 [],p 41 (f_ 1 40) 39 [],p 42 (ca_ 75 41) 39 [],p 43 (w_ .eql 39 42 0 39 4) 39 [],x 44 39 43,m 3 44]) N)))).c
def a97:AFunc:=⟨45,c97,[.tmp 3],0⟩
def c98:ACode:=({c:=_}:TbD (S (R [n 2 0]) (S (R [m 3 0,o 4 (.pur (mkO (.binOp .mul 3 (.const (.int .i64 4)) (t 3) 3) 3)),o 5 (.pur (mkO (.binOp .add 3 (.const (.int .i64 13)) (t 4) 3) 3)),m 2 5]) N))).c
def a98:AFunc:=⟨6,c98,[.tmp 2],0⟩
def c99:ACode:=({c:=_}:TbD (S (R [b 3 34 0,bf 4]) (S (R [f 5 1 1,l 6 17 3,o 7 (.call (t 5) [(t 6)]),m 8 7,p 9 (f_ 1 2) 8 [],p 10 (l_ 17 3) 8 [],p 11 (.call (t 9) [(t 10)]) 8 [],x 12 8 11,m 4 12]) N))).c
def a99:AFunc:=⟨13,c99,[.tmp 4],0⟩
def c100:ACode:=({c:=_}:TbD (S (R [n 2 0]) (S (R [n 2 0]) N))).c
def a100:AFunc:=⟨3,c100,[.tmp 2],0⟩
def c101:ACode:=({c:=_}:TbD (S (R [b 2 34 0,bf 3]) (S (R [f 4 1 1,l 5 17 2,o 6 (.call (t 4) [(t 5)]),m 7 6,p 8 (d_ 14 2) 7 [],p 9 (l_ 2 8) 7 [],p 10 (ca_ 28 9) 7 [],p 11 (w_ .eql 39 10 0 39 4) 7 [],x 12 7 11,m 3 12]) N))).c
def a101:AFunc:=⟨13,c101,[.tmp 3],0⟩
def c102:ACode:=({c:=_}:TbD (S (R [n 2 0]) (S (R [n 2 5]) N))).c
def a102:AFunc:=⟨3,c102,[.tmp 2],0⟩
def c103:ACode:=({c:=_}:TbD (S (R [b 4 34 1,b 5 29 2,bf 6]) (S (.region [m' 7 0 [4],u 8 (.nilck (t 7)) [4],d' 9 1 8 [4],f' 10 1 9 [4],l' 11 4 5 [0,1,2,3],o 12 (.lookup 29 (.bool false) (t 10) (t 11) false),m 13 12,p 14 (d_ 0 5) 13 [10,11,12],p 15 (d_ 0 14) 13 [10,11,12],p 16 (l_ 2 15) 13 [10,11,12],p 17 (d_ 1 4) 13 [7,8,9],p 18 (d_ 0 17) 13 [7,8,9],p 19 (l_ 2 18) 13 [7,8,9],p 20 (cb_ 29 16 19) 13 [],x 21 13 20,m 6 21] true) N))).c
def a103:AFunc:=⟨22,c103,[.tmp 6],0⟩
def c104:ACode:=({c:=_}:TbD (S (R [bf 4]) (S (R [m 5 0,m 6 1,cb 7 127 5 6,w 8 .geq 3 7 0 3 4,m 4 8]) N))).c
def a104:AFunc:=⟨9,c104,[.tmp 4],0⟩
def c105:ACode:=({c:=_}:TbD (S (R [b 2 29 0,bf 3]) (S (.region [f' 4 1 1 [4],u 5 (.nilck (t 4)) [4],d' 6 1 5 [4],f' 7 1 6 [4],l' 8 4 2 [0,1,2,3],o 9 (.lookup 29 (.bool false) (t 7) (t 8) false),m 3 9] true) N))).c
def a105:AFunc:=⟨10,c105,[.tmp 3],0⟩
def c106:ACode:=({c:=_}:TbD (S (R [b 2 77 0,b 3 34 1,bf 4]) (S (R [d 5 5 3,l 6 5 5,ca 7 59 6,o 8 (.mkfn 128 [] [(t 2),(t 3)]),cb 9 104 7 8,j 10 4 9 4,m 4 10]) N))).c
def a106:AFunc:=⟨11,c106,[.tmp 4],0⟩
def c107:ACode:=({c:=_}:TbD (S (R [b 3 34 1,bf 4,n 5 0]) (S (S (R [m 8 0,ca 9 129 8,m 6 9]) (S (R [m 10 6,w 11 .neq 39 10 0 39 4]) (C 11 (S (R [m 12 6,bf 4,m 5 12]) N) K))) (S (S (R [l 13 17 3,ca 14 35 13,m 7 14]) (S (R [m 15 7,w 16 .neq 39 15 0 39 4]) (C 16 (S (R [m 17 7,bf 4,m 5 17]) N) K))) (S (R [m 18 0,l 19 17 3,cb 20 130 18 19,m 4 20,n 5 0]) N))))).c
def a107:AFunc:=⟨21,c107,[.tmp 4,.tmp 5],0⟩
def c108:ACode:=({c:=_}:TbD (S (R [bf 2]) (S (R [m 3 0,w 4 .geq 3 3 0 3 4,m 5 4,p 6 (m_ 0) 5 [],p 7 (w_ .leq 3 6 1114111 3 4) 5 [],x 8 5 7,m 9 8,p 10 (m_ 0) 9 [],p 11 (w_ .lss 3 10 55296 3 4) 9 [],p 12 (m_ 11) 9 [],q 13 (m_ 0) 12 [],q 14 (w_ .gtr 3 13 57343 3 4) 12 [],p 15 (y_ 12 14) 9 [],x 16 9 15,m 2 16]) N))).c
def a108:AFunc:=⟨17,c108,[.tmp 2],1⟩
def c109:ACode:=({c:=_}:TbD (S (R [b 1 29 0,bf 2]) (S (R [l 3 4 1,o 4 (.build Z3 []),v 5 .eql 29 3 4 29 4,m 2 5]) N))).c
def a109:AFunc:=⟨6,c109,[.tmp 2],1⟩
def c110:ACode:=({c:=_}:TbD (S (R [b 3 25 1,bf 4]) (S (S (R [n 5 0]) (B 0 (L (S (S (R [m 6 5,m 7 0,k 8 7,v 9 .lss 3 6 8 3 4]) (C 9 K (X 0))) (S (B 1 (S (D [m' 12 0 [1,4],m' 13 5 [0,4],i' 14 2 12 13 [4],l' 15 2 14 [4],l' 16 2 3 [0,1,2,3],v 17 .eql 25 15 16 25 4]) (C 17 (S (R [bt 4]) N) K))) (R [m 10 5,w 11 .add 3 10 1 3 3,m 5 11])))))) (S (R [bf 4]) N)))).c
def a110:AFunc:=⟨18,c110,[.tmp 4],2⟩
def c111:ACode:=({c:=_}:TbD (S (R [b 4 29 1,b 5 25 2,z 6]) (S (R [d 10 0 4,d 11 0 10,l 12 2 11,o 13 (.bsl 25 2 Z4 1 [(0,2,(t 12))]),m 7 13]) (S (R [m 14 0,l 15 4 4,l 16 2 5,cd 17 131 14 15 16,m 8 17]) (S (S (R [n 9 0]) (B 0 (L (S (S (R [m 18 9,m 19 8,k 20 19,v 21 .lss 3 18 20 3 4]) (C 21 K (X 0))) (S (B 1 (S (R [m 24 7,m 25 8,m 26 9,i 27 2 25 26,l 28 2 27,cb 29 110 24 28,j 30 4 29 4]) (C 30 (R [m 31 7,m 32 8,m 33 9,i 34 2 32 33,l 35 2 34,o 36 (.bsl 25 2 Z4 1 [(0,2,(t 35))]),o 37 (.app 25 2 8 Z4 (t 31) (t 36)),m 7 37]) K))) (R [m 22 9,w 23 .add 3 22 1 3 3,m 9 23])))))) (S (R [m 38 7,m 6 38]) N)))))).c
def a111:AFunc:=⟨39,c111,[.tmp 6],1⟩
def c112:ACode:=({c:=_}:TbD (S (R [bf 2]) (S (R [m 3 0,o 4 (.pur (mkO (.binOp .neq 21 (t 3) (.const (.int .i32 (-1))) 21) 4)),m 5 4,p 6 (m_ 0) 5 [],p 7 (ca_ 113 6) 5 [],p 8 (j_ 4 7 4) 5 [],x 9 5 8,m 2 9]) N))).c
def a112:AFunc:=⟨10,c112,[.tmp 2],1⟩
def c113:ACode:=({c:=_}:TbD (S (R [bf 2]) (S (B 0 (S (R [m 4 0,o 5 (.pur (mkO (.binOp .leq 21 (.const (.int .i32 0)) (t 4) 21) 4)),m 6 5,p 7 (m_ 0) 6 [],p 8 (.pur (mkO (.binOp .lss 21 (t 7) (.const (.int .i32 55296)) 21) 4)) 6 [],x 9 6 8,m 3 9]) (C 3 (S (R [bt 2]) N) (S (R [m 11 0,o 12 (.pur (mkO (.binOp .lss 21 (.const (.int .i32 57343)) (t 11) 21) 4)),m 13 12,p 14 (m_ 0) 13 [],p 15 (.pur (mkO (.binOp .leq 21 (t 14) (.const (.int .i32 1114111)) 21) 4)) 13 [],x 16 13 15,m 10 16]) (C 10 (S (R [bt 2]) N) K))))) (S (R [bf 2]) N)))).c
def a113:AFunc:=⟨17,c113,[.tmp 2],1⟩
def c114:ACode:=({c:=_}:TbD (S (R [bf 4]) (S (R [m 5 0,m 6 1,cb 7 132 5 6,w 8 .geq 3 7 0 3 4,m 4 8]) N))).c
def a114:AFunc:=⟨9,c114,[.tmp 4],1⟩
def c115:ACode:=({c:=_}:TbD (S (R [n 4 0]) (S (S (R [m 6 0,k 7 6,n 8 0]) (B 0 (L (S (R [v 9 .lss 3 8 7 3 0]) (S (C 9 K (X 0)) (S (B 1 (S (R [m 10 8,m 5 10]) (S (R [m 11 1,m 12 0,m 13 5,i 14 10 12 13,l 15 10 14,o 16 (.call (t 11) [(t 15)])]) (C 16 (S (R [m 17 5,m 4 17]) N) K)))) (R [w 18 .add 3 8 1 3 3,m 8 18]))))))) (S (R [n 4 (-1)]) N)))).c
def a115:AFunc:=⟨19,c115,[.tmp 4],0⟩
def c116:ACode:=({c:=_}:TbD (S (R [b 1 38 0,o 2 (.mov (.const .nilFunc))]) (S (R [o 3 (.mkfn 133 [] [(t 1)]),m 2 3]) N))).c
def a116:AFunc:=⟨4,c116,[.tmp 2],0⟩
def c117:ACode:=({c:=_}:TbD (S (R [bf 6]) (S (S (R [m 10 0,k 11 10,m 12 1,k 13 12,v 14 .neq 3 11 13 3 4]) (C 14 (S (R [bf 6]) N) K)) (S (S (R [m 15 0,k 16 15,n 17 0]) (B 0 (L (S (R [v 18 .lss 3 17 16 3 0]) (S (C 18 K (X 0)) (S (B 1 (S (R [m 19 17,i 20 10 15 17,l 21 10 20,o 8 (.alloc 59 Z0),m 7 19,s 10 8 21]) (S (R [m 22 1,m 23 7,i 24 10 22 23,l 25 10 24,o 9 (.alloc 59 Z0),s 10 9 25]) (S (R [m 26 2,l 27 10 8,l 28 10 9,o 29 (.call (t 26) [(t 27),(t 28)]),j 30 4 29 4]) (C 30 (S (R [bf 6]) N) K))))) (R [w 31 .add 3 17 1 3 3,m 17 31]))))))) (S (R [bt 6]) N))))).c
def a117:AFunc:=⟨32,c117,[.tmp 6],1⟩
def c118:ACode:=({c:=_}:TbD (S (R [b 2 59 0,b 3 59 1,bf 4]) (S (R [d 5 0 2,l 6 5 5,d 7 0 3,l 8 5 7,v 9 .eql 31 6 8 31 4,m 10 9,p 11 (d_ 5 2) 10 [],p 12 (l_ 4 11) 10 [],p 13 (d_ 5 3) 10 [],p 14 (l_ 4 13) 10 [],p 15 (v_ .eql 29 12 14 29 4) 10 [],x 16 10 15,m 17 16,p 18 (d_ 9 2) 17 [],p 19 (f_ 1 18) 17 [],p 20 (d_ 9 3) 17 [],p 21 (f_ 1 20) 17 [],p 22 (cb_ 135 19 21) 17 [],x 23 17 22,m 4 23]) N))).c
def a118:AFunc:=⟨24,c118,[.tmp 4],1⟩
def c119:ACode:=({c:=_}:TbD (S (R [b 2 31 0,o 4 (.alloc 31 Z1),o 5 (.alloc 31 Z1),n 6 0]) (S (R [l 9 5 2,m 10 1,cb 11 44 9 10,m 8 11,e 12 8 0,e 13 8 1,o 7 (.alloc 29 Z3),s 4 7 12,m 6 13]) (S (S (R [m 14 6,w 15 .eql 39 14 0 39 4,m 16 15,p 17 (m_ 1) 16 [],p 18 (w_ .eql 3 17 0 3 4) 16 [],x 19 16 18]) (C 19 (R [n 6 2]) K)) (S (S (R [m 20 6,w 21 .neq 39 20 0 39 4]) (C 21 (S (D [l' 22 5 4 [1,2],l' 23 5 5 [0,2,3],m' 24 6 [0,1,3,4],s' 5 4 22 [1,2],s' 5 5 23 [2],m 6 24]) N) K)) (S (D [d' 25 0 2 [2,4,5,6,7,8,9],l' 26 4 25 [2,4,5,6,7,8,9],m' 27 1 [0,1,4,5,6,7,8,9],u 28 (.build Z1 [(0,4,(t 26)),(4,1,(t 27))]) [4,5,6,7,8,9],l' 29 4 7 [0,1,2,3,5,6,7,8,10],d' 30 4 2 [0,1,2,3,4,7,10],f' 31 1 30 [0,1,2,3,4,7,10],m' 32 1 [0,1,2,3,4,5,6,10],v' 33 .sub 3 31 32 3 3 [0,1,2,3,4,10],u 34 (.build Z1 [(0,4,(t 29)),(4,1,(t 33))]) [0,1,2,3,10],s' 5 4 28 [4,5,6,7,8,9],s 5 5 34,n 6 0]) N)))))).c
def a119:AFunc:=⟨35,c119,[.cell 4 5 true,.cell 5 5 true,.tmp 6],1⟩
def c120:ACode:=({c:=_}:TbD (S (R [b 1 161 0,o 2 (.alloc 59 Z0)]) (S (D [d' 3 0 1 [2,3,4,5,6],l' 4 5 3 [2,3,4,5,6],d' 5 5 1 [0,1,4,5,6],l' 6 4 5 [0,1,4,5,6],d' 7 9 1 [0,1,2,3],f' 8 1 7 [0,1,2,3],ca' 9 40 8 [0,1,2,3],o 10 (.build Z0 [(0,5,(t 4)),(5,4,(t 6)),(9,1,(t 9))]),s 10 2 10]) N))).c
def a120:AFunc:=⟨11,c120,[.cell 2 10 true],4⟩
def c121:ACode:=({c:=_}:TbD (S (R [z 4]) (S (S (R [m 5 1,w 6 .lss 3 5 0 3 4]) (C 6 (R [o 7 (.bad "op"),O (.bad "op")]) K)) (S (S (R [m 8 1,m 9 0,o 10 (.cap (t 9)),m 11 0,k 12 11,v 13 .sub 3 10 12 3 3,v 14 .sub 3 8 13 3 3,m 1 14]) (S (R [m 15 1,w 16 .gtr 3 15 0 3 4]) (C 16 (R [m 17 0,m 18 0,o 19 (.cap (t 18)),o 20 (.slc 10 (t 17) none (some (t 19)) none),m 21 1,o 22 (.appz 59 10 80 Z0 (t 20) (t 21)),m 23 0,k 24 23,o 25 (.slc 10 (t 22) none (some (t 24)) none),m 0 25]) K))) (S (R [m 26 0,m 4 26]) N))))).c
def a121:AFunc:=⟨27,c121,[.tmp 4],0⟩
def c122:ACode:=({c:=_}:TbD (S (R [z 2]) (S (S (R [m 5 0,k 6 5,n 7 0]) (B 0 (L (S (R [v 8 .lss 3 7 6 3 0]) (S (C 8 K (X 0)) (S (B 1 (S (R [i 9 10 5 7,l 10 10 9,o 4 (.alloc 59 Z0),s 10 4 10]) (R [m 11 2,d 12 9 4,f 13 1 12,o 14 (.app 21 1 4 (.int .i32 0) (t 11) (t 13)),m 2 14]))) (R [w 15 .add 3 7 1 3 3,m 7 15]))))))) (S (R [m 16 2,m 2 16]) N)))).c
def a122:AFunc:=⟨17,c122,[.tmp 2],0⟩
def c123:ACode:=({c:=_}:TbD (S (R [m 4 0,m 5 1,o 6 (.slc 10 (t 4) none (some (t 5)) none),ca 7 136 6]) (S (R [m 8 0,m 9 1,o 10 (.slc 10 (t 8) (some (t 9)) none none),ca 11 136 10]) (R [m 12 0,ca 13 136 12])))).c
def a123:AFunc:=⟨14,c123,[],0⟩
def c124:ACode:=({c:=_}:TbD (S (R [b 2 59 0,o 4 (.alloc 29 Z3)]) (S (R [d 5 0 2,d 6 0 5,d 7 0 6,l 8 3 7,d 9 0 2,d 10 0 9,d 11 3 10,f 12 1 11,m 13 1,v 14 .add 3 12 13 3 3,o 15 (.build Z3 [(0,3,(t 8)),(3,1,(t 14))]),s 4 4 15]) N))).c
def a124:AFunc:=⟨16,c124,[.cell 4 4 true],1⟩
def c125:ACode:=({c:=_}:TbD (S (R [b 2 29 0,b 3 29 1,bf 4]) (S (S (R [d 5 3 2,f 6 1 5,d 7 3 3,f 8 1 7,v 9 .lss 3 6 8 3 4]) (C 9 (S (R [bt 4]) N) K)) (S (S (R [d 10 3 2,f 11 1 10,d 12 3 3,f 13 1 12,v 14 .gtr 3 11 13 3 4]) (C 14 (S (R [bf 4]) N) K)) (S (S (R [d 15 0 2,d 16 0 15,l 17 2 16,d 18 0 3,d 19 0 18,l 20 2 19,cb 21 137 17 20]) (C 21 (S (R [bt 4]) N) K)) (S (S (R [d 22 0 3,d 23 0 22,l 24 2 23,d 25 0 2,d 26 0 25,l 27 2 26,cb 28 137 24 27]) (C 28 (S (R [bf 4]) N) K)) (S (R [d 29 0 2,d 30 2 29,f 31 1 30,d 32 0 3,d 33 2 32,f 34 1 33,v 35 .lss 5 31 34 5 4,m 4 35]) N))))))).c
def a125:AFunc:=⟨36,c125,[.tmp 4],1⟩
def c126:ACode:=({c:=_}:TbD (S (R [b 2 59 0,o 4 (.alloc 29 Z3)]) (S (S (R [m 5 1,w 6 .eql 3 5 0 3 4]) (C 6 (S (R [d 7 5 2,l 8 4 7,s 4 4 8]) N) K)) (S (R [l 9 10 2,m 10 1,w 11 .sub 3 10 1 3 3,cb 12 124 9 11,s 4 4 12]) N)))).c
def a126:AFunc:=⟨13,c126,[.cell 4 4 true],1⟩
def c127:ACode:=({c:=_}:TbD (S (R [n 4 0]) (S (S (R [m 6 0,k 7 6,n 8 0]) (B 0 (L (S (R [v 9 .lss 3 8 7 3 0]) (S (C 9 K (X 0)) (S (B 1 (S (R [m 10 8,m 5 10]) (S (R [m 11 1,m 12 0,m 13 5,i 14 4 12 13,l 15 4 14,o 16 (.call (t 11) [(t 15)])]) (C 16 (S (R [m 17 5,m 4 17]) N) K)))) (R [w 18 .add 3 8 1 3 3,m 8 18]))))))) (S (R [n 4 (-1)]) N)))).c
def a127:AFunc:=⟨19,c127,[.tmp 4],0⟩
def c128:ACode:=({c:=_}:TbD (S (R [b 3 29 0,bf 4]) (S (R [f 5 1 1,l 6 17 2,l 7 4 3,cd 8 103 5 6 7,j 9 4 8 4,m 4 9]) N))).c
def a128:AFunc:=⟨10,c128,[.tmp 4],0⟩
def c129:ACode:=({c:=_}:TbD (S (R [n 2 0]) (S (S (R [m 5 0,k 6 5,w 7 .gtr 3 6 2048 3 4]) (C 7 (S (R [n 2 4]) N) K)) (S (S (R [m 8 0,k 9 8,n 10 0]) (B 0 (L (S (R [v 11 .lss 3 10 9 3 0]) (S (C 11 K (X 0)) (S (B 1 (S (R [m 12 10,i 13 17 8 10,l 14 17 13,o 4 (.alloc 34 Z5),m 3 12,s 17 4 14]) (S (D [l 15 17 4,ca 16 35 15,w 17 .neq 39 16 0 39 4,m 18 17,q 19 (m_ 0) 18 [5,7],q 20 (m_ 3) 18 [4,7],q 21 (.slc 17 (t 19) none (some (t 20)) none) 18 [7],q 22 (l_ 17 4) 18 [4,5,6],q 23 (cb_ 130 21 22) 18 [],q 24 (j_ 4 23 4) 18 [],y 25 18 24]) (C 25 (S (R [n 2 8]) N) K)))) (R [w 26 .add 3 10 1 3 3,m 10 26]))))))) (S (R [n 2 0]) N))))).c
def a129:AFunc:=⟨27,c129,[.tmp 2],2⟩
def c130:ACode:=({c:=_}:TbD (S (R [b 3 34 1,bf 4]) (.scope (S (S (R [d 9 0 3,f 10 1 9,o 11 (.pur (mkO (.binOp .neq 5 (t 10) (.const (.int .u8 3)) 5) 4))]) (C 11 (S (R [bt 4]) N) K)) (S (R [d 12 1 3,d 13 0 12,l 14 2 13,d 15 14 3,l 16 2 15,cb 17 29 14 16,m 5 17]) (S .label (S (S (R [d 18 5 3,d 19 4 18,f 20 1 19,n 21 0]) (B 0 (L (S (R [v 22 .lss 3 21 20 3 4]) (S (C 22 K (X 0)) (S (B 1 (S (R [m 23 21,m 6 23]) (S (R [d 25 5 3,l 26 5 25,m 27 6,cb 28 44 26 27,m 24 28,e 29 24 0,e 30 24 1,o 7 (.alloc 29 Z3),s 4 7 29,m 8 30]) (S (D [m 31 5,m 32 31,p 33 (m_ 0) 32 [3,4,5,6,8,9,10],p 34 (l_ 4 7) 32 [2,4,5,6,8,9,10],p 35 (d_ 1 3) 32 [2,3,8,9,10],p 36 (d_ 0 35) 32 [2,3,8,9,10],p 37 (l_ 2 36) 32 [2,3,8,9,10],p 38 (cd_ 139 33 34 37) 32 [8,9,10],p 39 (d_ 1 3) 32 [2,3,4,5,6,7],p 40 (d_ 0 39) 32 [2,3,4,5,6,7],p 41 (l_ 2 40) 32 [2,3,4,5,6,7],p 42 (cb_ 138 38 41) 32 [],x 43 32 42,m 5 43]) (S (R [m 44 5,j 45 4 44 4]) (C 45 (X 0) K)))))) (R [w 46 .add 3 21 1 3 3,m 21 46]))))))) (S (R [m 47 5,m 4 47]) N)))))))).c
def a130:AFunc:=⟨48,c130,[.tmp 4],2⟩
def c131:ACode:=({c:=_}:TbD (S (R [b 4 29 1,b 5 25 2,z 6]) (S (R [z 7]) (S (S (R [n 8 0]) (B 0 (L (S (S (R [m 9 8,m 10 0,k 11 10,v 12 .lss 3 9 11 3 4]) (C 12 K (X 0))) (S (B 1 (S (D [m' 15 0 [1],m' 16 8 [0],i 17 17 15 16,d 18 0 17,f 19 1 18,o 20 (.pur (mkO (.binOp .eql 5 (t 19) (.const (.int .u8 3)) 5) 4)),m 21 20,p 22 (m_ 0) 21 [8,12],p 23 (m_ 8) 21 [7,12],p 24 (i_ 17 22 23) 21 [12],p 25 (d_ 5 24) 21 [12],p 26 (l_ 5 25) 21 [12],p 27 (l_ 4 4) 21 [7,8,9,10,11],p 28 (cb_ 140 26 27) 21 [],x 29 21 28,m 30 29,p 31 (m_ 0) 30 [17,22],p 32 (m_ 8) 30 [16,22],p 33 (i_ 17 31 32) 30 [22],p 34 (d_ 1 33) 30 [22],p 35 (d_ 0 34) 30 [22],p 36 (l_ 2 35) 30 [22],p 37 (l_ 2 5) 30 [16,17,18,19,20,21],p 38 (cb_ 58 36 37) 30 [],x 39 30 38]) (C 39 (R [m 40 7,m 41 0,m 42 8,i 43 17 41 42,d 44 14 43,l 45 2 44,o 46 (.bsl 25 2 Z4 1 [(0,2,(t 45))]),o 47 (.app 25 2 8 Z4 (t 40) (t 46)),m 7 47]) K))) (R [m 13 8,w 14 .add 3 13 1 3 3,m 8 14])))))) (S (R [m 48 7,m 6 48]) N))))).c
def a131:AFunc:=⟨49,c131,[.tmp 6],1⟩
def c132:ACode:=({c:=_}:TbD (S (R [n 4 0]) (S (S (R [m 6 0,k 7 6,n 8 0]) (B 0 (L (S (R [v 9 .lss 3 8 7 3 0]) (S (C 9 K (X 0)) (S (B 1 (S (R [m 10 8,m 5 10]) (S (R [m 11 1,m 12 0,m 13 5,i 14 1 12 13,f 15 1 14,o 16 (.call (t 11) [(t 15)])]) (C 16 (S (R [m 17 5,m 4 17]) N) K)))) (R [w 18 .add 3 8 1 3 3,m 8 18]))))))) (S (R [n 4 (-1)]) N)))).c
def a132:AFunc:=⟨19,c132,[.tmp 4],1⟩
def c133:ACode:=({c:=_}:TbD (S (R [f 10 1 1,k 11 10,n 12 0]) (B 0 (L (S (R [v 13 .lss 3 12 11 3 0]) (S (C 13 K (X 0)) (S (B 1 (S (R [i 14 10 10 12,l 15 10 14,o 4 (.alloc 59 Z0),s 10 4 15]) (S (R [d 16 0 4,d 17 4 16,f 18 1 17,n 19 0]) (B 2 (L (S (R [v 20 .lss 3 19 18 3 4]) (S (C 20 K (X 2)) (S (B 3 (S (R [m 21 19,m 5 21]) (S (R [l 23 10 4,m 24 5,cb 25 134 23 24,m 22 25,e 26 22 0,e 27 22 1,e 28 22 2,e 29 22 3,o 6 (.alloc 29 Z3),o 7 (.alloc 29 Z3),s 4 6 26,s 4 7 27,m 8 28,m 9 29]) (S (R [m 30 0,l 31 4 6,l 32 4 7,o 33 (.call (t 30) [(t 31),(t 32)]),j 34 4 33 4]) (C 34 N K))))) (R [w 35 .add 3 19 1 3 3,m 19 35]))))))))) (R [w 36 .add 3 12 1 3 3,m 12 36])))))))).c
def a133:AFunc:=⟨37,c133,[],0⟩
def c134:ACode:=({c:=_}:TbD (S (R [b 2 59 0,o 4 (.alloc 29 Z3),o 5 (.alloc 29 Z3),o 6 (.mov (.const (.int .i32 0))),n 7 0]) (S (S (R [l 9 10 2,ca 10 41 9,m 8 10]) (S (R [m 11 8,w 12 .neq 39 11 0 39 4]) (C 12 (S (D [l' 13 4 4 [1,2],l' 14 4 5 [0,2,3],m' 15 8 [0,1,3,4,5],s' 4 4 13 [1,2],s' 4 5 14 [2],u 6 (.mov (.const (.int .i32 0))) [2],m 7 15]) N) K))) (S (S (R [d 17 0 2,l 18 5 17,m 19 1,cb 20 44 18 19,m 16 20,e 21 16 0,e 22 16 1,s 4 4 21,m 7 22]) (S (R [m 23 7,w 24 .neq 39 23 0 39 4]) (C 24 (S (D [l' 25 4 4 [1,2],l' 26 4 5 [0,2,3],m' 27 7 [0,1,3,4,5],s' 4 4 25 [1,2],s' 4 5 26 [2],u 6 (.mov (.const (.int .i32 0))) [2],m 7 27]) N) K))) (S (R [d 28 5 2,l 29 4 28,s 4 5 29]) (S (S (R [m 30 1,w 31 .gtr 3 30 0 3 4]) (C 31 (R [d 33 0 2,l 34 5 33,m 35 1,w 36 .sub 3 35 1 3 3,cb 37 44 34 36,m 32 37,e 38 32 0,e 39 32 1,s 4 5 38,m 7 39]) K)) (S (D [l' 40 4 4 [1,2,3,4,5,6,7],l' 41 4 5 [0,2,3,4,5,6,7,8],d' 42 9 2 [0,1,4,7,8,9],f' 43 1 42 [0,1,4,7,8,9],m' 44 1 [0,1,2,3,7,8,9],i' 45 1 43 44 [0,1,7,8,9],f' 46 1 45 [0,1,7,8,9],m' 47 7 [0,1,2,3,4,5,6,8,9,10],s' 4 4 40 [1,2,3,4,5,6,7],s' 4 5 41 [2,3,4,5,6,7],m' 6 46 [7],m 7 47]) N))))))).c
def a134:AFunc:=⟨48,c134,[.cell 4 4 true,.cell 5 4 true,.tmp 6,.tmp 7],1⟩
def c135:ACode:=({c:=_}:TbD (S (R [bf 4]) (S (S (R [m 6 0,k 7 6,m 8 1,k 9 8,v 10 .neq 3 7 9 3 4]) (C 10 (S (R [bf 4]) N) K)) (S (S (R [m 11 0,k 12 11,n 13 0]) (B 0 (L (S (R [v 14 .lss 3 13 12 3 0]) (S (C 14 K (X 0)) (S (B 1 (S (R [m 15 13,m 5 15]) (S (D [m' 16 0 [1,4,5,6,7],m' 17 5 [0,4,5,6,7],i' 18 1 16 17 [4,5,6,7],f' 19 1 18 [4,5,6,7],m' 20 1 [0,1,2,3,5],m' 21 5 [0,1,2,3,4],i' 22 1 20 21 [0,1,2,3],f' 23 1 22 [0,1,2,3],v 24 .neq 21 19 23 21 4]) (C 24 (S (R [bf 4]) N) K)))) (R [w 25 .add 3 13 1 3 3,m 13 25]))))))) (S (R [bt 4]) N))))).c
def a135:AFunc:=⟨26,c135,[.tmp 4],1⟩
def c136:ACode:=({c:=_}:TbD (S (R [m 4 0,k 5 4,w 6 .sub 3 5 1 3 3,n 2 0,m 3 6]) (B 0 (L (S (S (R [m 7 2,m 8 3,v 9 .lss 3 7 8 3 4]) (C 9 K (X 0))) (S (B 1 (D [m' 14 0 [1,2,3,4,5,6,7,8,9,10,11],m' 15 2 [0,2,3,4,5,6,7,8,9,10,11],m' 16 0 [0,1,3,4,5,6,7,8,9,10,11,12,13],m' 17 3 [0,1,2,4,5,6,7,8,9,10,11,12,13],m' 18 0 [0,1,2,3,5,8,9,10,11],m' 19 3 [0,1,2,3,4,8,9,10,11],i' 20 10 18 19 [0,1,2,3,8,9,10,11],l' 21 10 20 [0,1,2,3,8,9,10,11],m' 22 0 [0,1,2,3,4,5,6,7,9],m' 23 2 [0,1,2,3,4,5,6,7,8],i' 24 10 22 23 [0,1,2,3,4,5,6,7],l' 25 10 24 [0,1,2,3,4,5,6,7],i' 26 10 14 15 [2,3],s' 10 26 21 [2,3],i 27 10 16 17,s 10 27 25])) (R [m 10 2,w 11 .add 3 10 1 3 3,m 12 3,w 13 .sub 3 12 1 3 3,m 2 11,m 3 13]))))))).c
def a136:AFunc:=⟨28,c136,[],0⟩
def c137:ACode:=({c:=_}:TbD (S (R [b 2 25 0,b 3 25 1,bf 4]) (S (R [d 5 0 2,f 6 1 5,o 7 (.pur (mkO (.convert 5 3 (t 6)) 3)),w 8 .mul 3 7 4294967296 3 3,d 9 1 2,f 10 1 9,o 11 (.pur (mkO (.convert 23 3 (t 10)) 3)),v 12 .add 3 8 11 3 3,d 13 0 3,f 14 1 13,o 15 (.pur (mkO (.convert 5 3 (t 14)) 3)),w 16 .mul 3 15 4294967296 3 3,d 17 1 3,f 18 1 17,o 19 (.pur (mkO (.convert 23 3 (t 18)) 3)),v 20 .add 3 16 19 3 3,v 21 .lss 3 12 20 3 4,m 4 21]) N))).c
def a137:AFunc:=⟨22,c137,[.tmp 4],1⟩
def c138:ACode:=({c:=_}:TbD (S (R [b 3 25 1,bf 4]) (S (R [m 5 0,l 6 2 3,cb 7 141 5 6,w 8 .geq 3 7 0 3 4,m 4 8]) N))).c
def a138:AFunc:=⟨9,c138,[.tmp 4],2⟩
def c139:ACode:=({c:=_}:TbD (S (R [b 4 29 1,b 5 25 2,z 6]) (S (R [d 9 0 4,d 10 0 9,l 11 2 10,o 12 (.bsl 25 2 Z4 1 [(0,2,(t 11))]),o 7 (.alloc 148 (.slice none 0 0)),s 1 7 12]) (S (S (R [m 13 0,l 14 4 4,l 15 2 5,cd 16 142 13 14 15]) (B 0 (.rangeFunc (.tmp 16) [17] (R [o 8 (.alloc 25 Z4),s 2 8 17]) (B 1 (S (R [f 18 1 7,l 19 2 8,cb 20 138 18 19,j 21 4 20 4]) (C 21 (R [f 22 1 7,l 23 2 8,o 24 (.bsl 25 2 Z4 1 [(0,2,(t 23))]),o 25 (.app 25 2 8 Z4 (t 22) (t 24)),s 1 7 25]) K)))))) (S (R [f 26 1 7,m 6 26]) N))))).c
def a139:AFunc:=⟨27,c139,[.tmp 6],1⟩
def c140:ACode:=({c:=_}:TbD (S (R [b 2 31 0,b 3 29 1,bf 4]) (S (R [d 5 0 2,d 6 0 5,l 7 3 6,d 8 0 3,l 9 3 8,v 10 .eql 27 7 9 27 4,m 11 10,p 12 (d_ 3 3) 11 [],p 13 (f_ 1 12) 11 [],p 14 (d_ 0 2) 11 [],p 15 (d_ 3 14) 11 [],p 16 (f_ 1 15) 11 [],p 17 (v_ .geq 3 13 16 3 4) 11 [],x 18 11 17,m 19 18,p 20 (d_ 3 3) 19 [],p 21 (f_ 1 20) 19 [],p 22 (d_ 0 2) 19 [],p 23 (d_ 3 22) 19 [],p 24 (f_ 1 23) 19 [],p 25 (d_ 4 2) 19 [],p 26 (f_ 1 25) 19 [],p 27 (v_ .add 3 24 26 3 3) 19 [],p 28 (v_ .lss 3 21 27 3 4) 19 [],x 29 19 28,m 4 29]) N))).c
def a140:AFunc:=⟨30,c140,[.tmp 4],1⟩
def c141:ACode:=({c:=_}:TbD (S (R [b 3 25 1,n 4 0]) (S (S (R [m 6 0,k 7 6,n 8 0]) (B 0 (L (S (R [v 9 .lss 3 8 7 3 0]) (S (C 9 K (X 0)) (S (B 1 (S (R [m 10 8,m 5 10]) (S (D [l' 11 2 3 [1,2,3,4],m' 12 0 [0,2],m' 13 5 [0,1],i' 14 2 12 13 [0],l' 15 2 14 [0],v 16 .eql 25 11 15 25 4]) (C 16 (S (R [m 17 5,m 4 17]) N) K)))) (R [w 18 .add 3 8 1 3 3,m 8 18]))))))) (S (R [n 4 (-1)]) N)))).c
def a141:AFunc:=⟨19,c141,[.tmp 4],1⟩
def c142:ACode:=({c:=_}:TbD (S (R [b 3 22 0,b 4 29 1,b 5 25 2,o 6 (.mov (.const .nilFunc))]) (S (R [o 7 (.mkfn 143 [] [(t 3),(t 4),(t 5)]),m 6 7]) N))).c
def a142:AFunc:=⟨8,c142,[.tmp 6],0⟩
def c143:ACode:=({c:=_}:TbD (S (R [f 9 1 1,k 10 9,n 11 0]) (B 0 (L (S (R [v 12 .lss 3 11 10 3 0]) (S (C 12 K (X 0)) (S (B 1 (S (R [i 13 17 9 11,l 14 17 13,o 6 (.alloc 34 Z5),s 17 6 14]) (S (R [d 16 5 6,l 17 5 16,l 18 4 2,cb 19 26 17 18,m 15 19,e 20 15 0,e 21 15 1,m 7 20,m 8 21]) (S (R [d 22 0 6,f 23 1 22,o 24 (.pur (mkO (.binOp .eql 5 (t 23) (.const (.int .u8 3)) 5) 4)),m 25 24,p 26 (m_ 8) 25 [],x 27 25 26,m 28 27,p 29 (d_ 1 6) 28 [],p 30 (d_ 0 29) 28 [],p 31 (l_ 2 30) 28 [],p 32 (l_ 2 3) 28 [],p 33 (cb_ 29 31 32) 28 [],x 34 28 33,m 35 34,p 36 (m_ 0) 35 [],p 37 (d_ 14 6) 35 [],p 38 (l_ 2 37) 35 [],p 39 (.call (t 36) [(t 38)]) 35 [],p 40 (j_ 4 39 4) 35 [],x 41 35 40]) (C 41 N K))))) (R [w 42 .add 3 11 1 3 3,m 11 42])))))))).c
def a143:AFunc:=⟨43,c143,[],0⟩
def tbl:List (Option AFunc):=[none,none,none,some a3,some a4,some a5,some a6,some a7,some a8,some a9,some a10,some a11,some a12,some a13,some a14,some a15,some a16,some a17,some a18,some a19,some a20,some a21,some a22,some a23,some a24,some a25,some a26,some a27,some a28,some a29,some a30,some a31,some a32,some a33,some a34,some a35,some a36,some a37,some a38,some a39,some a40,some a41,some a42,some a43,some a44,some a45,some a46,some a47,some a48,some a49,some a50,some a51,some a52,some a53,some a54,some a55,some a56,some a57,some a58,some a59,some a60,some a61,some a62,some a63,some a64,some a65,some a66,some a67,some a68,some a69,some a70,some a71,some a72,some a73,some a74,some a75,some a76,some a77,some a78,some a79,some a80,some a81,some a82,some a83,some a84,some a85,none,some a87,some a88,some a89,some a90,some a91,some a92,some a93,some a94,some a95,some a96,some a97,some a98,some a99,some a100,some a101,some a102,some a103,some a104,some a105,some a106,some a107,some a108,some a109,some a110,some a111,some a112,some a113,some a114,some a115,some a116,some a117,some a118,some a119,some a120,some a121,some a122,some a123,some a124,some a125,some a126,some a127,some a128,some a129,some a130,some a131,some a132,some a133,some a134,some a135,some a136,some a137,some a138,some a139,some a140,some a141,some a142,some a143]
noncomputable abbrev zCN (f d n:Nat):=zAR Tryz.prog (fsT tbl) f d (.fn n)
theorem tf3:fsT tbl 3=some a3:=rfl
theorem tf4:fsT tbl 4=some a4:=rfl
theorem tf5:fsT tbl 5=some a5:=rfl
theorem tf6:fsT tbl 6=some a6:=rfl
theorem tf7:fsT tbl 7=some a7:=rfl
theorem tf8:fsT tbl 8=some a8:=rfl
theorem tf9:fsT tbl 9=some a9:=rfl
theorem tf10:fsT tbl 10=some a10:=rfl
theorem tf11:fsT tbl 11=some a11:=rfl
theorem tf12:fsT tbl 12=some a12:=rfl
theorem tf13:fsT tbl 13=some a13:=rfl
theorem tf14:fsT tbl 14=some a14:=rfl
theorem tf15:fsT tbl 15=some a15:=rfl
theorem tf16:fsT tbl 16=some a16:=rfl
theorem tf17:fsT tbl 17=some a17:=rfl
theorem tf18:fsT tbl 18=some a18:=rfl
theorem tf19:fsT tbl 19=some a19:=rfl
theorem tf20:fsT tbl 20=some a20:=rfl
theorem tf21:fsT tbl 21=some a21:=rfl
theorem tf22:fsT tbl 22=some a22:=rfl
theorem tf23:fsT tbl 23=some a23:=rfl
theorem tf24:fsT tbl 24=some a24:=rfl
theorem tf25:fsT tbl 25=some a25:=rfl
theorem tf26:fsT tbl 26=some a26:=rfl
theorem tf27:fsT tbl 27=some a27:=rfl
theorem tf28:fsT tbl 28=some a28:=rfl
theorem tf29:fsT tbl 29=some a29:=rfl
theorem tf30:fsT tbl 30=some a30:=rfl
theorem tf31:fsT tbl 31=some a31:=rfl
theorem tf32:fsT tbl 32=some a32:=rfl
theorem tf33:fsT tbl 33=some a33:=rfl
theorem tf34:fsT tbl 34=some a34:=rfl
theorem tf35:fsT tbl 35=some a35:=rfl
theorem tf36:fsT tbl 36=some a36:=rfl
theorem tf37:fsT tbl 37=some a37:=rfl
theorem tf38:fsT tbl 38=some a38:=rfl
theorem tf39:fsT tbl 39=some a39:=rfl
theorem tf40:fsT tbl 40=some a40:=rfl
theorem tf41:fsT tbl 41=some a41:=rfl
theorem tf42:fsT tbl 42=some a42:=rfl
theorem tf43:fsT tbl 43=some a43:=rfl
theorem tf44:fsT tbl 44=some a44:=rfl
theorem tf45:fsT tbl 45=some a45:=rfl
theorem tf46:fsT tbl 46=some a46:=rfl
theorem tf47:fsT tbl 47=some a47:=rfl
theorem tf48:fsT tbl 48=some a48:=rfl
theorem tf49:fsT tbl 49=some a49:=rfl
theorem tf50:fsT tbl 50=some a50:=rfl
theorem tf51:fsT tbl 51=some a51:=rfl
theorem tf52:fsT tbl 52=some a52:=rfl
theorem tf53:fsT tbl 53=some a53:=rfl
theorem tf54:fsT tbl 54=some a54:=rfl
theorem tf55:fsT tbl 55=some a55:=rfl
theorem tf56:fsT tbl 56=some a56:=rfl
theorem tf57:fsT tbl 57=some a57:=rfl
theorem tf58:fsT tbl 58=some a58:=rfl
theorem tf59:fsT tbl 59=some a59:=rfl
theorem tf60:fsT tbl 60=some a60:=rfl
theorem tf61:fsT tbl 61=some a61:=rfl
theorem tf62:fsT tbl 62=some a62:=rfl
theorem tf63:fsT tbl 63=some a63:=rfl
theorem tf64:fsT tbl 64=some a64:=rfl
theorem tf65:fsT tbl 65=some a65:=rfl
theorem tf66:fsT tbl 66=some a66:=rfl
theorem tf67:fsT tbl 67=some a67:=rfl
theorem tf68:fsT tbl 68=some a68:=rfl
theorem tf69:fsT tbl 69=some a69:=rfl
theorem tf70:fsT tbl 70=some a70:=rfl
theorem tf71:fsT tbl 71=some a71:=rfl
theorem tf72:fsT tbl 72=some a72:=rfl
theorem tf73:fsT tbl 73=some a73:=rfl
theorem tf74:fsT tbl 74=some a74:=rfl
theorem tf75:fsT tbl 75=some a75:=rfl
theorem tf76:fsT tbl 76=some a76:=rfl
theorem tf77:fsT tbl 77=some a77:=rfl
theorem tf78:fsT tbl 78=some a78:=rfl
theorem tf79:fsT tbl 79=some a79:=rfl
theorem tf80:fsT tbl 80=some a80:=rfl
theorem tf81:fsT tbl 81=some a81:=rfl
theorem tf82:fsT tbl 82=some a82:=rfl
theorem tf83:fsT tbl 83=some a83:=rfl
theorem tf84:fsT tbl 84=some a84:=rfl
theorem tf85:fsT tbl 85=some a85:=rfl
theorem tf87:fsT tbl 87=some a87:=rfl
theorem tf88:fsT tbl 88=some a88:=rfl
theorem tf89:fsT tbl 89=some a89:=rfl
theorem tf90:fsT tbl 90=some a90:=rfl
theorem tf91:fsT tbl 91=some a91:=rfl
theorem tf92:fsT tbl 92=some a92:=rfl
theorem tf93:fsT tbl 93=some a93:=rfl
theorem tf94:fsT tbl 94=some a94:=rfl
theorem tf95:fsT tbl 95=some a95:=rfl
theorem tf96:fsT tbl 96=some a96:=rfl
theorem tf97:fsT tbl 97=some a97:=rfl
theorem tf98:fsT tbl 98=some a98:=rfl
theorem tf99:fsT tbl 99=some a99:=rfl
theorem tf100:fsT tbl 100=some a100:=rfl
theorem tf101:fsT tbl 101=some a101:=rfl
theorem tf102:fsT tbl 102=some a102:=rfl
theorem tf103:fsT tbl 103=some a103:=rfl
theorem tf104:fsT tbl 104=some a104:=rfl
theorem tf105:fsT tbl 105=some a105:=rfl
theorem tf106:fsT tbl 106=some a106:=rfl
theorem tf107:fsT tbl 107=some a107:=rfl
theorem tf108:fsT tbl 108=some a108:=rfl
theorem tf109:fsT tbl 109=some a109:=rfl
theorem tf110:fsT tbl 110=some a110:=rfl
theorem tf111:fsT tbl 111=some a111:=rfl
theorem tf112:fsT tbl 112=some a112:=rfl
theorem tf113:fsT tbl 113=some a113:=rfl
theorem tf114:fsT tbl 114=some a114:=rfl
theorem tf115:fsT tbl 115=some a115:=rfl
theorem tf116:fsT tbl 116=some a116:=rfl
theorem tf117:fsT tbl 117=some a117:=rfl
theorem tf118:fsT tbl 118=some a118:=rfl
theorem tf119:fsT tbl 119=some a119:=rfl
theorem tf120:fsT tbl 120=some a120:=rfl
theorem tf121:fsT tbl 121=some a121:=rfl
theorem tf122:fsT tbl 122=some a122:=rfl
theorem tf123:fsT tbl 123=some a123:=rfl
theorem tf124:fsT tbl 124=some a124:=rfl
theorem tf125:fsT tbl 125=some a125:=rfl
theorem tf126:fsT tbl 126=some a126:=rfl
theorem tf127:fsT tbl 127=some a127:=rfl
theorem tf128:fsT tbl 128=some a128:=rfl
theorem tf129:fsT tbl 129=some a129:=rfl
theorem tf130:fsT tbl 130=some a130:=rfl
theorem tf131:fsT tbl 131=some a131:=rfl
theorem tf132:fsT tbl 132=some a132:=rfl
theorem tf133:fsT tbl 133=some a133:=rfl
theorem tf134:fsT tbl 134=some a134:=rfl
theorem tf135:fsT tbl 135=some a135:=rfl
theorem tf136:fsT tbl 136=some a136:=rfl
theorem tf137:fsT tbl 137=some a137:=rfl
theorem tf138:fsT tbl 138=some a138:=rfl
theorem tf139:fsT tbl 139=some a139:=rfl
theorem tf140:fsT tbl 140=some a140:=rfl
theorem tf141:fsT tbl 141=some a141:=rfl
theorem tf142:fsT tbl 142=some a142:=rfl
theorem tf143:fsT tbl 143=some a143:=rfl
theorem zB00{p:Prop}(h:p:=by
 refine zAZ (I:=fun n t N => ∃ (i:Nat),n=m - i∧i≤m∧nth zA1 t 0=a∧nth zA1 t 3 = .ptr 0 0∧nth zA1 t 40=I64 m∧nth zA1 t 41=I64 i∧Wf N∧N.get 0=some (.row false (rnR x ra))∧(∀ j,j<i→zBG l (x.sp.at (j:Nat))=none)∧N.size≤i+1) (n:=m) (by omega) ?_ ?_
 ·refine⟨0,rfl,Nat.zero_le _, ?_, ?_, ?_, ?_,Wf.mem0.add _,by simp (disch:=try exact SX) only[RV,seval,zA0],(fun _ h=>absurd h (by omega)),Nat.le_refl _⟩ <;> simp (disch:=try exact SX) only[RV,seval,zA0,h0,h1,hmn]
  all_goals first | rfl | assumption | done
 ·rintro n t N hlt ⟨i,rfl,hi,g0,g3,g40,g41,w,g,hj,sz⟩
  simp only[ht] at hlt ⊢
  have lg:=Mem.get_lt g
  by_cases hc:i<m
  ·have q1:decide ((i:Int)<m)=true:=DT
   have w1:IntKind.i64.wrap ((i:Int)+1)=((i+1:Nat):Int):=WI
   have iai:=ia i hc
   have hwi:=hwh (x.sp.at (i:Nat))
   cases hwl:zBG l (x.sp.at (i:Nat)) with
   | some p =>
    have e2:putE l x=2:=by rw[hiE,if_pos ⟨i,by omega,by rw[hwl];simp⟩]
    have er:insR l x=[]:=by unfold insR;rw[e2];rfl
    rw[hwl] at hwi
    have qp:decide ((0:Int)≤((p.1:Nat):Int))=true:=DT
    rw[e2,er]
    simp (disch:=try exact SX) only[RV,seval,zA0,g0,g3,g40,g41,hS.fz.rows,hS.fz.one,hS.fz.cells,hS.fz.icy,hS.fz.frz,hR.fz.rows,hR.fz.one,hR.fz.cells,hR.fz.icy,hR.fz.frz,q1,iai,g,w,hwi,wN,wK,qp]
    exact⟨hpz _,NIL,rfl,NK.ND.nil _ _⟩
   | none =>
    rw[hwl] at hwi
    simp (disch:=try exact SX) only[RV,seval,zA0,g0,g3,g40,g41,hS.fz.rows,hS.fz.one,hS.fz.cells,hS.fz.icy,hS.fz.frz,hR.fz.rows,hR.fz.one,hR.fz.cells,hR.fz.icy,hR.fz.frz,q1,iai,g,w,hwi,wN,wK,qg1,w1]
    refine⟨hlt,m - (i+1),by omega,i+1,rfl,by omega,rfl,fun j hj'=>?_,by omega⟩
    rcases Nat.lt_succ_iff_lt_or_eq.1 hj' with h | rfl
    ·exact hj j h
    ·exact hwl
  ·obtain rfl:i=m:=by omega
   have q1:decide ((i:Int)<i)=false:=DF
   have hno:¬∃ j:Nat,(j:Int)<x.sp.n∧zBG l (x.sp.at j)≠none:=fun⟨j,h1,h2⟩=>h2 (hj j (by omega))
   rw[if_neg hno] at hiE
   have hct:=fun M=>@zIF fuel (d+9) a l hS hok.1 (by omega) (by omega) M
   have hcl:=zEW hok.1
   have w2:IntKind.i64.wrap (zBB l+x.sp.n)=zBB l+x.sp.n:=WI
   by_cases h4:8192<zBB l+x.sp.n
   ·have e4:putE l x=4:=by rw[hiE,if_pos h4]
    have er:insR l x=[]:=by unfold insR;rw[e4];rfl
    have q4:decide (8192<zBB l+x.sp.n)=true:=decide_eq_true h4
    rw[e4,er]
    simp (disch:=try exact SX) only[RV,seval,zA0,g0,g3,g40,g41,hS.fz.rows,hS.fz.one,hS.fz.cells,hS.fz.icy,hS.fz.frz,hR.fz.rows,hR.fz.one,hR.fz.cells,hR.fz.icy,hR.fz.frz,q1,g,w,hct,w2,q4,zAP]
    exact⟨hpz _,NIL,rfl,NK.ND.nil _ _⟩
   ·have e0:putE l x=0:=by rw[hiE,if_neg h4]
    have er:insR l x=insL l x:=by unfold insR;rw[if_pos e0]
    have q4:decide (8192<zBB l+x.sp.n)=false:=decide_eq_false h4
    obtain⟨r',hr',hpart⟩:=zNJ (fuel:=fuel) (d:=d+2) hS hok.1 hx6 (by omega) (by omega)
    obtain⟨p1,p2,p3,p4⟩:=zOY hok.1 hx6
    have hpl:=zLO l x.af
    have hsk:=zW3 (x:=x.sp.f) p1
    have hss:=fun h=>@zNV (zBE l x.af).1 x.sp.f (zBE l x.af).2 h
    have hmt:=fun D hD i=>@zQN (zBE l x.af).1 x (zBE l x.af).2 D hD i
    have eL:insL l x=zBV ((zBE l x.af).1.take (zFL (zBE l x.af).1 x.sp.f (zBE l x.af).2)++[x]++(zBE l x.af).1.drop (zFL (zBE l x.af).1 x.sp.f (zBE l x.af).2)):=rfl
    unfold zFL at hsk hss eL
    rw[e0,er,eL]
    generalize hD:((zBE l x.af).1.drop (zBE l x.af).2).takeWhile (fun q=>x.sp.f.less q.sp.f)=D at *
    have hmt:=fun i=>hmt D rfl (i:=i)
    generalize (zBE l x.af).1=l' at *
    generalize (zBE l x.af).2=n0 at *
    have or':=hr'.one
    have lr':=hr'.len
    simp (disch:=try exact SX) only[RV,seval,zA0,g0,g3,g40,g41,hS.fz.rows,hS.fz.one,hS.fz.cells,hS.fz.icy,hS.fz.frz,hR.fz.rows,hR.fz.one,hR.fz.cells,hR.fz.icy,hR.fz.frz,q1,g,w,hct,w2,q4,zAP,hpart,hr'.fz.rows,hr'.fz.one,hr'.fz.cells,hr'.fz.icy,hr'.fz.frz]
    refine zAZ (I:=fun n2 t2 N2 => ∃ (i2:Nat),n2=l'.length - n0 - i2∧i2≤l'.length - n0∧nth zA1 t2 0=r'∧nth zA1 t2 3 = .ptr 0 0∧nth zA1 t2 14=I64 ((n0+i2:Nat):Int)∧Wf N2∧N2.size≤70∧N2.get 0=some (.row false (rnR x ra))∧i2≤D.length) (n:=l'.length - n0) (by omega) ?_ ?_
    ·refine⟨0,rfl,Nat.zero_le _, ?_, ?_, ?_,w,by omega,g,Nat.zero_le _⟩ <;> simp (disch:=try exact SX) only[RV,seval,zA0,g0,g3,Nat.add_zero]
     all_goals first | rfl | assumption | done
    ·rintro n2 t2 N2 hlt2 ⟨i2,rfl,hi2,g20,g23,g214,wf2,sz2,gg,hi2⟩
     simp only[hlt] at hlt2 ⊢
     have lgg:=Mem.get_lt gg
     by_cases hc2:n0+i2<l'.length
     ·have q2:decide (((n0+i2:Nat):Int)<l'.length)=true:=DT
      have w3:IntKind.i64.wrap (((n0+i2:Nat):Int)+1)=((n0+(i2+1):Nat):Int):=WI
      obtain⟨r2,hiad2,hre,hrl2⟩:=hr'.iad (n0+i2) hc2
      by_cases hd2:i2<D.length
      ·have hlt3:=(hmt i2 hd2 hc2).1
       generalize l'[n0+i2]=e2 at *
       obtain⟨rb,rfl,hrb,_⟩:=hre
       have orb:=hrb.one
       have hls:=fun M=>@zFC fuel (d+8) x.sp.f e2.sp.f M
       rw[hlt3] at hls
       simp (disch:=try exact SX) only[RV,seval,zA0,g20,g23,g214,hr'.fz.rows,hr'.fz.one,hr'.fz.cells,hr'.fz.icy,hr'.fz.frz,hR.fz.rows,hR.fz.one,hR.fz.cells,hR.fz.icy,hR.fz.frz,q2,lr',hiad2,hrb.fz.rows,hrb.fz.one,hrb.fz.cells,hrb.fz.icy,hrb.fz.frz,gg,wf2,hls,w3,zAP]
       exact⟨hlt2,l'.length - n0 - (i2+1),by omega,i2+1,rfl,by omega,rfl,by omega⟩
      ·obtain rfl:i2=D.length:=by omega
       have hlt3:=hss hc2
       generalize l'[n0+D.length]=e2 at *
       obtain⟨rb,rfl,hrb,_⟩:=hre
       have orb:=hrb.one
       have hls:=fun M=>@zFC fuel (d+8) x.sp.f e2.sp.f M
       rw[hlt3] at hls
       simp (disch:=try exact SX) only[RV,seval,zA0,g20,g23,g214,hr'.fz.rows,hr'.fz.one,hr'.fz.cells,hr'.fz.icy,hr'.fz.frz,hR.fz.rows,hR.fz.one,hR.fz.cells,hR.fz.icy,hR.fz.frz,q2,lr',hiad2,hrb.fz.rows,hrb.fz.one,hrb.fz.cells,hrb.fz.icy,hrb.fz.frz,gg,wf2,hls,zAP]
       refine zKY zFI.cel tf50 Tryz.underlying38 hr' (by omega) (by omega) (by simp (disch:=try exact SX) only[RV,seval,zA0,wf2]) fun o3 M3 wf3 le3 kp3 sn3 nr3 wm3 di3 sz3=>?_
       have hd3:M3.dirty=false:=di3
       have z0:M3.get 0=some (.row false (rnR x ra)):=(kp3 0 lgg).trans gg
       have lz0:=Mem.get_lt z0
       have sm3:=sn3.slm
       have on3:=sm3.one
       have oc3:=sm3.cells
       have rl3:=zAN sm3.rl (Nat.le_refl M3.size)
       have rl3':=zAN sm3.rl (Nat.le_succ M3.size)
       simp (disch:=try exact SX) only[RV,seval,zA0,g20,g23,g214,hd3,wf3,z0,on3,oc3,rl3,rl3',hR.fz.rows,hR.fz.one,hR.fz.cells,hR.fz.icy,hR.fz.frz,za7,zAP]
       have sz3':M3.size≤N2.size+2:=sz3
       have hb0:Nat.ble N2.size 0=false:=by
        cases hb:Nat.ble N2.size 0 with
        | false=>rfl
        | true=>have:=Nat.le_of_ble_eq_true hb;omega
       refine⟨by simp [zBC,FP.apart,FP.reads,FP.writes,hb0],by simp [zBC,FP.apart,FP.reads,FP.writes], ?_⟩
       have eX:((N2.bk M3).add (.row false (rnR x ra))).lo=(⟨M3.t,M3.size,M3.size+1,false⟩:Mem).add (.row false (rnR x ra)):=rfl
       show W3 (insO _ (((N2.bk M3).add (.row false (rnR x ra))).lo) 49 10 80 o3 (I64 ((n0+D.length:Nat):Int)) (.sl M3.size 0 1 (some 1) 10)) _
       rw[eX]
       have wX:Wf (⟨M3.t,M3.size,M3.size+1,false⟩:Mem):=wf3
       have sX:(⟨M3.t,M3.size,M3.size+1,false⟩:Mem).size=M3.size:=rfl
       have snX:SlN (⟨M3.t,M3.size,M3.size+1,false⟩:Mem) 10 isRn o3 l':=sn3
       generalize (⟨M3.t,M3.size,M3.size+1,false⟩:Mem)=X3 at *
       have key:W3 (insO (zAR Tryz.prog (fsT tbl) fuel (d+10)) (X3.add (.row false (rnR x ra))) 49 10 80 o3 (I64 ((n0+D.length:Nat):Int)) (.sl M3.size 0 1 (some 1) 10)) (fun o4 M4=>SlM M4 10 isRn o4 (l'.take (n0+D.length)++[x]++l'.drop (n0+D.length))∧Wf M4):=by
        rw[← sX]
        by_cases hz:l'=[]
        ·subst hz
         have e0:n0+D.length=0:=by simp only[List.length_nil] at hsk;omega
         rw[e0]
         have hc0:((0:Nat):Int)=0:=rfl
         rw[hc0]
         have h0':W3 (zCN fuel (d+10) 49 [o3,I64 0,.sl X3.size 0 1 (some 1) 10] (X3.add (.row false (rnR x ra)))) (fun o4 M4=>SlM M4 10 isRn o4 [x]∧Wf M4):=zQC (d:=d+9) wX snX ⟨ra,rfl,hR,hx⟩ rfl (fun o' M' a b _ _ _ _=>⟨a,b⟩)
         have e1:insO (zAR Tryz.prog (fsT tbl) fuel (d+10)) (X3.add (.row false (rnR x ra))) 49 10 80 o3 (I64 0) (.sl X3.size 0 1 (some 1) 10)=zCN fuel (d+10) 49 [o3,I64 0,.sl X3.size 0 1 (some 1) 10] (X3.add (.row false (rnR x ra))):=by
          rcases snX with⟨_,rfl | ⟨id,rfl,_⟩⟩ | ⟨hn,_⟩
          ·exact zLF ..
          ·exact zLE ..
          ·exact absurd rfl hn
         rw[e1]
         exact h0'
        ·exact snX.ins (bytes:=80) (g:=49) wX hz zFI.cel ⟨ra,rfl,hR,hx⟩ rfl (by omega) (by omega) (by omega) (by omega) (by omega) fun o' M' a b _ _ _=>⟨a,b⟩
       obtain⟨o4,M4,he4,sm4,wf4⟩:=key
       rw[he4]
       clear he4 eX hmt hss snX sn3 sm3 kp3 hno hwh hwa hck hcx hcl ia hj hpart hct
       have on4:=sm4.one
       have oc4:=sm4.cells
       have rl4:=zAN sm4.rl (Nat.le_refl M4.size)
       simp (disch:=try exact SX) only[RV,seval,zA0,g20,g23,g214,wf4,on4,oc4,rl4,zAP]
       refine zI1 (d:=d+1) (sm4.keep fun _ _=>rfl) (by simp only[List.length_append,List.length_take,List.length_drop,List.length_singleton];omega) (fun q hq=>?_) (by simp only[List.length_append,List.length_take,List.length_drop,List.length_singleton];omega) (show Wf _ from wf4) fun r X' kX' hr=>?_
       ·have hq64:q.rs.length≤64:=by
         rcases List.mem_append.1 hq with hq | hq
         ·rcases List.mem_append.1 hq with hq | hq
          ·exact zFN p2 q (List.mem_of_mem_take hq)
          ·rw[List.mem_singleton] at hq;subst hq
           exact(Rn.may_iff.1 hxm).2.2.2.1
         ·exact zFN p2 q (List.mem_of_mem_drop hq)
        omega
       ·obtain⟨or5,oc5,rl5,_,pu5,_⟩:=ND.lr hr
        have wX':=kX'.wf
        have rl5:=zAN rl5 (Nat.le_refl X'.size)
        simp (disch:=try exact SX) only[RV,seval,zA0,g20,g23,g214,wX',or5,oc5,rl5,zAP]
        exact⟨by simp [purA,purL,pu5],r,rfl,(ND.mono hr (Nat.zero_le _)).keep fun _ _ _=>rfl⟩
     ·obtain rfl:i2=D.length:=by omega
      have q2:decide (((n0+D.length:Nat):Int)<l'.length)=false:=DF
      simp (disch:=try exact SX) only[RV,seval,zA0,g20,g23,g214,hr'.fz.rows,hr'.fz.one,hr'.fz.cells,hr'.fz.icy,hr'.fz.frz,hR.fz.rows,hR.fz.one,hR.fz.cells,hR.fz.icy,hR.fz.frz,q2,lr',gg,wf2,zAP]
      refine zKY zFI.cel tf50 Tryz.underlying38 hr' (by omega) (by omega) (by simp (disch:=try exact SX) only[RV,seval,zA0,wf2]) fun o3 M3 wf3 le3 kp3 sn3 nr3 wm3 di3 sz3=>?_
      have hd3:M3.dirty=false:=di3
      have z0:M3.get 0=some (.row false (rnR x ra)):=(kp3 0 lgg).trans gg
      have lz0:=Mem.get_lt z0
      have sm3:=sn3.slm
      have on3:=sm3.one
      have oc3:=sm3.cells
      have rl3:=zAN sm3.rl (Nat.le_refl M3.size)
      have rl3':=zAN sm3.rl (Nat.le_succ M3.size)
      simp (disch:=try exact SX) only[RV,seval,zA0,g20,g23,g214,hd3,wf3,z0,on3,oc3,rl3,rl3',hR.fz.rows,hR.fz.one,hR.fz.cells,hR.fz.icy,hR.fz.frz,za7,zAP]
      have sz3':M3.size≤N2.size+2:=sz3
      have hb0:Nat.ble N2.size 0=false:=by
       cases hb:Nat.ble N2.size 0 with
       | false=>rfl
       | true=>have:=Nat.le_of_ble_eq_true hb;omega
      refine⟨by simp [zBC,FP.apart,FP.reads,FP.writes,hb0],by simp [zBC,FP.apart,FP.reads,FP.writes], ?_⟩
      have eX:((N2.bk M3).add (.row false (rnR x ra))).lo=(⟨M3.t,M3.size,M3.size+1,false⟩:Mem).add (.row false (rnR x ra)):=rfl
      show W3 (insO _ (((N2.bk M3).add (.row false (rnR x ra))).lo) 49 10 80 o3 (I64 ((n0+D.length:Nat):Int)) (.sl M3.size 0 1 (some 1) 10)) _
      rw[eX]
      have wX:Wf (⟨M3.t,M3.size,M3.size+1,false⟩:Mem):=wf3
      have sX:(⟨M3.t,M3.size,M3.size+1,false⟩:Mem).size=M3.size:=rfl
      have snX:SlN (⟨M3.t,M3.size,M3.size+1,false⟩:Mem) 10 isRn o3 l':=sn3
      generalize (⟨M3.t,M3.size,M3.size+1,false⟩:Mem)=X3 at *
      have key:W3 (insO (zAR Tryz.prog (fsT tbl) fuel (d+10)) (X3.add (.row false (rnR x ra))) 49 10 80 o3 (I64 ((n0+D.length:Nat):Int)) (.sl M3.size 0 1 (some 1) 10)) (fun o4 M4=>SlM M4 10 isRn o4 (l'.take (n0+D.length)++[x]++l'.drop (n0+D.length))∧Wf M4):=by
       rw[← sX]
       by_cases hz:l'=[]
       ·subst hz
        have e0:n0+D.length=0:=by simp only[List.length_nil] at hsk;omega
        rw[e0]
        have hc0:((0:Nat):Int)=0:=rfl
        rw[hc0]
        have h0':W3 (zCN fuel (d+10) 49 [o3,I64 0,.sl X3.size 0 1 (some 1) 10] (X3.add (.row false (rnR x ra)))) (fun o4 M4=>SlM M4 10 isRn o4 [x]∧Wf M4):=zQC (d:=d+9) wX snX ⟨ra,rfl,hR,hx⟩ rfl (fun o' M' a b _ _ _ _=>⟨a,b⟩)
        have e1:insO (zAR Tryz.prog (fsT tbl) fuel (d+10)) (X3.add (.row false (rnR x ra))) 49 10 80 o3 (I64 0) (.sl X3.size 0 1 (some 1) 10)=zCN fuel (d+10) 49 [o3,I64 0,.sl X3.size 0 1 (some 1) 10] (X3.add (.row false (rnR x ra))):=by
         rcases snX with⟨_,rfl | ⟨id,rfl,_⟩⟩ | ⟨hn,_⟩
         ·exact zLF ..
         ·exact zLE ..
         ·exact absurd rfl hn
        rw[e1]
        exact h0'
       ·exact snX.ins (bytes:=80) (g:=49) wX hz zFI.cel ⟨ra,rfl,hR,hx⟩ rfl (by omega) (by omega) (by omega) (by omega) (by omega) fun o' M' a b _ _ _=>⟨a,b⟩
      obtain⟨o4,M4,he4,sm4,wf4⟩:=key
      rw[he4]
      clear he4 eX hmt hss snX sn3 sm3 kp3 hno hwh hwa hck hcx hcl ia hj hpart hct
      have on4:=sm4.one
      have oc4:=sm4.cells
      have rl4:=zAN sm4.rl (Nat.le_refl M4.size)
      simp (disch:=try exact SX) only[RV,seval,zA0,g20,g23,g214,wf4,on4,oc4,rl4,zAP]
      refine zI1 (d:=d+1) (sm4.keep fun _ _=>rfl) (by simp only[List.length_append,List.length_take,List.length_drop,List.length_singleton];omega) (fun q hq=>?_) (by simp only[List.length_append,List.length_take,List.length_drop,List.length_singleton];omega) (show Wf _ from wf4) fun r X' kX' hr=>?_
      ·have hq64:q.rs.length≤64:=by
        rcases List.mem_append.1 hq with hq | hq
        ·rcases List.mem_append.1 hq with hq | hq
         ·exact zFN p2 q (List.mem_of_mem_take hq)
         ·rw[List.mem_singleton] at hq;subst hq
          exact(Rn.may_iff.1 hxm).2.2.2.1
        ·exact zFN p2 q (List.mem_of_mem_drop hq)
       omega
      ·obtain⟨or5,oc5,rl5,_,pu5,_⟩:=ND.lr hr
       have wX':=kX'.wf
       have rl5:=zAN rl5 (Nat.le_refl X'.size)
       simp (disch:=try exact SX) only[RV,seval,zA0,g20,g23,g214,wX',or5,oc5,rl5,zAP]
       exact⟨by simp [purA,purL,pu5],r,rfl,(ND.mono hr (Nat.zero_le _)).keep fun _ _ _=>rfl⟩):p:=h
theorem zB01{p:Prop}(h:p:=by
 by_cases c5:x.1∈pre.map (·.1)
 ·simp only[c5,if_true] at hlk
  simp (disch:=try exact SX) only[RV,seval,zA0,g2,g3,g4,g5,g6,g7,hne,oo',y0,y1,y3,ya,yb,yc,wY,↓pIdE,zAA,↓pIdN,zA9,↓pHdE,zAB,↓pHdN,zAC,↓pLbE,zA8,↓pLbN,zAD,↓pSpE,zAE,↓pSpN,zAF,ETA,c2,c3,hls,x_lk,hlk,z01,z0lt]
  have os:OS tm ((Y.upd 0 (.row false [BL false])).upd 6 (.loop .done (some .ret) tm [12,13] cO1 cO2 5)):=by
   refine⟨(wY.upd _ _).upd _ _,by simp only[zAH];omega, ?_, ?_, ?_⟩
   ·rw[zA2 (wY.upd _ _) _ _ _ (by omega)]
    exact zAI wY _ _ l0
   ·rw[zA2 (wY.upd _ _) _ _ _ (by omega),zA2 wY _ _ _ (by omega)]
    exact(yj 5 (by omega) (by omega) (by omega)).trans h.g5
   ·exact zAI (wY.upd _ _) _ _ (by simp only[zAH];omega)
  refine⟨_,_,_,_,_,_,_,y6,.inr (.inr ?_)⟩
  first
  | exact os
  | exact⟨os,by simp [*]⟩
 ·simp only[c5,if_false] at hlk
  simp (disch:=try exact SX) only[RV,seval,zA0,g2,g3,g4,g5,g6,g7,hne,oo',y0,y1,y3,ya,yb,yc,wY,↓pIdE,zAA,↓pIdN,zA9,↓pHdE,zAB,↓pHdN,zAC,↓pLbE,zA8,↓pLbN,zAD,↓pSpE,zAE,↓pSpN,zAF,ETA,c2,c3,hls,x_lk,hlk,z01,z0lt,x_mu]
  refine zN4 zLB wY l2 y2 hset x.1 fun obj' hset'=>?_
  simp only[c5,if_false] at hset'
  simp (disch:=try exact SX) only[RV,seval,zA0,g2,g3,g4,g5,g6,g7,oo',y1,y3,ya,yb,yc,wY]
  refine⟨spY.rows (by omega),SlP.app1 (bytes:=24) (x:=x.1) (wY.upd 2 obj') (spY.keep fun j hj=>zA2 wY _ _ _ (by have:=(ro j (ro' ▸ hj)).2;omega)) zHZ ⟨rfl,hx⟩ rfl (by omega) (by rw[List.length_reverse];omega) (by rw[List.length_reverse];omega) fun o2 M2 sp2 w2 le2 kp2 nw2 rl2 on2 oc2=>?_⟩
  rw[zAH] at le2 kp2 nw2
  have hS:ordS x (stk pre) (pre.map (·.1))=true:=by
   unfold ordS
   rw[hpop]
   simp [*]
  have hst:(stk (pre++[x])).reverse=q.reverse++[x.1]:=by rw[zEJ,hpop,List.reverse_cons]
  have ro2:∀ j,rowOf o'=some j→O j∧7≤j:=fun j hj=>ro j (ro' ▸ hj)
  have k2:∀ j,j<M.size→j≠1→j≠2→j≠6→rowOf o'≠some j→M2.get j=M.get j:=fun j a b c e f=>by
   rw[kp2 j (by omega) f,zA2 wY _ _ _ (fun e=>c e.symm)]
   exact yj j a b e
  have m6:M2.get 6=some (.loop .busy none tm [12,13] cO1 cO2 5):=by
   rw[kp2 6 (by omega) (fun e=>by have:=(ro2 6 e).2;omega),zA2 wY _ _ _ (by omega)]
   exact y6
  have m2:M2.get 2=some obj':=by
   rw[kp2 2 (by omega) (fun e=>by have:=(ro2 2 e).2;omega)]
   exact zAI wY _ _ l2
  have m1:1<M2.size:=by omega
  have n1:M2.get 1=some (.row false [o']):=by
   rw[kp2 1 (by omega) (fun e=>by have:=(ro2 1 e).2;omega),zA2 wY _ _ _ (by omega)]
   exact y1
  simp (disch:=try exact SX) only[RV,seval,zA0,g2,g3,g4,g5,g6,g7,on2,oc2,rl2,w2,m6,n1]
  have yl:Yl (OI tm) (pre++[x]) O B M ((M2.upd 1 (.row false [o2])).upd 6 (.loop .ready none tm [12,13] cO1 cO2 5)):=by
   have wZ:=w2.upd 1 (.row false [o2])
   have zk:∀ j,j≠1→j≠6→((M2.upd 1 (.row false [o2])).upd 6 (.loop .ready none tm [12,13] cO1 cO2 5)).get j=M2.get j:=fun j a b=>by
    rw[zA2 wZ _ _ _ (fun e=>b e.symm),zA2 w2 _ _ _ (fun e=>a e.symm)]
   have nro:∀ j,j<7→rowOf o'≠some j:=fun j hj e=>by have:=(ro2 j e).2;omega
   have no2:∀ j,rowOf o2=some j→7≤j∧(O j∨M.size≤j):=fun j hj=>by
    rcases nw2 j hj with e | e
    ·exact⟨(ro2 j e).2,.inl (ro2 j e).1⟩
    ·exact⟨by omega,.inr (by omega)⟩
   refine⟨⟨fun j=>O j∨rowOf o2=some j,⟨wZ.upd _ _,by simp only[zAH];omega, ?_,⟨o2, ?_, ?_,fun j hj=>⟨.inr hj,(no2 j hj).1⟩⟩,⟨obj', ?_, ?_⟩, ?_, ?_, ?_,.inl h.o1,.inl h.o2,.inl h.o6, ?_,h.od.snoc hS⟩, ?_⟩,wZ.upd _ _,by simp only[zAH];omega, ?_⟩
   ·rw[zk 0 (by omega) (by omega),k2 0 (by omega) (by omega) (by omega) (by omega) (nro 0 (by omega))];exact h.g0
   ·rw[zA2 wZ _ _ _ (by omega)];exact zAI w2 _ _ m1
   ·rw[hst]
    exact sp2.keep fun j hj=>zk j (by have:=(no2 j hj).1;omega) (by have:=(no2 j hj).1;omega)
   ·rw[zk 2 (by omega) (by omega)];exact m2
   ·rw[List.map_append];exact hset'
   ·rw[zk 3 (by omega) (by omega),k2 3 (by omega) (by omega) (by omega) (by omega) (nro 3 (by omega))];exact h.g3
   ·rw[zk 5 (by omega) (by omega),k2 5 (by omega) (by omega) (by omega) (by omega) (nro 5 (by omega))];exact h.g5
   ·exact zAI wZ _ _ (by simp only[zAH];omega)
   ·intro j hj
    simp only[zAH]
    rcases hj with hj | hj
    ·exact⟨by have:=(h.ol j hj).1;omega,(h.ol j hj).2⟩
    ·exact⟨sp2.lt j hj,.inr (.inr (by have:=(no2 j hj).1;omega))⟩
   ·rintro j (hj | hj)
    ·exact .inl hj
    ·exact(no2 j hj).2
   ·intro j hj hO
    have h1:j≠1:=fun e=>hO (e ▸ h.o1)
    have h2:j≠2:=fun e=>hO (e ▸ h.o2)
    have h6:j≠6:=fun e=>hO (e ▸ h.o6)
    rw[zk j h1 h6]
    exact k2 j hj h1 h2 h6 fun e=>hO (ro2 j e).1
  exact⟨_,_,_,_,_,_,_,rfl,.inl (.inl yl)⟩):p:=h
theorem zB02{p:Prop}(h:p:=by
 have l0:=Mem.get_lt g0
 have l1:=Mem.get_lt g1
 simp (disch:=try exact SX) only[RV,seval,zA0,h0,h1,qs,g0,g1,hof,hR.fz.rows,hR.fz.one,hR.fz.cells,hR.fz.icy,hR.fz.frz,o2,c2]
 by_cases q1:rofE o=0
 ·have k2:=(kN.add (.row false (rnR ⟨⟨Eid.z,0⟩,Eid.z,[]⟩ NIL))).upd hw kN.le (.row false (rnR rn r2))
  have z0:((N.add (.row false (rnR ⟨⟨Eid.z,0⟩,Eid.z,[]⟩ NIL))).upd N.size (.row false (rnR rn r2))).get M.size=some (.row false [.ptr id 0]):=by
   rw[zA2 (wN.add _) _ _ _ (by omega),zAK wN _ _ l0];exact g0
  have z1:((N.add (.row false (rnR ⟨⟨Eid.z,0⟩,Eid.z,[]⟩ NIL))).upd N.size (.row false (rnR rn r2))).get (M.size+1)=some (.row false (opR o ra)):=by
   rw[zA2 (wN.add _) _ _ _ (by omega),zAK wN _ _ l1];exact g1
  have q1':decide (rofE o=0)=true:=decide_eq_true q1
  simp (disch:=try exact SX) only[RV,seval,zA0,h0,h1,qs,g0,g1,hof,hR.fz.rows,hR.fz.one,hR.fz.cells,hR.fz.icy,hR.fz.frz,hr.fz.rows,hr.fz.one,hr.fz.cells,hr.fz.icy,hr.fz.frz,o2,c2,q1',hn]
  generalize ((N.add (.row false (rnR ⟨⟨Eid.z,0⟩,Eid.z,[]⟩ NIL))).upd N.size (.row false (rnR rn r2)))=X2 at *
  have w2:=k2.wf
  have s2:=k2.le
  have hH2:IsHist X2 B id m ops l:=hH.keep fun j hj=>k2.get j hj
  have m0:=Mem.get_lt z0
  refine zY2 (st:=4) (ag:=true) (n:=d+6) (first:=[]) (cap:=[.ptr M.size 0]) tf104 tf127 (by simp) zGE hr (by omega) (by omega) (p:=fun x=>decide (x∈zB5 l)) w2 (fun n hn=>by simp (disch:=try exact SX) only[RV,seval,zA0]) (fun r x hr _ N Q' hk hQ=>?_) fun N3 h3=>?_
  ·obtain⟨rfl,_⟩:=hr
   refine zaM (d:=d+5) (B:=B) (m:=m) (ops:=ops) (hH2.keep fun j hj=>hk.get j hj) hk.wf ((hk.get _ m0).trans z0) fun N' hk'=>hQ N' (hk.trans hk')
  ·have k3:=k2.trans h3
   have y0:=(h3.get _ m0).trans z0
   have y1:=(h3.get _ (Mem.get_lt z1)).trans z1
   have w3:=h3.wf
   have hH3:IsHist N3 B id m ops l:=hH.keep fun j hj=>k3.get j hj
   have hg3:=hH3.hg
   have li3:=Mem.get_lt hg3
   have n0:=Mem.get_lt y0
   have n1:=Mem.get_lt y1
   obtain⟨obj,mg,hset⟩:=hH3.mg
   have lm:=Mem.get_lt mg
   have hml:=zb0 mg hset
   cases q2:o.sp.ids.any fun x=>decide (x∈zB5 l) with
   | true =>
    rw[if_pos (.inr q2)] at k
    simp (disch:=try exact SX) only[RV,seval,zA0,h0,h1]
    exact k _ k3
   | false =>
    rw[if_neg (by simp [q1,q2])] at k
    have w1:IntKind.i64.wrap (((zB5 l).length:Int)+o.sp.n)=((zB5 l).length:Int)+o.sp.n:=wrap_i64 (by omega) (by omega)
    by_cases q3:8192<((zB5 l).length:Int)+o.sp.n
    ·rw[if_pos q3] at k
     have q3':=decide_eq_true q3
     simp (disch:=try exact SX) only[RV,seval,zA0,h0,h1,y0,y1,hg3,x_ml,hml,w1,q3']
     exact k _ k3
    ·rw[if_neg q3] at k
     have q3':=decide_eq_false q3
     simp (disch:=try exact SX) only[RV,seval,zA0,h0,h1,y0,y1,hg3,x_ml,hml,w1,q3']
     exact k _ k3
 ·have q1':decide (rofE o=0)=false:=decide_eq_false q1
  rw[if_pos (.inl q1)] at k
  simp (disch:=try exact SX) only[RV,seval,zA0,h0,h1,qs,g0,g1,hof,hR.fz.rows,hR.fz.one,hR.fz.cells,hR.fz.icy,hR.fz.frz,o2,c2,q1']
  exact k _ ((kN.add _).upd hw kN.le _)):p:=h
theorem zB03{p:Prop}(h:p:=by
 refine zDM (fuel:=fuel) (d:=d+6) hra (by omega) (by simp (disch:=try exact SX) only[RV,seval,zA0,w]) fun rt U kU sU nU=>?_
 have wU:=kU.wf
 have zU:N.size+1≤U.size:=kU.le
 have ort:=sU.one
 have crt:=sU.cells
 have rrt:=zAN sU.rl (Nat.le_refl U.size)
 have rlU:=rlo U.size (by omega)
 have rlU1:=rlo (U.size+1) (by omega)
 have kN:∀ j,j<N.size→U.get j=N.get j:=fun j hj=>(kU.get j (by show j<N.size+1;omega)).trans (by simp (disch:=try exact SX) only[RV,seval,zA0,w])
 simp (disch:=try exact SX) only[RV,seval,zA0,g2,g13,g14,g15,wU,oo,oc,rlU,rlU1,ort,crt,rrt]
 refine NK.ND.app (K:=rnK) (ra:=rt) (x:=e) (by':=80) wU sm (fun j _ hj=>kN j hj) (by omega) ⟨rfl,ort,crt⟩ ⟨sU,fun j _=>Nat.zero_le j,hok⟩ (fun j hj=>by have:N.size+1≤j:=nU j hj;omega) (by omega) (by omega) (Nat.zero_le _) fun o' M' sm' w' le' kp nw wm'=>?_
 obtain⟨oo',oc',orl',olen',opu',olt'⟩:=ND.lr sm'
 simp (disch:=try exact SX) only[RV,seval,zA0,g2,g13,g14,g15,w1]
 exact⟨hlt,l.length - (i+1),by omega,i+1,o',rfl,by omega,rfl,rfl,fin e o' M' hts rfl sm' w'⟩):p:=h
theorem zB04{p:Prop}(h:p:=by
 have os:OS tm ((Y.upd 0 (.row false [BL false])).upd 6 (.loop .done (some .ret) tm [12,13] cO1 cO2 5)):=by
  refine⟨(wY.upd _ _).upd _ _,by simp only[zAH];omega, ?_, ?_, ?_⟩
  ·rw[zA2 (wY.upd _ _) _ _ _ (by omega)]
   exact zAI wY _ _ l0
  ·rw[zA2 (wY.upd _ _) _ _ _ (by omega),zA2 wY _ _ _ (by omega)]
   exact(yj 5 (by omega) (by omega) (by omega)).trans h.g5
  ·exact zAI (wY.upd _ _) _ _ (by simp only[zAH];omega)
 refine⟨_,_,_,_,_,_,_,y6,.inr (.inr ?_)⟩
 first
 | exact os
 | exact⟨os,by simp [*]⟩):p:=h
theorem zB05{p:Prop}(h:p:=by
 unfold rnEq
 cases q1:decide (o.sp=p.sp)
 ·simp (disch:=try exact SX) only[RV,seval,zA0,h0,h1,hR.fz.rows,hR.fz.one,hR.fz.cells,hR.fz.icy,hR.fz.frz,hP.fz.rows,hP.fz.one,hP.fz.cells,hP.fz.icy,hP.fz.frz,↓pIdE,zAA,↓pIdN,zA9,↓pHdE,zAB,↓pHdN,zAC,↓pLbE,zA8,↓pLbN,zAD,↓pSpE,zAE,↓pSpN,zAF,ETA,q1,Bool.false_and]
 ·cases q2:decide (o.af=p.af)
  ·simp (disch:=try exact SX) only[RV,seval,zA0,h0,h1,hR.fz.rows,hR.fz.one,hR.fz.cells,hR.fz.icy,hR.fz.frz,hP.fz.rows,hP.fz.one,hP.fz.cells,hP.fz.icy,hP.fz.frz,↓pIdE,zAA,↓pIdN,zA9,↓pHdE,zAB,↓pHdN,zAC,↓pLbE,zA8,↓pLbN,zAD,↓pSpE,zAE,↓pSpN,zAF,ETA,q1,q2,Bool.false_and,Bool.true_and]
  ·simp (disch:=try exact SX) only[RV,seval,zA0,h0,h1,hR.fz.rows,hR.fz.one,hR.fz.cells,hR.fz.icy,hR.fz.frz,hP.fz.rows,hP.fz.one,hP.fz.cells,hP.fz.icy,hP.fz.frz,↓pIdE,zAA,↓pIdN,zA9,↓pHdE,zAB,↓pHdN,zAC,↓pLbE,zA8,↓pLbN,zAD,↓pSpE,zAE,↓pSpN,zAF,ETA,q1,q2,hs,Bool.false_and,Bool.true_and]):p:=h
theorem zB06{p:Prop}(h:p:=by
 by_cases q2:2048≤l.length
 ·rw[if_pos q2] at k
  have q2':decide ((2048:Int)≤l.length)=true:=DT
  simp (disch:=try exact SX) only[RV,seval,zA0,h0,h1,hd,q1',hg,ll,q2']
  exact k _ kN
 ·rw[if_neg q2] at k
  have q2':decide ((2048:Int)≤l.length)=false:=DF
  simp (disch:=try exact SX) only[RV,seval,zA0,h0,h1,hd,q1',hg,ll,q2',q1]
  exact k _ kN):p:=h
theorem zB07{p:Prop}(h:p:=by
 simp (disch:=try exact SX) only[RV,seval,zA0]):p:=h
theorem zB08{p:Prop}(h:p:=by
 rw[if_pos (c:=_∨_) (.inl ⟨h2,of_decide_eq_false q6⟩)]
 simp (disch:=try exact SX) only[RV,seval,zA0,g0,g3,g5,g6,g8,lrn,q1,g,k1,k2,k3,↓pIdE,zAA,↓pIdN,zA9,↓pHdE,zAB,↓pHdN,zAC,↓pLbE,zA8,↓pLbN,zAD,↓pSpE,zAE,↓pSpN,zAF,ETA,q6,ll,q5',ge_iff_le,hS.fz.rows,hS.fz.one,hS.fz.cells,hS.fz.icy,hS.fz.frz,hR.fz.rows,hR.fz.one,hR.fz.cells,hR.fz.icy,hR.fz.frz,hro.fz.rows,hro.fz.one,hro.fz.cells,hro.fz.icy,hro.fz.frz,hrn.fz.rows,hrn.fz.one,hrn.fz.cells,hrn.fz.icy,hrn.fz.frz]
 all_goals rfl):p:=h
theorem zB09{p:Prop}(h:p:=by
 simp only[PT.iss,PT.is]
 exact⟨[.int .u8 a0,.int .u32 a1,.int .u8 a2,.int .i64 a3],[.int .i64 a4],rfl,⟨[.int .u8 a0,.int .u32 a1,.int .u8 a2],[.int .i64 a3],rfl,⟨[.int .u8 a0,.int .u32 a1],[.int .u8 a2],rfl,⟨[.int .u8 a0],[.int .u32 a1],rfl,⟨_,rfl⟩,⟨[.int .u32 a1],[],rfl,⟨_,rfl⟩,rfl⟩⟩,⟨[.int .u8 a2],[],rfl,⟨_,rfl⟩,rfl⟩⟩,⟨[.int .i64 a3],[],rfl,⟨_,rfl⟩,rfl⟩⟩,⟨[.int .i64 a4],[],rfl,⟨_,rfl⟩,rfl⟩⟩):p:=h
theorem zB0a{p:Prop}(h:p:=by
 rw[q6] at hri
 rw[if_pos (c:=_∨_) (.inr ⟨h3,rfl⟩)]
 simp (disch:=try exact SX) only[RV,seval,zA0,g0,g3,g5,g6,g8,lrn,q1,g,k1,k2,k3,hri,ll,q5',ge_iff_le,hS.fz.rows,hS.fz.one,hS.fz.cells,hS.fz.icy,hS.fz.frz,hR.fz.rows,hR.fz.one,hR.fz.cells,hR.fz.icy,hR.fz.frz,hro.fz.rows,hro.fz.one,hro.fz.cells,hro.fz.icy,hro.fz.frz,hrn.fz.rows,hrn.fz.one,hrn.fz.cells,hrn.fz.icy,hrn.fz.frz]
 all_goals rfl):p:=h
theorem zB0b{p:Prop}(h:p:=by
 simp (disch:=try exact SX) only[RV,seval,zA0,g0,g3,g5,g6,g8,lrn,q1,g,k1,k2,k3,↓pIdE,zAA,↓pIdN,zA9,↓pHdE,zAB,↓pHdN,zAC,↓pLbE,zA8,↓pLbN,zAD,↓pSpE,zAE,↓pSpN,zAF,ETA,q6,ll,q5',ge_iff_le,hS.fz.rows,hS.fz.one,hS.fz.cells,hS.fz.icy,hS.fz.frz,hR.fz.rows,hR.fz.one,hR.fz.cells,hR.fz.icy,hR.fz.frz,hro.fz.rows,hro.fz.one,hro.fz.cells,hro.fz.icy,hro.fz.frz,hrn.fz.rows,hrn.fz.one,hrn.fz.cells,hrn.fz.icy,hrn.fz.frz]):p:=h
theorem zB0c{p:Prop}(h:p:=by
 cases c3:decide (el=Eid.z)
 ·cases c4:x.1.less el
  ·rw[c4] at hls
   simp (disch:=try exact SX) only[RV,seval,zA0,g2,g3,g4,g5,g6,g7,hne,oo',y0,y1,y3,ya,yb,yc,wY,↓pIdE,zAA,↓pIdN,zA9,↓pHdE,zAB,↓pHdN,zAC,↓pLbE,zA8,↓pLbN,zAD,↓pSpE,zAE,↓pSpN,zAF,ETA,c2,c3,hls]
   exact zB04
  ·rw[c4] at hls
   exact zB01
 ·skip
  exact zB01):p:=h
theorem zB0d{p:Prop}(h:p:=by
 simp only[PT.iss,PT.is]
 exact⟨[.int .u8 a0,.int .u32 a1,.int .u8 a2],[.int .i64 a3],rfl,⟨[.int .u8 a0,.int .u32 a1],[.int .u8 a2],rfl,⟨[.int .u8 a0],[.int .u32 a1],rfl,⟨_,rfl⟩,⟨[.int .u32 a1],[],rfl,⟨_,rfl⟩,rfl⟩⟩,⟨[.int .u8 a2],[],rfl,⟨_,rfl⟩,rfl⟩⟩,⟨[.int .i64 a3],[],rfl,⟨_,rfl⟩,rfl⟩⟩):p:=h
theorem zB0e{p:Prop}(h:p:=by
 simp (disch:=try exact SX) only[RV,seval,zA0,g0,g3,g5,g6,g8,lrn,q1,g,k1,k2,k3,hri,ll,q5',ge_iff_le,hS.fz.rows,hS.fz.one,hS.fz.cells,hS.fz.icy,hS.fz.frz,hR.fz.rows,hR.fz.one,hR.fz.cells,hR.fz.icy,hR.fz.frz,hro.fz.rows,hro.fz.one,hro.fz.cells,hro.fz.icy,hro.fz.frz,hrn.fz.rows,hrn.fz.one,hrn.fz.cells,hrn.fz.icy,hrn.fz.frz]):p:=h
theorem zB0f{p:Prop}(h:p:=by
 rw[hd]
 simp (disch:=try exact SX) only[RV,seval,zA0,x0,wX,Option.getD_none,Option.getD_some]
 refine zL2 (by simp (disch:=try exact SX) only[RV,seval,zA0,wX]) (by simp (disch:=try exact SX) only[RV,seval,zA0,wX,x5]) ?_
 simp (disch:=try exact SX) only[RV,seval,zA0,x0,wX]):p:=h
theorem zB0g{p:Prop}(h:p:=by
 simp (disch:=try exact SX) only[RV,seval,zA0,h0,hS.fz.rows,hS.fz.one,hS.fz.cells,hS.fz.icy,hS.fz.frz,↓pIdE,zAA,↓pIdN,zA9,↓pHdE,zAB,↓pHdN,zAC,↓pLbE,zA8,↓pLbN,zAD,↓pSpE,zAE,↓pSpN,zAF,ETA,q1,hc,hs,q3,q4,q5,ll,hr,zB9,zBH,z00,z80,Bool.false_and]):p:=h
theorem zB0h{p:Prop}(h:p:=by
 exact⟨hlt,l.length - (i+1),by omega,i+1,o,rfl,by omega,rfl,rfl,w,by rw[hsn];exact sm,ro⟩):p:=h
theorem zB0i{p:Prop}(h:p:=by
 simp (disch:=try exact SX) only[RV,seval,zA0,h0,hS.fz.rows,hS.fz.one,hS.fz.cells,hS.fz.icy,hS.fz.frz,↓pIdE,zAA,↓pIdN,zA9,↓pHdE,zAB,↓pHdN,zAC,↓pLbE,zA8,↓pLbN,zAD,↓pSpE,zAE,↓pSpN,zAF,ETA,q1,hc,hs,q4,q5,ll,hr,zB9,zBH,z00,z80,Bool.false_and]):p:=h
theorem zB0j{p:Prop}(h:p:=by
 simp (disch:=try exact SX) only[RV,seval,zA0,g0,g1,g2,g3,g9,g10,g11,q1,hiad,hra.fz.rows,hra.fz.one,hra.fz.cells,hra.fz.icy,hra.fz.frz,wf,m5,m6,hh,c1,w1]
 exact⟨hlt,l.length - (i+1),by omega,i+1,o,rfl,by omega,rfl,by rw[hsn];exact mA⟩):p:=h
theorem zB0k{p:Prop}(h:p:=by
 simp (disch:=try exact SX) only[RV,seval,zA0,h0,h1,hR.fz.rows,hR.fz.one,hR.fz.cells,hR.fz.icy,hR.fz.frz,hg,hN.wf,↓pIdE,zAA,↓pIdN,zA9,↓pHdE,zAB,↓pHdN,zAC,↓pLbE,zA8,↓pLbN,zAD,↓pSpE,zAE,↓pSpN,zAF,ETA,q2]
 exact k _ kN):p:=h
theorem zB0l{p:Prop}(h:p:=by
 have e:cs.drop (k+5)=(cs.drop k).drop 5:=by rw[List.drop_drop]
 have e':cs.drop k=rnR x ra++cs.drop (k+10):=by rw[← h2,← List.drop_drop,List.take_append_drop]
 rw[e,e',List.drop_append_of_le_length (by show 5≤10;omega)]):p:=h
theorem zB0m{p:Prop}(h:p:=by
 refine⟨0,rfl,Nat.zero_le _, ?_, ?_, ?_, ?_, ?_,Wf.mem0.add _,by simp (disch:=try exact SX) only[RV,seval,zA0],rfl⟩ <;> simp (disch:=try exact SX) only[RV,seval,zA0,h0,h1]
 all_goals first | rfl | assumption | done):p:=h
theorem zB0n{p:Prop}(h:p:=by
 simp only[PT.iss,PT.is]
 exact⟨[.int .u8 a0,.int .u32 a1],[.int .u8 a2],rfl,⟨[.int .u8 a0],[.int .u32 a1],rfl,⟨_,rfl⟩,⟨[.int .u32 a1],[],rfl,⟨_,rfl⟩,rfl⟩⟩,⟨[.int .u8 a2],[],rfl,⟨_,rfl⟩,rfl⟩⟩):p:=h
theorem zB0o{p:Prop}(h:p:=by
 rcases nw' j hj with h | h
 ·exact ro j h
 ·omega):p:=h
theorem zB0p{p:Prop}(h:p:=by
 refine⟨0,rfl,Nat.zero_le _, ?_, ?_, ?_,Wf.mem0.add _,by simp (disch:=try exact SX) only[RV,seval,zA0],rfl⟩ <;> simp (disch:=try exact SX) only[RV,seval,zA0,h0,h1]
 all_goals first | rfl | assumption | done):p:=h
theorem zB0q{p:Prop}(h:p:=by
 simp (disch:=try exact SX) only[RV,seval,zA0,h0,h1,hS.fz.rows,hS.fz.one,hS.fz.cells,hS.fz.icy,hS.fz.frz,hck,hlc,zB9,zBH,z00,z80,zD1,zD3,zD2,BMM,IMX,Bool.false_and]
 exact⟨hpz _,NIL,rfl,NK.ND.nil _ _⟩):p:=h
theorem zB0r{p:Prop}(h:p:=by
 have:decide (l=m)=true:=by
  simp only[decide_eq_true_eq]
  rw[show i=l.length by omega,List.take_length] at tk
  rw[tk,show l.length=m.length from hll,List.take_length]
 rw[this]):p:=h
theorem zB0s{p:Prop}(h:p:=by
 simp (disch:=try exact SX) only[RV,seval,zA0,w]):p:=h
theorem zB0t{p:Prop}(h:p:=by
 congr 4
 rw[Bool.eq_iff_iff]
 simp [and_assoc]):p:=h
theorem zB0u{p:Prop}(h:p:=by
 obtain⟨obj,h1,h2⟩:=h.mg
 exact⟨(k _ (Mem.get_lt h.hg)).trans h.hg,h.sm.keep fun j hj=>k j (h.sm.lt j hj),⟨obj,(k _ (Mem.get_lt h1)).trans h1,h2⟩,h.ib,h.mb,h.ob,h.ne,h.n1,h.n2⟩):p:=h
theorem zB0v{p:Prop}(h:p:=by
 simp (disch:=try exact SX) only[RV,seval,zA0,h0,h1,la,lb,h1'.fz.rows,h1'.fz.one,h1'.fz.cells,h1'.fz.icy,h1'.fz.frz,h2'.fz.rows,h2'.fz.one,h2'.fz.cells,h2'.fz.icy,h2'.fz.frz,q0,e,zBD]):p:=h
theorem zB0w{p:Prop}(h:p:=by
 refine⟨hlt,l.length - (i+1),by omega,i+1,rfl,by omega,rfl, ?_⟩
 rw[List.take_add_one,List.take_add_one,tk,List.getElem?_eq_getElem hlt',List.getElem?_eq_getElem hmt,he]):p:=h
theorem zB0x{p:Prop}(h:p:=by
 rw[Bool.eq_iff_iff,he]
 simp [and_assoc]):p:=h
theorem zB0y{p:Prop}(h:p:=by
 have q1:decide ((64:Int)<l.length)=true:=DT
 simp (disch:=try exact SX) only[RV,seval,zA0,h0,ll,hS.fz.rows,hS.fz.one,hS.fz.cells,hS.fz.icy,hS.fz.frz,q1,q,if_true]):p:=h
theorem zB0z{p:Prop}(h:p:=by
 exact⟨by simp [purA,purL],NIL,rfl,.inl ⟨rfl,rfl⟩⟩):p:=h
theorem zB0A{p:Prop}(h:p:=by
 simp (disch:=try exact SX) only[RV,seval,zA0,h0,hl,hr,zBH,z80,Bool.false_and]):p:=h
theorem zB0B{p:Prop}(h:p:=by
 simp (disch:=try exact SX) only[RV,seval,zA0,h0,↓pIdE,zAA,↓pIdN,zA9,↓pHdE,zAB,↓pHdN,zAC,↓pLbE,zA8,↓pLbN,zAD,↓pSpE,zAE,↓pSpN,zAF,ETA]):p:=h
theorem zB0C{p:Prop}(h:p:=by
 exact k _ ((Kept.refl wf).add _)):p:=h
theorem zB0D{p:Prop}(h:p:=by
 simp (disch:=try exact SX) only[RV,seval,zA0,h0,h1,hd,q1']
 exact k _ kN):p:=h
theorem zB0E{p:Prop}(h:p:=by
 exact zDZ (bs:=[o',y]) h hg (hc o' s2 mem0) (M3:=mem0) (M2:=M') (by simp only[icyL,s2.icy mem0 12 (by omega),hy]) (by simp only[icyL,i1,hy])):p:=h
theorem zB0F{p:Prop}(h:p:=by
 rintro (((h | h) | h) | h)
 ·exact .inl (.inl (.inl h))
 ·exact .inl (.inl (.inr h))
 ·exact .inr h
 ·exact .inl (.inr h)):p:=h
theorem zB0G{p:Prop}(h:p:=by
 have e:r=(decide (a0=b0)&&decide (a1=b1)&&decide (a2=b2)&&decide (a3=b3)&&decide (a4=b4)):=by
  exact zB0x
 rw[← e]
 exact hr):p:=h
theorem zB0H{p:Prop}(h:p:=by
 have hym:=hm y List.mem_cons_self
 rcases ha with⟨rfl,rfl⟩ | ha
 ·exact .root hym h1
 ·exact .step hym (h1 ▸ ha)):p:=h
theorem zB0I{p:Prop}(h:p:=by
 rintro⟨h1,h2⟩
 refine⟨h1, ?_⟩
 rw[h2,h1]
 simp only[Spn.at]
 rw[wrap_i64 (by omega) (by omega)]
 congr 1;omega):p:=h
theorem zB0J{p:Prop}(h:p:=by
 unfold Spn.has
 rw[if_neg]
 rintro⟨_,_,h1,h2⟩
 rw[wrap_i64 (by omega) (by omega)] at hw
 omega):p:=h
theorem zB0K{p:Prop}(h:p:=by
 obtain⟨lr,h1,h2,h3,h4,h5,h6⟩:=h
 exact⟨lr,h1,h2,fun x hx=>(h3 x hx).mono hb,fun j hj=>Nat.le_trans hb (h4 j hj),h5,h6⟩):p:=h
theorem zB0L{p:Prop}(h:p:=by
 simp only[PT.iss,PT.is]
 exact⟨[.int .u8 a0],[.int .u32 a1],rfl,⟨_,rfl⟩,⟨[.int .u32 a1],[],rfl,⟨_,rfl⟩,rfl⟩⟩):p:=h
theorem zB0M{p:Prop}(h:p:=by
 have:decide (l=m)=false:=by
  simp only[decide_eq_false_iff_not]
  rintro rfl;exact he rfl
 rw[this]):p:=h
theorem zB0N{p:Prop}(h:p:=by
 have e:r=(decide (a0=b0)&&decide (a1=b1)&&decide (a2=b2)&&decide (a3=b3)):=by
  exact zB0x
 rw[← e]
 exact hr):p:=h
theorem zB0O{p:Prop}(h:p:=by
 rw[Bool.eq_iff_iff,decide_eq_true_iff,decide_eq_true_iff];omega):p:=h
theorem zB0P{p:Prop}(h:p:=by
 rcases List.mem_append.1 hy with hy | hy
 ·exact h2 y hy
 ·rw[List.mem_singleton] at hy;subst hy;exact h1x):p:=h
theorem zB0Q{p:Prop}(h:p:=by
 unfold Spn.ids at hy
 obtain⟨i,hi,rfl⟩:=List.mem_map.1 hy
 exact zMR ho.2.2.2.1 hsm i (List.mem_range.1 hi)):p:=h
theorem zB0R{p:Prop}(h:p:=by
 simp only[List.length_append,List.length_singleton]
 omega):p:=h
theorem zB0S{p:Prop}(h:p:=by
 have e:r=(decide (a0=b0)&&decide (a1=b1)):=by
  rw[Bool.eq_iff_iff,he]
  simp []
 rw[← e]
 exact hr):p:=h
theorem zB0T{p:Prop}(h:p:=by
 exact⟨hlt,I.length - (i+1),by omega,i+1,rfl,by omega,rfl,w,by rw[hsn,List.all_append,hj];simp [q2]⟩):p:=h
theorem zB0U{p:Prop}(h:p:=by
 have e:r=(decide (a0=b0)&&decide (a1=b1)&&decide (a2=b2)):=by
  exact zB0x
 rw[← e]
 exact hr):p:=h
theorem zB0V{p:Prop}(h:p:=by
 rcases Nat.lt_succ_iff_lt_or_eq.1 hj' with h | rfl
 ·exact hj j x1 x2 h
 ·exact q2):p:=h
theorem zB0W{p:Prop}(h:p:=by
 induction l with
 | nil=>rfl
 | cons x l ih=>simp only[List.any_cons,List.all_cons,ih,Bool.not_and]):p:=h
theorem zB0X{p:Prop}(h:p:=by
 rw[List.take_add,show (cs.drop k).take 4=((cs.drop k).take 10).take 4 by rw[List.take_take];rfl,h2]):p:=h
theorem zB0Y{p:Prop}(h:p:=by
 rintro ((h | h) | h)
 ·exact .inl (.inl h)
 ·exact .inr h
 ·exact .inl (.inr h)):p:=h
end Go.Proofs.YtlmeadmpldjdaaaGreat
