/-
  Closed calls, each by those that it calls (printed by memo.py).
-/
import Derived.Test.YtemaoaopenpgcaaGreatYmA
import Derived.Test.YtemaoaopenpgcaaGreatYmB
import Derived.Test.YtemaoaopenpgcaaGreatYmC
import Derived.Test.YtemaoaopenpgcaaGreatYmD
import Derived.Test.YtemaoaopenpgcaaGreatYmE
import Derived.Test.YtemaoaopenpgcaaGreatYmF
import Derived.Test.YtemaoaopenpgcaaGreatYmG
import Derived.Test.YtemaoaopenpgcaaGreatYmH
import Derived.Test.YtemaoaopenpgcaaGreatYmI
import Derived.Test.YtemaoaopenpgcaaGreatYmJ
import Derived.Test.YtemaoaopenpgcaaGreatYmK
import Derived.Test.YtemaoaopenpgcaaGreatYmL
import Derived.Test.YtemaoaopenpgcaaGreatYmM
import Derived.Test.YtemaoaopenpgcaaGreatYmN
import Derived.Test.YtemaoaopenpgcaaGreatYmO
import Derived.Test.YtemaoaopenpgcaaGreatYmP
import Derived.KernelRfl
import Derived.Test.YtemaoaopenpgcaaGreatEg
set_option linter.unusedSimpArgs false
set_option linter.unusedVariables false
set_option maxRecDepth 100000
namespace Go.Proofs.YtemaoaopenpgcaaGreat
open Go Go.Ax
theorem k0 : Fact Tryz.prog (fsT tbl) 4000000 41 e0 := fact (K := 26) (J := 14) (L := []) trivial tf20 rfl (fun M => by kernel_rfl) (fun d => by kernel_rfl)
theorem k1 : Fact Tryz.prog (fsT tbl) 4000000 41 e1 := fact (K := 26) (J := 14) (L := []) trivial tf19 rfl (fun M => by kernel_rfl) (fun d => by kernel_rfl)
theorem k3 : Fact Tryz.prog (fsT tbl) 4000000 56 e3 := fact (K := 41) (J := 14) (L := [e2]) ⟨k2, trivial⟩ tf14 rfl (fun M => by kernel_rfl) (fun d => by kernel_rfl)
theorem k4 : Fact Tryz.prog (fsT tbl) 4000000 71 e4 := fact (K := 56) (J := 14) (L := [e3]) ⟨k3, trivial⟩ tf21 rfl (fun M => by kernel_rfl) (fun d => by kernel_rfl)
theorem k6 : Fact Tryz.prog (fsT tbl) 4000000 56 e6 := fact (K := 41) (J := 14) (L := [e5, e2]) ⟨k5, k2, trivial⟩ tf22 rfl (fun M => by kernel_rfl) (fun d => by kernel_rfl)
theorem k7 : Fact Tryz.prog (fsT tbl) 4000000 41 e7 := fact (K := 26) (J := 14) (L := []) trivial tf23 rfl (fun M => by kernel_rfl) (fun d => by kernel_rfl)
theorem k8 : Fact Tryz.prog (fsT tbl) 4000000 41 e8 := fact (K := 26) (J := 14) (L := []) trivial tf19 rfl (fun M => by kernel_rfl) (fun d => by kernel_rfl)
theorem k9 : Fact Tryz.prog (fsT tbl) 4000000 41 e9 := fact (K := 26) (J := 14) (L := []) trivial tf16 rfl (fun M => by kernel_rfl) (fun d => by kernel_rfl)
theorem k10 : Fact Tryz.prog (fsT tbl) 4000000 56 e10 := fact (K := 41) (J := 14) (L := [e9]) ⟨k9, trivial⟩ tf65 rfl (fun M => by kernel_rfl) (fun d => by kernel_rfl)
theorem k11 : Fact Tryz.prog (fsT tbl) 4000000 71 e11 := fact (K := 56) (J := 14) (L := [e10]) ⟨k10, trivial⟩ tf25 rfl (fun M => by kernel_rfl) (fun d => by kernel_rfl)
theorem k12 : Fact Tryz.prog (fsT tbl) 4000000 71 e12 := fact (K := 56) (J := 14) (L := [e3]) ⟨k3, trivial⟩ tf21 rfl (fun M => by kernel_rfl) (fun d => by kernel_rfl)
theorem k14 : Fact Tryz.prog (fsT tbl) 4000000 56 e14 := fact (K := 41) (J := 14) (L := [e13]) ⟨k13, trivial⟩ tf14 rfl (fun M => by kernel_rfl) (fun d => by kernel_rfl)
theorem k16 : Fact Tryz.prog (fsT tbl) 4000000 56 e16 := fact (K := 41) (J := 14) (L := [e15, e13]) ⟨k15, k13, trivial⟩ tf22 rfl (fun M => by kernel_rfl) (fun d => by kernel_rfl)
theorem k18 : Fact Tryz.prog (fsT tbl) 4000000 56 e18 := fact (K := 41) (J := 14) (L := [e17]) ⟨k17, trivial⟩ tf14 rfl (fun M => by kernel_rfl) (fun d => by kernel_rfl)
theorem k19 : Fact Tryz.prog (fsT tbl) 4000000 71 e19 := fact (K := 56) (J := 14) (L := [e16, e10, e18]) ⟨k16, k10, k18, trivial⟩ tf15 rfl (fun M => by kernel_rfl) (fun d => by kernel_rfl)
theorem k20 : Fact Tryz.prog (fsT tbl) 4000000 41 e20 := fact (K := 26) (J := 14) (L := []) trivial tf16 rfl (fun M => by kernel_rfl) (fun d => by kernel_rfl)
theorem k21 : Fact Tryz.prog (fsT tbl) 4000000 56 e21 := fact (K := 41) (J := 14) (L := [e20]) ⟨k20, trivial⟩ tf65 rfl (fun M => by kernel_rfl) (fun d => by kernel_rfl)
theorem k23 : Fact Tryz.prog (fsT tbl) 4000000 56 e23 := fact (K := 41) (J := 14) (L := [e22]) ⟨k22, trivial⟩ tf14 rfl (fun M => by kernel_rfl) (fun d => by kernel_rfl)
theorem k25 : Fact Tryz.prog (fsT tbl) 4000000 56 e25 := fact (K := 41) (J := 14) (L := [e24, e22]) ⟨k24, k22, trivial⟩ tf22 rfl (fun M => by kernel_rfl) (fun d => by kernel_rfl)
theorem k27 : Fact Tryz.prog (fsT tbl) 4000000 56 e27 := fact (K := 41) (J := 14) (L := [e26]) ⟨k26, trivial⟩ tf14 rfl (fun M => by kernel_rfl) (fun d => by kernel_rfl)
theorem k28 : Fact Tryz.prog (fsT tbl) 4000000 71 e28 := fact (K := 56) (J := 14) (L := [e25, e20, e27]) ⟨k25, k20.mono (by decide), k27, trivial⟩ tf15 rfl (fun M => by kernel_rfl) (fun d => by kernel_rfl)
theorem k29 : Fact Tryz.prog (fsT tbl) 4000000 86 e29 := fact (K := 71) (J := 14) (L := [e21, e23, e28]) ⟨k21.mono (by decide), k23.mono (by decide), k28, trivial⟩ tf27 rfl (fun M => by kernel_rfl) (fun d => by kernel_rfl)
theorem k30 : Fact Tryz.prog (fsT tbl) 4000000 101 e30 := fact (K := 86) (J := 14) (L := [e0, e1, e11, e12, e14, e19, e29]) ⟨k0.mono (by decide), k1.mono (by decide), k11.mono (by decide), k12.mono (by decide), k14.mono (by decide), k19.mono (by decide), k29, trivial⟩ tf24 rfl (fun M => by kernel_rfl) (fun d => by kernel_rfl)
theorem k31 : Fact Tryz.prog (fsT tbl) 4000000 41 e31 := fact (K := 26) (J := 14) (L := []) trivial tf25 rfl (fun M => by kernel_rfl) (fun d => by kernel_rfl)
theorem k32 : Fact Tryz.prog (fsT tbl) 4000000 41 e32 := fact (K := 26) (J := 14) (L := []) trivial tf26 rfl (fun M => by kernel_rfl) (fun d => by kernel_rfl)
theorem k33 : Fact Tryz.prog (fsT tbl) 4000000 41 e33 := fact (K := 26) (J := 14) (L := []) trivial tf9 rfl (fun M => by kernel_rfl) (fun d => by kernel_rfl)
theorem k34 : Fact Tryz.prog (fsT tbl) 4000000 41 e34 := fact (K := 26) (J := 14) (L := []) trivial tf16 rfl (fun M => by kernel_rfl) (fun d => by kernel_rfl)
theorem k35 : Fact Tryz.prog (fsT tbl) 4000000 56 e35 := fact (K := 41) (J := 14) (L := [e34]) ⟨k34, trivial⟩ tf65 rfl (fun M => by kernel_rfl) (fun d => by kernel_rfl)
theorem k37 : Fact Tryz.prog (fsT tbl) 4000000 56 e37 := fact (K := 41) (J := 14) (L := [e36]) ⟨k36, trivial⟩ tf14 rfl (fun M => by kernel_rfl) (fun d => by kernel_rfl)
theorem k38 : Fact Tryz.prog (fsT tbl) 4000000 71 e38 := fact (K := 56) (J := 14) (L := [e35, e37]) ⟨k35, k37, trivial⟩ tf21 rfl (fun M => by kernel_rfl) (fun d => by kernel_rfl)
theorem k39 : Fact Tryz.prog (fsT tbl) 4000000 41 e39 := fact (K := 26) (J := 14) (L := []) trivial tf16 rfl (fun M => by kernel_rfl) (fun d => by kernel_rfl)
theorem k40 : Fact Tryz.prog (fsT tbl) 4000000 56 e40 := fact (K := 41) (J := 14) (L := [e39]) ⟨k39, trivial⟩ tf65 rfl (fun M => by kernel_rfl) (fun d => by kernel_rfl)
theorem k42 : Fact Tryz.prog (fsT tbl) 4000000 56 e42 := fact (K := 41) (J := 14) (L := [e41]) ⟨k41, trivial⟩ tf14 rfl (fun M => by kernel_rfl) (fun d => by kernel_rfl)
theorem k44 : Fact Tryz.prog (fsT tbl) 4000000 56 e44 := fact (K := 41) (J := 14) (L := [e43, e41]) ⟨k43, k41, trivial⟩ tf22 rfl (fun M => by kernel_rfl) (fun d => by kernel_rfl)
theorem k46 : Fact Tryz.prog (fsT tbl) 4000000 56 e46 := fact (K := 41) (J := 14) (L := [e45]) ⟨k45, trivial⟩ tf14 rfl (fun M => by kernel_rfl) (fun d => by kernel_rfl)
theorem k47 : Fact Tryz.prog (fsT tbl) 4000000 71 e47 := fact (K := 56) (J := 14) (L := [e44, e39, e46]) ⟨k44, k39.mono (by decide), k46, trivial⟩ tf15 rfl (fun M => by kernel_rfl) (fun d => by kernel_rfl)
theorem k48 : Fact Tryz.prog (fsT tbl) 4000000 86 e48 := fact (K := 71) (J := 14) (L := [e40, e42, e47]) ⟨k40.mono (by decide), k42.mono (by decide), k47, trivial⟩ tf27 rfl (fun M => by kernel_rfl) (fun d => by kernel_rfl)
theorem k49 : Fact Tryz.prog (fsT tbl) 4000000 41 e49 := fact (K := 26) (J := 14) (L := []) trivial tf16 rfl (fun M => by kernel_rfl) (fun d => by kernel_rfl)
theorem k50 : Fact Tryz.prog (fsT tbl) 4000000 56 e50 := fact (K := 41) (J := 14) (L := [e49]) ⟨k49, trivial⟩ tf65 rfl (fun M => by kernel_rfl) (fun d => by kernel_rfl)
theorem k52 : Fact Tryz.prog (fsT tbl) 4000000 56 e52 := fact (K := 41) (J := 14) (L := [e51]) ⟨k51, trivial⟩ tf14 rfl (fun M => by kernel_rfl) (fun d => by kernel_rfl)
theorem k54 : Fact Tryz.prog (fsT tbl) 4000000 56 e54 := fact (K := 41) (J := 14) (L := [e53, e51]) ⟨k53, k51, trivial⟩ tf22 rfl (fun M => by kernel_rfl) (fun d => by kernel_rfl)
theorem k55 : Fact Tryz.prog (fsT tbl) 4000000 71 e55 := fact (K := 56) (J := 14) (L := [e54, e49, e46]) ⟨k54, k49.mono (by decide), k46, trivial⟩ tf15 rfl (fun M => by kernel_rfl) (fun d => by kernel_rfl)
theorem k56 : Fact Tryz.prog (fsT tbl) 4000000 86 e56 := fact (K := 71) (J := 14) (L := [e50, e52, e55]) ⟨k50.mono (by decide), k52.mono (by decide), k55, trivial⟩ tf27 rfl (fun M => by kernel_rfl) (fun d => by kernel_rfl)
theorem k57 : Fact Tryz.prog (fsT tbl) 4000000 41 e57 := fact (K := 26) (J := 14) (L := []) trivial tf10 rfl (fun M => by kernel_rfl) (fun d => by kernel_rfl)
theorem k58 : Fact Tryz.prog (fsT tbl) 4000000 41 e58 := fact (K := 26) (J := 14) (L := []) trivial tf66 rfl (fun M => by kernel_rfl) (fun d => by kernel_rfl)
theorem k59 : Fact Tryz.prog (fsT tbl) 4000000 41 e59 := fact (K := 26) (J := 14) (L := []) trivial tf66 rfl (fun M => by kernel_rfl) (fun d => by kernel_rfl)
theorem k60 : Fact Tryz.prog (fsT tbl) 4000000 56 e60 := fact (K := 41) (J := 14) (L := [e57, e58, e59]) ⟨k57, k58, k59, trivial⟩ tf28 rfl (fun M => by kernel_rfl) (fun d => by kernel_rfl)
theorem k61 : Fact Tryz.prog (fsT tbl) 4000000 41 e61 := fact (K := 26) (J := 14) (L := []) trivial tf16 rfl (fun M => by kernel_rfl) (fun d => by kernel_rfl)
theorem k62 : Fact Tryz.prog (fsT tbl) 4000000 56 e62 := fact (K := 41) (J := 14) (L := [e61]) ⟨k61, trivial⟩ tf65 rfl (fun M => by kernel_rfl) (fun d => by kernel_rfl)
theorem k64 : Fact Tryz.prog (fsT tbl) 4000000 56 e64 := fact (K := 41) (J := 14) (L := [e63]) ⟨k63, trivial⟩ tf14 rfl (fun M => by kernel_rfl) (fun d => by kernel_rfl)
theorem k66 : Fact Tryz.prog (fsT tbl) 4000000 56 e66 := fact (K := 41) (J := 14) (L := [e65, e63]) ⟨k65, k63, trivial⟩ tf22 rfl (fun M => by kernel_rfl) (fun d => by kernel_rfl)
theorem k67 : Fact Tryz.prog (fsT tbl) 4000000 71 e67 := fact (K := 56) (J := 14) (L := [e66, e61, e46]) ⟨k66, k61.mono (by decide), k46, trivial⟩ tf15 rfl (fun M => by kernel_rfl) (fun d => by kernel_rfl)
theorem k68 : Fact Tryz.prog (fsT tbl) 4000000 86 e68 := fact (K := 71) (J := 14) (L := [e62, e64, e67]) ⟨k62.mono (by decide), k64.mono (by decide), k67, trivial⟩ tf27 rfl (fun M => by kernel_rfl) (fun d => by kernel_rfl)
theorem k69 : Fact Tryz.prog (fsT tbl) 4000000 41 e69 := fact (K := 26) (J := 14) (L := []) trivial tf10 rfl (fun M => by kernel_rfl) (fun d => by kernel_rfl)
theorem k70 : Fact Tryz.prog (fsT tbl) 4000000 56 e70 := fact (K := 41) (J := 14) (L := [e69, e59]) ⟨k69, k59, trivial⟩ tf28 rfl (fun M => by kernel_rfl) (fun d => by kernel_rfl)
theorem k71 : Fact Tryz.prog (fsT tbl) 4000000 116 e71 := fact (K := 101) (J := 14) (L := [e30, e33, e38, e60, e68, e70]) ⟨k30, k33.mono (by decide), k38.mono (by decide), k60.mono (by decide), k68.mono (by decide), k70.mono (by decide), trivial⟩ tf7 rfl (fun M => by kernel_rfl) (fun d => by kernel_rfl)
theorem k72 : Fact Tryz.prog (fsT tbl) 4000000 41 e72 := fact (K := 26) (J := 14) (L := []) trivial tf10 rfl (fun M => by kernel_rfl) (fun d => by kernel_rfl)
theorem k73 : Fact Tryz.prog (fsT tbl) 4000000 56 e73 := fact (K := 41) (J := 14) (L := [e72, e58, e59]) ⟨k72, k58, k59, trivial⟩ tf28 rfl (fun M => by kernel_rfl) (fun d => by kernel_rfl)
theorem root : Fact Tryz.prog (fsT tbl) 4000000 131 (5, [], BL true) := fact (K := 116) (J := 14) (L := [e0, e1, e4, e6, e7, e8, e30, e31, e32, e33, e38, e48, e56, e71, e73]) ⟨k0.mono (by decide), k1.mono (by decide), k4.mono (by decide), k6.mono (by decide), k7.mono (by decide), k8.mono (by decide), k30.mono (by decide), k31.mono (by decide), k32.mono (by decide), k33.mono (by decide), k38.mono (by decide), k48.mono (by decide), k56.mono (by decide), k71, k73.mono (by decide), trivial⟩ tf5 rfl (fun M => by kernel_rfl) (fun d => by kernel_rfl)
end Go.Proofs.YtemaoaopenpgcaaGreat
