/-
  Texts joined: Tc ClT ClN.
-/
import Derived.Test.YtemaoaopenpgcaaGreatTb
import Derived.Test.YtemaoaopenpgcaaGreatRxG
import Derived.Test.YtemaoaopenpgcaaGreatYnA
import Derived.Test.YtemaoaopenpgcaaGreatEg
set_option linter.unusedSimpArgs false
set_option linter.unusedVariables false
set_option maxRecDepth 100000
namespace Go.Proofs.YtemaoaopenpgcaaGreat
open Go Go.Ax
theorem zLE:(tbl.map noX).map clr=msk (tbl.map noX) (zC7 Tryz.prog 267 0):=by kernel_rfl
theorem tabOK:zFC Glob.any Tryz.prog (fsT tbl):=zQ5 (xs:=[130]) zLE (by kernel_rfl) fun f hf=>by
 obtain rfl:f=130:=by simpa using hf
 exact⟨Tryz.f130,zFK,by kernel_rfl,Tryz.func130,by kernel_rfl,by kernel_rfl,zQ7 _⟩
theorem run_args:zCN 4000000 200 5 [] mem0=some (BL true,mem0):=(root 200 (by decide)).2.2 mem0
end Go.Proofs.YtemaoaopenpgcaaGreat
