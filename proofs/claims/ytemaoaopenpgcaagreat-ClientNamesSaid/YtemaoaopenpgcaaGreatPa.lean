/-
  Texts joined: Tc ClT ClN.
-/
import Derived.Test.YtemaoaopenpgcaaGreatTb
import Derived.Test.YtemaoaopenpgcaaGreatRxG
import Derived.Test.YtemaoaopenpgcaaGreatYnA
import Derived.Test.YtemaoaopenpgcaaGreatEg
set_option linter.unusedSimpArgs false
set_option linter.unusedVariables false
set_option maxRecDepth 100000
namespace Go.Proofs.YtemaoaopenpgcaaGreat
open Go Go.Ax
theorem zLJ:(tbl.map noX).map clr=msk (tbl.map noX) (zC9 Tryz.prog 267 0):=by kernel_rfl
theorem tabOK:zFG Glob.any Tryz.prog (fsT tbl):=zQ8 (xs:=[130]) zLJ (by kernel_rfl) fun f hf=>by
 obtain rfl:f=130:=by simpa using hf
 exact⟨Tryz.f130,zFN,by kernel_rfl,Tryz.func130,by kernel_rfl,by kernel_rfl,zQA _⟩
theorem run_args:zCN 4000000 200 5 [] mem0=some (BL true,mem0):=(root 200 (by decide)).2.2 mem0
end Go.Proofs.YtemaoaopenpgcaaGreat
