/-
  labels: Meet, as the executor has it.
-/
import Derived.Test.YtakaojjlfcmphaaEf
set_option linter.unusedSimpArgs false
set_option linter.unusedVariables false
namespace Go.Proofs.Ytakaojjlfcmphaa
open Go Go.Ax
def andI (c d : Int) : Int := IntKind.u32.wrap ((BitVec.ofInt 32 c &&& BitVec.ofInt 32 d).toNat : Nat)
def zFX (args : List AV) : Option AV := match args with
  | [.agg [.sc (.int .u8 a), .sc (.int .u32 c)], .agg [.sc (.int .u8 b), .sc (.int .u32 d)]] =>
    some (match decide (15 < a) || decide (15 < b) with
      | true => .tup [.agg [.sc (.int .u8 0), .sc (.int .u32 0)], .sc (.int .i64 8)]
      | false => .tup [.agg [.sc (.int .u8 (if b < a then b else a)), .sc (.int .u32 (andI c d))], .sc (.int .i64 0)])
  | _ => none
end Go.Proofs.Ytakaojjlfcmphaa
