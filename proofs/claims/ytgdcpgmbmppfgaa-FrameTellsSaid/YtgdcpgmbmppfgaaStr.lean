/-
  A slice of bytes as a string, at this program's types.
-/
import Derived.Test.YtgdcpgmbmppfgaaBase
namespace Go.Proofs.Ytgdcpgmbmppfgaa
open Go.RowKit

theorem str_of {w : World} {B : Nat} {v : Value} {l : List UInt8} (h : RdB B w v l) : (convert 23 9 v).run Try.prog w = .ok (.string ⟨l.toArray⟩) w :=
  run_str h _ _ 5 Try.underlying23 Try.underlying5 Try.underlying9
end Go.Proofs.Ytgdcpgmbmppfgaa
