/-
  No cell of these rows narrows 'for every input' (looked for: loops, veiled, ifaces, maps, wideKeys, modest, calm, conditions, laid).
  DERIVED. THE GIVEN ROWS OF THIS SEAT. 5 by the template 'for every input the law returns true; each argument reads behind the call as it read before'; 0 by the template 'total and deterministic' (their statements: YtbemomagabjbnaaTotals.lean).
  GIVEN WITH THE SEED: the statements are not yours to turn. If you find one false, say at which input.
  Laid BY PROGRAM, IN A SANDBOX (cutbox-rows.mjs): the forced cells as the released guide's own fill.sh prints them over the translation 3ff804ef783f010a… (all of the seat's roots in one cut). By AI agents, Wed Nov 11 2026. No macro, syntax, notation, axiom, sorry.
-/
import Derived.Test.YtbemomagabjbnaaChecked
import GoSem.Claim
import GoSem.ClaimJoined
import GoSem.ClaimMapViews
import Derived.JoinedTies
import Derived.KernelRfl
namespace Go.Proofs.Ytbemomagabjbnaa
/- THE CELL 'sum', in the pinned program and in every row, IS THE sha256 OF THE DUMP (.gsa) THAT YtbemomagabjbnaaProg.lean LOADS. Nothing in Lean hashes anything: it is a label: what it is worth is what the hold of that sum in a sandbox is worth. -/
noncomputable def Try.pinned : Pinned := { name := "ytbemomagabjbnaa", sum := "3ff804ef783f010a5d263464f9b7456feb0475c68d87eed4bbd5ca713b35fb40", checked := Try.checked }
namespace Rows
def none {H : Type} : Left H := { results := [], args := [] }

/-- 'blindstamplaw25.LinkRenews': WHATEVER THE INPUT: true; the input reads as it did. -/
def linkRenewsSpec : ChangeSpec := { name := "linkRenews", fn := fun _ => fun
  | [d1, d2, d3] => { results := [.lit (.bool true)], args := [d1, d2, d3] }
  | _ => none }
def linkRenewsRow : OpenClaim := { program := "ytbemomagabjbnaa", sum := "3ff804ef783f010a5d263464f9b7456feb0475c68d87eed4bbd5ca713b35fb40", func := "blindstamp/blindstamplaw25.LinkRenews", spec := "linkRenews", apart := false }
def LinkRenewsSaid : Prop := linkRenewsRow.holds Try.pinned (OpenSpec.ofChange linkRenewsSpec)

/-- ITS FALSE NEIGHBOUR: 'it returns false'. Refute it at one input. -/
def linkRenewsWrong : ChangeSpec := { name := "linkRenews", fn := fun _ => fun
  | [d1, d2, d3] => { results := [.lit (.bool false)], args := [d1, d2, d3] }
  | _ => none }
def LinkRenewsWrongFalsely : Prop := linkRenewsRow.holds Try.pinned (OpenSpec.ofChange linkRenewsWrong)

/-- 'blindstamplaw25.LinkOnce': WHATEVER THE INPUT: true; the input reads as it did. -/
def linkOnceSpec : ChangeSpec := { name := "linkOnce", fn := fun _ => fun
  | [d1, d2] => { results := [.lit (.bool true)], args := [d1, d2] }
  | _ => none }
def linkOnceRow : OpenClaim := { program := "ytbemomagabjbnaa", sum := "3ff804ef783f010a5d263464f9b7456feb0475c68d87eed4bbd5ca713b35fb40", func := "blindstamp/blindstamplaw25.LinkOnce", spec := "linkOnce", unfollowed := true, recurses := true, apart := false }
def LinkOnceSaid : Prop := linkOnceRow.holds Try.pinned (OpenSpec.ofChange linkOnceSpec)

/-- ITS FALSE NEIGHBOUR: 'it returns false'. Refute it at one input. -/
def linkOnceWrong : ChangeSpec := { name := "linkOnce", fn := fun _ => fun
  | [d1, d2] => { results := [.lit (.bool false)], args := [d1, d2] }
  | _ => none }
def LinkOnceWrongFalsely : Prop := linkOnceRow.holds Try.pinned (OpenSpec.ofChange linkOnceWrong)

/-- 'blindstamplaw25.LinkWraps': WHATEVER THE INPUT: true; the input reads as it did. -/
def linkWrapsSpec : ChangeSpec := { name := "linkWraps", fn := fun _ => fun
  | [d1, d2] => { results := [.lit (.bool true)], args := [d1, d2] }
  | _ => none }
def linkWrapsRow : OpenClaim := { program := "ytbemomagabjbnaa", sum := "3ff804ef783f010a5d263464f9b7456feb0475c68d87eed4bbd5ca713b35fb40", func := "blindstamp/blindstamplaw25.LinkWraps", spec := "linkWraps", apart := false }
def LinkWrapsSaid : Prop := linkWrapsRow.holds Try.pinned (OpenSpec.ofChange linkWrapsSpec)

/-- ITS FALSE NEIGHBOUR: 'it returns false'. Refute it at one input. -/
def linkWrapsWrong : ChangeSpec := { name := "linkWraps", fn := fun _ => fun
  | [d1, d2] => { results := [.lit (.bool false)], args := [d1, d2] }
  | _ => none }
def LinkWrapsWrongFalsely : Prop := linkWrapsRow.holds Try.pinned (OpenSpec.ofChange linkWrapsWrong)

/-- 'blindstamplaw25.LinkFrames': WHATEVER THE INPUT: true; the input reads as it did. -/
def linkFramesSpec : ChangeSpec := { name := "linkFrames", fn := fun _ => fun
  | [d1, d2, d3] => { results := [.lit (.bool true)], args := [d1, d2, d3] }
  | _ => none }
def linkFramesRow : OpenClaim := { program := "ytbemomagabjbnaa", sum := "3ff804ef783f010a5d263464f9b7456feb0475c68d87eed4bbd5ca713b35fb40", func := "blindstamp/blindstamplaw25.LinkFrames", spec := "linkFrames", apart := false }
def LinkFramesSaid : Prop := linkFramesRow.holds Try.pinned (OpenSpec.ofChange linkFramesSpec)

/-- ITS FALSE NEIGHBOUR: 'it returns false'. Refute it at one input. -/
def linkFramesWrong : ChangeSpec := { name := "linkFrames", fn := fun _ => fun
  | [d1, d2, d3] => { results := [.lit (.bool false)], args := [d1, d2, d3] }
  | _ => none }
def LinkFramesWrongFalsely : Prop := linkFramesRow.holds Try.pinned (OpenSpec.ofChange linkFramesWrong)

/-- 'blindstamplaw25.LinkNames': WHATEVER THE INPUT: true; the input reads as it did. -/
def linkNamesSpec : ChangeSpec := { name := "linkNames", fn := fun _ => fun
  | [] => { results := [.lit (.bool true)], args := [] }
  | _ => none }
def linkNamesRow : OpenClaim := { program := "ytbemomagabjbnaa", sum := "3ff804ef783f010a5d263464f9b7456feb0475c68d87eed4bbd5ca713b35fb40", func := "blindstamp/blindstamplaw25.LinkNames", spec := "linkNames", unfollowed := true, recurses := true, apart := false }
def LinkNamesSaid : Prop := linkNamesRow.holds Try.pinned (OpenSpec.ofChange linkNamesSpec)

/-- ITS FALSE NEIGHBOUR: 'it returns false'. Refute it at one input. -/
def linkNamesWrong : ChangeSpec := { name := "linkNames", fn := fun _ => fun
  | [] => { results := [.lit (.bool false)], args := [] }
  | _ => none }
def LinkNamesWrongFalsely : Prop := linkNamesRow.holds Try.pinned (OpenSpec.ofChange linkNamesWrong)

/- THE SECOND FORM. 'bulk': how many values and letters a reading holds, each counted each time it is reached (what is shared counts as often as it is met; a slice's spare places count too). A statement '..UptoSaid' is the law's where the arguments, and the package variables that the reading takes, are together of bulk at most 1048576: NARROWER than '..Said'. Prove '..Said' where nothing that the law and all that it calls make is longer than what came in: it says more and counts as full. Else prove '..UptoSaid'. A law counts once. -/
mutual
def uptoBulk {H : Type} : DataW H → Nat
  | .lit (.string bytes) => bytes.length + 1
  | .lit _ => 1
  | .nil => 1
  | .ptr d => uptoBulk d + 1
  | .slice elems spare => uptoBulkAll elems + uptoBulkAll spare + 1
  | .agg parts => uptoBulkAll parts + 1
  | .iface _ d => uptoBulk d + 1
  | .map entries => uptoBulkEntries entries + 1
  | .held _ => 1
def uptoBulkAll {H : Type} : List (DataW H) → Nat
  | [] => 0
  | d :: r => uptoBulk d + uptoBulkAll r
def uptoBulkEntries {H : Type} : List (Lit × DataW H) → Nat
  | [] => 0
  | x :: r => uptoBulkEntry x + uptoBulkEntries r
def uptoBulkEntry {H : Type} : Lit × DataW H → Nat
  | (.string bytes, d) => bytes.length + uptoBulk d + 1
  | (_, d) => uptoBulk d + 1
 end
def uptoSmall : (H : Type) → List (DataW H) → Bool := fun _ ds => decide (uptoBulkAll ds ≤ 1048576)
def OpenSpec.upto (s : _root_.Go.ChangeSpec) : _root_.Go.OpenSpec := { _root_.Go.OpenSpec.ofChange s with cond := some uptoSmall }

/-- 'blindstamplaw25.LinkRenews', WHERE WHAT IT READS IS OF BULK AT MOST 1048576: true; the input reads as it did. -/
def linkRenewsUptoRow : OpenClaim := { program := "ytbemomagabjbnaa", sum := "3ff804ef783f010a5d263464f9b7456feb0475c68d87eed4bbd5ca713b35fb40", func := "blindstamp/blindstamplaw25.LinkRenews", spec := "linkRenews", apart := false, narrowed := true }
def LinkRenewsUptoSaid : Prop := linkRenewsUptoRow.holds Try.pinned (OpenSpec.upto linkRenewsSpec)

/-- 'blindstamplaw25.LinkOnce', WHERE WHAT IT READS IS OF BULK AT MOST 1048576: true; the input reads as it did. -/
def linkOnceUptoRow : OpenClaim := { program := "ytbemomagabjbnaa", sum := "3ff804ef783f010a5d263464f9b7456feb0475c68d87eed4bbd5ca713b35fb40", func := "blindstamp/blindstamplaw25.LinkOnce", spec := "linkOnce", unfollowed := true, recurses := true, apart := false, narrowed := true }
def LinkOnceUptoSaid : Prop := linkOnceUptoRow.holds Try.pinned (OpenSpec.upto linkOnceSpec)

/-- 'blindstamplaw25.LinkWraps', WHERE WHAT IT READS IS OF BULK AT MOST 1048576: true; the input reads as it did. -/
def linkWrapsUptoRow : OpenClaim := { program := "ytbemomagabjbnaa", sum := "3ff804ef783f010a5d263464f9b7456feb0475c68d87eed4bbd5ca713b35fb40", func := "blindstamp/blindstamplaw25.LinkWraps", spec := "linkWraps", apart := false, narrowed := true }
def LinkWrapsUptoSaid : Prop := linkWrapsUptoRow.holds Try.pinned (OpenSpec.upto linkWrapsSpec)

/-- 'blindstamplaw25.LinkFrames', WHERE WHAT IT READS IS OF BULK AT MOST 1048576: true; the input reads as it did. -/
def linkFramesUptoRow : OpenClaim := { program := "ytbemomagabjbnaa", sum := "3ff804ef783f010a5d263464f9b7456feb0475c68d87eed4bbd5ca713b35fb40", func := "blindstamp/blindstamplaw25.LinkFrames", spec := "linkFrames", apart := false, narrowed := true }
def LinkFramesUptoSaid : Prop := linkFramesUptoRow.holds Try.pinned (OpenSpec.upto linkFramesSpec)

/-- 'blindstamplaw25.LinkNames', WHERE WHAT IT READS IS OF BULK AT MOST 1048576: true; the input reads as it did. -/
def linkNamesUptoRow : OpenClaim := { program := "ytbemomagabjbnaa", sum := "3ff804ef783f010a5d263464f9b7456feb0475c68d87eed4bbd5ca713b35fb40", func := "blindstamp/blindstamplaw25.LinkNames", spec := "linkNames", unfollowed := true, recurses := true, apart := false, narrowed := true }
def LinkNamesUptoSaid : Prop := linkNamesUptoRow.holds Try.pinned (OpenSpec.upto linkNamesSpec)

end Rows
end Go.Proofs.Ytbemomagabjbnaa
