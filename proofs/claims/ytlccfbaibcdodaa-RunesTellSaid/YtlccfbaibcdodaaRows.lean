/-
  No cell of these rows narrows 'for every input' (looked for: loops, veiled, ifaces, maps, wideKeys, modest, calm, conditions, laid).
  DERIVED. THE GIVEN ROWS OF THIS SEAT. 4 by the template 'for every input the law returns true; each argument reads behind the call as it read before'; 0 by the template 'total and deterministic' (their statements: YtlccfbaibcdodaaTotals.lean).
  GIVEN WITH THE SEED: the statements are not yours to turn. If you find one false, say at which input.
  Laid BY PROGRAM, IN A SANDBOX (cutbox-rows.mjs): the forced cells as the released guide's own fill.sh prints them over the translation 53cfca702a016008… (all of the seat's roots in one cut). By AI agents, Wed Nov 11 2026. No macro, syntax, notation, axiom, sorry.
-/
import Derived.Test.YtlccfbaibcdodaaChecked
import GoSem.Claim
import GoSem.ClaimJoined
import GoSem.ClaimMapViews
import Derived.JoinedTies
import Derived.KernelRfl
namespace Go.Proofs.Ytlccfbaibcdodaa
/- THE CELL 'sum', in the pinned program and in every row, IS THE sha256 OF THE DUMP (.gsa) THAT YtlccfbaibcdodaaProg.lean LOADS. Nothing in Lean hashes anything: it is a label: what it is worth is what the hold of that sum in a sandbox is worth. -/
noncomputable def Try.pinned : Pinned := { name := "ytlccfbaibcdodaa", sum := "53cfca702a016008833de8d8a8f68c7a041ea29e763e857f255cf9356366cfe6", checked := Try.checked }
namespace Rows
def none {H : Type} : Left H := { results := [], args := [] }

/-- 'blindstamplaw04.RunesHidden': WHATEVER THE INPUT: true; the input reads as it did. -/
def runesHiddenSpec : ChangeSpec := { name := "runesHidden", fn := fun _ => fun
  | [d1, d2, d3] => { results := [.lit (.bool true)], args := [d1, d2, d3] }
  | _ => none }
def runesHiddenRow : OpenClaim := { program := "ytlccfbaibcdodaa", sum := "53cfca702a016008833de8d8a8f68c7a041ea29e763e857f255cf9356366cfe6", func := "blindstamp/blindstamplaw04.RunesHidden", spec := "runesHidden", unfollowed := true, recurses := true, apart := false }
def RunesHiddenSaid : Prop := runesHiddenRow.holds Try.pinned (OpenSpec.ofChange runesHiddenSpec)

/-- ITS FALSE NEIGHBOUR: 'it returns false'. Refute it at one input. -/
def runesHiddenWrong : ChangeSpec := { name := "runesHidden", fn := fun _ => fun
  | [d1, d2, d3] => { results := [.lit (.bool false)], args := [d1, d2, d3] }
  | _ => none }
def RunesHiddenWrongFalsely : Prop := runesHiddenRow.holds Try.pinned (OpenSpec.ofChange runesHiddenWrong)

/-- 'blindstamplaw04.RunesBack': WHATEVER THE INPUT: true; the input reads as it did. -/
def runesBackSpec : ChangeSpec := { name := "runesBack", fn := fun _ => fun
  | [d1, d2, d3] => { results := [.lit (.bool true)], args := [d1, d2, d3] }
  | _ => none }
def runesBackRow : OpenClaim := { program := "ytlccfbaibcdodaa", sum := "53cfca702a016008833de8d8a8f68c7a041ea29e763e857f255cf9356366cfe6", func := "blindstamp/blindstamplaw04.RunesBack", spec := "runesBack", inPlace := ["internal/abi.NoEscape"], unfollowed := true, recurses := true, apart := false }
def RunesBackSaid : Prop := runesBackRow.holds Try.pinned (OpenSpec.ofChange runesBackSpec)

/-- ITS FALSE NEIGHBOUR: 'it returns false'. Refute it at one input. -/
def runesBackWrong : ChangeSpec := { name := "runesBack", fn := fun _ => fun
  | [d1, d2, d3] => { results := [.lit (.bool false)], args := [d1, d2, d3] }
  | _ => none }
def RunesBackWrongFalsely : Prop := runesBackRow.holds Try.pinned (OpenSpec.ofChange runesBackWrong)

/-- 'blindstamplaw04.RunesNames': WHATEVER THE INPUT: true; the input reads as it did. -/
def runesNamesSpec : ChangeSpec := { name := "runesNames", fn := fun _ => fun
  | [] => { results := [.lit (.bool true)], args := [] }
  | _ => none }
def runesNamesRow : OpenClaim := { program := "ytlccfbaibcdodaa", sum := "53cfca702a016008833de8d8a8f68c7a041ea29e763e857f255cf9356366cfe6", func := "blindstamp/blindstamplaw04.RunesNames", spec := "runesNames", inPlace := ["internal/abi.NoEscape"], unfollowed := true, recurses := true, apart := false }
def RunesNamesSaid : Prop := runesNamesRow.holds Try.pinned (OpenSpec.ofChange runesNamesSpec)

/-- ITS FALSE NEIGHBOUR: 'it returns false'. Refute it at one input. -/
def runesNamesWrong : ChangeSpec := { name := "runesNames", fn := fun _ => fun
  | [] => { results := [.lit (.bool false)], args := [] }
  | _ => none }
def RunesNamesWrongFalsely : Prop := runesNamesRow.holds Try.pinned (OpenSpec.ofChange runesNamesWrong)

/-- 'blindstamplaw04.RunesTell': WHATEVER THE INPUT: true; the input reads as it did. -/
def runesTellSpec : ChangeSpec := { name := "runesTell", fn := fun _ => fun
  | [d1, d2, d3, d4, d5] => { results := [.lit (.bool true)], args := [d1, d2, d3, d4, d5] }
  | _ => none }
def runesTellRow : OpenClaim := { program := "ytlccfbaibcdodaa", sum := "53cfca702a016008833de8d8a8f68c7a041ea29e763e857f255cf9356366cfe6", func := "blindstamp/blindstamplaw04.RunesTell", spec := "runesTell", inPlace := ["internal/abi.NoEscape"], unfollowed := true, recurses := true, apart := false }
def RunesTellSaid : Prop := runesTellRow.holds Try.pinned (OpenSpec.ofChange runesTellSpec)

/-- ITS FALSE NEIGHBOUR: 'it returns false'. Refute it at one input. -/
def runesTellWrong : ChangeSpec := { name := "runesTell", fn := fun _ => fun
  | [d1, d2, d3, d4, d5] => { results := [.lit (.bool false)], args := [d1, d2, d3, d4, d5] }
  | _ => none }
def RunesTellWrongFalsely : Prop := runesTellRow.holds Try.pinned (OpenSpec.ofChange runesTellWrong)

/- THE SECOND FORM. 'bulk': how many values and letters a reading holds, each counted each time it is reached (what is shared counts as often as it is met; a slice's spare places count too). A statement '..UptoSaid' is the law's where the arguments, and the package variables that the reading takes, are together of bulk at most 1048576: NARROWER than '..Said'. Prove '..Said' where nothing that the law and all that it calls make is longer than what came in: it says more and counts as full. Else prove '..UptoSaid'. A law counts once. -/
mutual
def uptoBulk {H : Type} : DataW H → Nat
  | .lit (.string bytes) => bytes.length + 1
  | .lit _ => 1
  | .nil => 1
  | .ptr d => uptoBulk d + 1
  | .slice elems spare => uptoBulkAll elems + uptoBulkAll spare + 1
  | .agg parts => uptoBulkAll parts + 1
  | .iface _ d => uptoBulk d + 1
  | .map entries => uptoBulkEntries entries + 1
  | .held _ => 1
def uptoBulkAll {H : Type} : List (DataW H) → Nat
  | [] => 0
  | d :: r => uptoBulk d + uptoBulkAll r
def uptoBulkEntries {H : Type} : List (Lit × DataW H) → Nat
  | [] => 0
  | x :: r => uptoBulkEntry x + uptoBulkEntries r
def uptoBulkEntry {H : Type} : Lit × DataW H → Nat
  | (.string bytes, d) => bytes.length + uptoBulk d + 1
  | (_, d) => uptoBulk d + 1
 end
def uptoSmall : (H : Type) → List (DataW H) → Bool := fun _ ds => decide (uptoBulkAll ds ≤ 1048576)
def OpenSpec.upto (s : _root_.Go.ChangeSpec) : _root_.Go.OpenSpec := { _root_.Go.OpenSpec.ofChange s with cond := some uptoSmall }

/-- 'blindstamplaw04.RunesHidden', WHERE WHAT IT READS IS OF BULK AT MOST 1048576: true; the input reads as it did. -/
def runesHiddenUptoRow : OpenClaim := { program := "ytlccfbaibcdodaa", sum := "53cfca702a016008833de8d8a8f68c7a041ea29e763e857f255cf9356366cfe6", func := "blindstamp/blindstamplaw04.RunesHidden", spec := "runesHidden", unfollowed := true, recurses := true, apart := false, narrowed := true }
def RunesHiddenUptoSaid : Prop := runesHiddenUptoRow.holds Try.pinned (OpenSpec.upto runesHiddenSpec)

/-- 'blindstamplaw04.RunesBack', WHERE WHAT IT READS IS OF BULK AT MOST 1048576: true; the input reads as it did. -/
def runesBackUptoRow : OpenClaim := { program := "ytlccfbaibcdodaa", sum := "53cfca702a016008833de8d8a8f68c7a041ea29e763e857f255cf9356366cfe6", func := "blindstamp/blindstamplaw04.RunesBack", spec := "runesBack", inPlace := ["internal/abi.NoEscape"], unfollowed := true, recurses := true, apart := false, narrowed := true }
def RunesBackUptoSaid : Prop := runesBackUptoRow.holds Try.pinned (OpenSpec.upto runesBackSpec)

/-- 'blindstamplaw04.RunesNames', WHERE WHAT IT READS IS OF BULK AT MOST 1048576: true; the input reads as it did. -/
def runesNamesUptoRow : OpenClaim := { program := "ytlccfbaibcdodaa", sum := "53cfca702a016008833de8d8a8f68c7a041ea29e763e857f255cf9356366cfe6", func := "blindstamp/blindstamplaw04.RunesNames", spec := "runesNames", inPlace := ["internal/abi.NoEscape"], unfollowed := true, recurses := true, apart := false, narrowed := true }
def RunesNamesUptoSaid : Prop := runesNamesUptoRow.holds Try.pinned (OpenSpec.upto runesNamesSpec)

/-- 'blindstamplaw04.RunesTell', WHERE WHAT IT READS IS OF BULK AT MOST 1048576: true; the input reads as it did. -/
def runesTellUptoRow : OpenClaim := { program := "ytlccfbaibcdodaa", sum := "53cfca702a016008833de8d8a8f68c7a041ea29e763e857f255cf9356366cfe6", func := "blindstamp/blindstamplaw04.RunesTell", spec := "runesTell", inPlace := ["internal/abi.NoEscape"], unfollowed := true, recurses := true, apart := false, narrowed := true }
def RunesTellUptoSaid : Prop := runesTellUptoRow.holds Try.pinned (OpenSpec.upto runesTellSpec)

end Rows
end Go.Proofs.Ytlccfbaibcdodaa
