/-
  NARROWER THAN 'FOR EVERY INPUT', by the rows' own cells (each row's printed sentence says how): PurgeParts: laid · PurgeNames: laid · PurgeAgain: laid · PurgeTells: laid.
  DERIVED. THE GIVEN ROWS OF THIS SEAT. 4 by the template 'for every input the law returns true; each argument reads behind the call as it read before'; 0 by the template 'total and deterministic' (their statements: YtjbninmklbkklaaDoorTotals.lean).
  GIVEN WITH THE SEED: the statements are not yours to turn. If you find one false, say at which input.
  Laid BY PROGRAM, IN A SANDBOX (cutbox-rows.mjs): the forced cells as the released guide's own fill.sh prints them over the translation 8f83166a2ad331e7… (all of the seat's roots in one cut). By AI agents, Wed Nov 11 2026. No macro, syntax, notation, axiom, sorry.
-/
import Derived.Test.YtjbninmklbkklaaDoorChecked
import GoSem.Claim
import GoSem.ClaimJoined
import GoSem.ClaimMapViews
import Derived.JoinedTies
import Derived.KernelRfl
namespace Go.Proofs.YtjbninmklbkklaaDoor
/- THE CELL 'sum', in the pinned program and in every row, IS THE sha256 OF THE DUMP (.gsa) THAT YtjbninmklbkklaaDoorProg.lean LOADS. Nothing in Lean hashes anything: it is a label: what it is worth is what the hold of that sum in a sandbox is worth. -/
noncomputable def Tryd.pinned : Pinned := { name := "ytjbninmklbkklaadoor", sum := "8f83166a2ad331e7e2236780ffbdb1e358abdc94170310d6552a149464ba76c0", checked := Tryd.checked }
namespace Rows
def none {H : Type} : Left H := { results := [], args := [] }

/- WHAT THE LISTED PACKAGE-LEVEL VARIABLES READ AS WHEN THE CALL BEGINS. Each datum BY PROGRAM (the guide's laid-datum.mjs) off the statement by which the dump's own 'gosem.cut.vars' lays the variable. In a bare row this is a premise. The card (YtjbninmklbkklaaDoorCards.lean) ties it to the program's text. -/
def laid_blindstamp_purge_own {H : Type} : DataW H := .map [(.int .u8 17, .lit (.bool false)), (.int .u8 18, .lit (.bool false)), (.int .u8 19, .lit (.bool false)), (.int .u8 20, .lit (.bool false))]

/-- 'blindstamplaw30.PurgeParts': WHATEVER THE INPUT: true; the input reads as it did. -/
def purgePartsSpec : ChangeSpec := { name := "purgeParts", fn := fun _ => fun
  | [d1, d2, d3] => { results := [.lit (.bool true)], args := [d1, d2, d3] }
  | _ => none }
def purgePartsRow : OpenClaim := { program := "ytjbninmklbkklaadoor", sum := "8f83166a2ad331e7e2236780ffbdb1e358abdc94170310d6552a149464ba76c0", func := "blindstamp/blindstamplaw30.PurgeParts", spec := "purgeParts", unfollowed := true, recurses := true, named := ["blindstamp/purge.own"], apart := false, laid := [("blindstamp/purge.own", laid_blindstamp_purge_own)] }
def PurgePartsSaid : Prop := purgePartsRow.holds Tryd.pinned (OpenSpec.ofChange purgePartsSpec)

/-- ITS FALSE NEIGHBOUR: 'it returns false'. Refute it at one input. -/
def purgePartsWrong : ChangeSpec := { name := "purgeParts", fn := fun _ => fun
  | [d1, d2, d3] => { results := [.lit (.bool false)], args := [d1, d2, d3] }
  | _ => none }
def PurgePartsWrongFalsely : Prop := purgePartsRow.holds Tryd.pinned (OpenSpec.ofChange purgePartsWrong)

/-- 'blindstamplaw30.PurgeNames': WHATEVER THE INPUT: true; the input reads as it did. -/
def purgeNamesSpec : ChangeSpec := { name := "purgeNames", fn := fun _ => fun
  | [] => { results := [.lit (.bool true)], args := [] }
  | _ => none }
def purgeNamesRow : OpenClaim := { program := "ytjbninmklbkklaadoor", sum := "8f83166a2ad331e7e2236780ffbdb1e358abdc94170310d6552a149464ba76c0", func := "blindstamp/blindstamplaw30.PurgeNames", spec := "purgeNames", unfollowed := true, recurses := true, named := ["blindstamp/purge.own"], apart := false, laid := [("blindstamp/purge.own", laid_blindstamp_purge_own)] }
def PurgeNamesSaid : Prop := purgeNamesRow.holds Tryd.pinned (OpenSpec.ofChange purgeNamesSpec)

/-- ITS FALSE NEIGHBOUR: 'it returns false'. Refute it at one input. -/
def purgeNamesWrong : ChangeSpec := { name := "purgeNames", fn := fun _ => fun
  | [] => { results := [.lit (.bool false)], args := [] }
  | _ => none }
def PurgeNamesWrongFalsely : Prop := purgeNamesRow.holds Tryd.pinned (OpenSpec.ofChange purgeNamesWrong)

/-- 'blindstamplaw30.PurgeAgain': WHATEVER THE INPUT: true; the input reads as it did. -/
def purgeAgainSpec : ChangeSpec := { name := "purgeAgain", fn := fun _ => fun
  | [d1, d2, d3] => { results := [.lit (.bool true)], args := [d1, d2, d3] }
  | _ => none }
def purgeAgainRow : OpenClaim := { program := "ytjbninmklbkklaadoor", sum := "8f83166a2ad331e7e2236780ffbdb1e358abdc94170310d6552a149464ba76c0", func := "blindstamp/blindstamplaw30.PurgeAgain", spec := "purgeAgain", unfollowed := true, recurses := true, named := ["blindstamp/purge.own"], apart := false, laid := [("blindstamp/purge.own", laid_blindstamp_purge_own)] }
def PurgeAgainSaid : Prop := purgeAgainRow.holds Tryd.pinned (OpenSpec.ofChange purgeAgainSpec)

/-- ITS FALSE NEIGHBOUR: 'it returns false'. Refute it at one input. -/
def purgeAgainWrong : ChangeSpec := { name := "purgeAgain", fn := fun _ => fun
  | [d1, d2, d3] => { results := [.lit (.bool false)], args := [d1, d2, d3] }
  | _ => none }
def PurgeAgainWrongFalsely : Prop := purgeAgainRow.holds Tryd.pinned (OpenSpec.ofChange purgeAgainWrong)

/-- 'blindstamplaw30.PurgeTells': WHATEVER THE INPUT: true; the input reads as it did. -/
def purgeTellsSpec : ChangeSpec := { name := "purgeTells", fn := fun _ => fun
  | [d1, d2, d3] => { results := [.lit (.bool true)], args := [d1, d2, d3] }
  | _ => none }
def purgeTellsRow : OpenClaim := { program := "ytjbninmklbkklaadoor", sum := "8f83166a2ad331e7e2236780ffbdb1e358abdc94170310d6552a149464ba76c0", func := "blindstamp/blindstamplaw30.PurgeTells", spec := "purgeTells", unfollowed := true, recurses := true, named := ["blindstamp/purge.own"], apart := false, laid := [("blindstamp/purge.own", laid_blindstamp_purge_own)] }
def PurgeTellsSaid : Prop := purgeTellsRow.holds Tryd.pinned (OpenSpec.ofChange purgeTellsSpec)

/-- ITS FALSE NEIGHBOUR: 'it returns false'. Refute it at one input. -/
def purgeTellsWrong : ChangeSpec := { name := "purgeTells", fn := fun _ => fun
  | [d1, d2, d3] => { results := [.lit (.bool false)], args := [d1, d2, d3] }
  | _ => none }
def PurgeTellsWrongFalsely : Prop := purgeTellsRow.holds Tryd.pinned (OpenSpec.ofChange purgeTellsWrong)

/- THE SECOND FORM. 'bulk': how many values and letters a reading holds, each counted each time it is reached (what is shared counts as often as it is met; a slice's spare places count too). A statement '..UptoSaid' is the law's where the arguments, and the package variables that the reading takes, are together of bulk at most 1048576: NARROWER than '..Said'. Prove '..Said' where nothing that the law and all that it calls make is longer than what came in: it says more and counts as full. Else prove '..UptoSaid'. A law counts once. -/
mutual
def uptoBulk {H : Type} : DataW H → Nat
  | .lit (.string bytes) => bytes.length + 1
  | .lit _ => 1
  | .nil => 1
  | .ptr d => uptoBulk d + 1
  | .slice elems spare => uptoBulkAll elems + uptoBulkAll spare + 1
  | .agg parts => uptoBulkAll parts + 1
  | .iface _ d => uptoBulk d + 1
  | .map entries => uptoBulkEntries entries + 1
  | .held _ => 1
def uptoBulkAll {H : Type} : List (DataW H) → Nat
  | [] => 0
  | d :: r => uptoBulk d + uptoBulkAll r
def uptoBulkEntries {H : Type} : List (Lit × DataW H) → Nat
  | [] => 0
  | x :: r => uptoBulkEntry x + uptoBulkEntries r
def uptoBulkEntry {H : Type} : Lit × DataW H → Nat
  | (.string bytes, d) => bytes.length + uptoBulk d + 1
  | (_, d) => uptoBulk d + 1
 end
def uptoSmall : (H : Type) → List (DataW H) → Bool := fun _ ds => decide (uptoBulkAll ds ≤ 1048576)
def OpenSpec.upto (s : _root_.Go.ChangeSpec) : _root_.Go.OpenSpec := { _root_.Go.OpenSpec.ofChange s with cond := some uptoSmall }

/-- 'blindstamplaw30.PurgeParts', WHERE WHAT IT READS IS OF BULK AT MOST 1048576: true; the input reads as it did. -/
def purgePartsUptoRow : OpenClaim := { program := "ytjbninmklbkklaadoor", sum := "8f83166a2ad331e7e2236780ffbdb1e358abdc94170310d6552a149464ba76c0", func := "blindstamp/blindstamplaw30.PurgeParts", spec := "purgeParts", unfollowed := true, recurses := true, named := ["blindstamp/purge.own"], apart := false, laid := [("blindstamp/purge.own", laid_blindstamp_purge_own)], narrowed := true }
def PurgePartsUptoSaid : Prop := purgePartsUptoRow.holds Tryd.pinned (OpenSpec.upto purgePartsSpec)

/-- 'blindstamplaw30.PurgeNames', WHERE WHAT IT READS IS OF BULK AT MOST 1048576: true; the input reads as it did. -/
def purgeNamesUptoRow : OpenClaim := { program := "ytjbninmklbkklaadoor", sum := "8f83166a2ad331e7e2236780ffbdb1e358abdc94170310d6552a149464ba76c0", func := "blindstamp/blindstamplaw30.PurgeNames", spec := "purgeNames", unfollowed := true, recurses := true, named := ["blindstamp/purge.own"], apart := false, laid := [("blindstamp/purge.own", laid_blindstamp_purge_own)], narrowed := true }
def PurgeNamesUptoSaid : Prop := purgeNamesUptoRow.holds Tryd.pinned (OpenSpec.upto purgeNamesSpec)

/-- 'blindstamplaw30.PurgeAgain', WHERE WHAT IT READS IS OF BULK AT MOST 1048576: true; the input reads as it did. -/
def purgeAgainUptoRow : OpenClaim := { program := "ytjbninmklbkklaadoor", sum := "8f83166a2ad331e7e2236780ffbdb1e358abdc94170310d6552a149464ba76c0", func := "blindstamp/blindstamplaw30.PurgeAgain", spec := "purgeAgain", unfollowed := true, recurses := true, named := ["blindstamp/purge.own"], apart := false, laid := [("blindstamp/purge.own", laid_blindstamp_purge_own)], narrowed := true }
def PurgeAgainUptoSaid : Prop := purgeAgainUptoRow.holds Tryd.pinned (OpenSpec.upto purgeAgainSpec)

/-- 'blindstamplaw30.PurgeTells', WHERE WHAT IT READS IS OF BULK AT MOST 1048576: true; the input reads as it did. -/
def purgeTellsUptoRow : OpenClaim := { program := "ytjbninmklbkklaadoor", sum := "8f83166a2ad331e7e2236780ffbdb1e358abdc94170310d6552a149464ba76c0", func := "blindstamp/blindstamplaw30.PurgeTells", spec := "purgeTells", unfollowed := true, recurses := true, named := ["blindstamp/purge.own"], apart := false, laid := [("blindstamp/purge.own", laid_blindstamp_purge_own)], narrowed := true }
def PurgeTellsUptoSaid : Prop := purgeTellsUptoRow.holds Tryd.pinned (OpenSpec.upto purgeTellsSpec)

end Rows
end Go.Proofs.YtjbninmklbkklaaDoor
