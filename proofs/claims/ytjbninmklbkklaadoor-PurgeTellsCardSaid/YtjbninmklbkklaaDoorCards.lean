/-
  DERIVED. GIVEN WITH THE SEED: THE CARDS: each row of YtjbninmklbkklaaDoorRows.lean that lists a variable, with what it lists TIED to the program's text (the seventh form; the later family's looks); each row that meets fmt, with fmt's text TOLD by the authors' own Lean function (tested against real Go, not proved from fmt's source: count such statements apart). THE CARD IS WHAT COUNTS. Prove the row's statement (the work); the ties are given (YtjbninmklbkklaaDoorTie.lean); close each card by the builder's one call (the guide's Derived/Test/ToyasCard.lean, 'card_holds'). Laid BY PROGRAM, IN A SANDBOX (cutbox-door.mjs). By AI agents, Wed Nov 11 2026. No macro, syntax, notation, axiom, sorry.
-/
import Derived.Test.YtjbninmklbkklaaDoorRows
import GoSem.ClaimSeven
namespace Go.Proofs.YtjbninmklbkklaaDoor
namespace Rows

/-- THE TIED CARD OF 'blindstamplaw30.PurgeParts'. -/
def purgePartsCard : Claim7 := { stood := { row := purgePartsRow, standIns := [], harness := (true, "f9fba257a798f6bb97aa0c80b4f9faafd788322183ae7b623f5f8ef20a7f7b7f"), looks := false }, kinds := [], alts := [], laidByText := true, laidKinds := [.mapped], laidTests := true, laidLooks := .later }
def PurgePartsCardSaid : Prop := Claim7.holds Tryd.pinned (.plain (OpenSpec.ofChange purgePartsSpec)) purgePartsCard

/-- THE TIED CARD OF 'blindstamplaw30.PurgeNames'. -/
def purgeNamesCard : Claim7 := { stood := { row := purgeNamesRow, standIns := [], harness := (true, "f9fba257a798f6bb97aa0c80b4f9faafd788322183ae7b623f5f8ef20a7f7b7f"), looks := false }, kinds := [], alts := [], laidByText := true, laidKinds := [.mapped], laidTests := true, laidLooks := .later }
def PurgeNamesCardSaid : Prop := Claim7.holds Tryd.pinned (.plain (OpenSpec.ofChange purgeNamesSpec)) purgeNamesCard

/-- THE TIED CARD OF 'blindstamplaw30.PurgeAgain'. -/
def purgeAgainCard : Claim7 := { stood := { row := purgeAgainRow, standIns := [], harness := (true, "f9fba257a798f6bb97aa0c80b4f9faafd788322183ae7b623f5f8ef20a7f7b7f"), looks := false }, kinds := [], alts := [], laidByText := true, laidKinds := [.mapped], laidTests := true, laidLooks := .later }
def PurgeAgainCardSaid : Prop := Claim7.holds Tryd.pinned (.plain (OpenSpec.ofChange purgeAgainSpec)) purgeAgainCard

/-- THE TIED CARD OF 'blindstamplaw30.PurgeTells'. -/
def purgeTellsCard : Claim7 := { stood := { row := purgeTellsRow, standIns := [], harness := (true, "f9fba257a798f6bb97aa0c80b4f9faafd788322183ae7b623f5f8ef20a7f7b7f"), looks := false }, kinds := [], alts := [], laidByText := true, laidKinds := [.mapped], laidTests := true, laidLooks := .later }
def PurgeTellsCardSaid : Prop := Claim7.holds Tryd.pinned (.plain (OpenSpec.ofChange purgeTellsSpec)) purgeTellsCard

/-- THE SECOND FORM's CARD OF 'blindstamplaw30.PurgeParts'. -/
def purgePartsUptoCard : Claim7 := { stood := { row := purgePartsUptoRow, standIns := [], harness := (true, "f9fba257a798f6bb97aa0c80b4f9faafd788322183ae7b623f5f8ef20a7f7b7f"), looks := false }, kinds := [], alts := [], laidByText := true, laidKinds := [.mapped], laidTests := true, laidLooks := .later }
def PurgePartsUptoCardSaid : Prop := Claim7.holds Tryd.pinned (.plain (OpenSpec.upto purgePartsSpec)) purgePartsUptoCard

/-- THE SECOND FORM's CARD OF 'blindstamplaw30.PurgeNames'. -/
def purgeNamesUptoCard : Claim7 := { stood := { row := purgeNamesUptoRow, standIns := [], harness := (true, "f9fba257a798f6bb97aa0c80b4f9faafd788322183ae7b623f5f8ef20a7f7b7f"), looks := false }, kinds := [], alts := [], laidByText := true, laidKinds := [.mapped], laidTests := true, laidLooks := .later }
def PurgeNamesUptoCardSaid : Prop := Claim7.holds Tryd.pinned (.plain (OpenSpec.upto purgeNamesSpec)) purgeNamesUptoCard

/-- THE SECOND FORM's CARD OF 'blindstamplaw30.PurgeAgain'. -/
def purgeAgainUptoCard : Claim7 := { stood := { row := purgeAgainUptoRow, standIns := [], harness := (true, "f9fba257a798f6bb97aa0c80b4f9faafd788322183ae7b623f5f8ef20a7f7b7f"), looks := false }, kinds := [], alts := [], laidByText := true, laidKinds := [.mapped], laidTests := true, laidLooks := .later }
def PurgeAgainUptoCardSaid : Prop := Claim7.holds Tryd.pinned (.plain (OpenSpec.upto purgeAgainSpec)) purgeAgainUptoCard

/-- THE SECOND FORM's CARD OF 'blindstamplaw30.PurgeTells'. -/
def purgeTellsUptoCard : Claim7 := { stood := { row := purgeTellsUptoRow, standIns := [], harness := (true, "f9fba257a798f6bb97aa0c80b4f9faafd788322183ae7b623f5f8ef20a7f7b7f"), looks := false }, kinds := [], alts := [], laidByText := true, laidKinds := [.mapped], laidTests := true, laidLooks := .later }
def PurgeTellsUptoCardSaid : Prop := Claim7.holds Tryd.pinned (.plain (OpenSpec.upto purgeTellsSpec)) purgeTellsUptoCard
end Rows
end Go.Proofs.YtjbninmklbkklaaDoor
