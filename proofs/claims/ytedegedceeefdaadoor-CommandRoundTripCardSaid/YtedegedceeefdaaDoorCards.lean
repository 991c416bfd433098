/-
  DERIVED. GIVEN WITH THE SEED: THE CARDS: each row of YtedegedceeefdaaDoorRows.lean that lists a variable, with what it lists TIED to the program's text (the seventh form; the later family's looks); each row that meets fmt, with fmt's text TOLD by the authors' own Lean function (tested against real Go, not proved from fmt's source: count such statements apart). THE CARD IS WHAT COUNTS. Prove the row's statement (the work); the ties are given (YtedegedceeefdaaDoorTie.lean); close each card by the builder's one call (the guide's Derived/Test/ToyasCard.lean, 'card_holds'). Laid BY PROGRAM, IN A SANDBOX (cutbox-door.mjs). By AI agents, Wed Nov 11 2026. No macro, syntax, notation, axiom, sorry.
-/
import Derived.Test.YtedegedceeefdaaDoorRows
import GoSem.ClaimSeven
namespace Go.Proofs.YtedegedceeefdaaDoor
namespace Rows

/-- THE TIED CARD OF 'custodylaw28.CommandMatchesSpec'. -/
def commandMatchesSpecCard : Claim7 := { stood := { row := commandMatchesSpecRow, standIns := [], harness := (true, "063d8e3e1cec467c49fe5ef97593c1e22b4843db90c6cecddc6eb7faab9ccf1f"), looks := false }, kinds := [], alts := [], laidByText := true, laidKinds := [.data, .data, .widerDeep], laidTests := true, laidLooks := .later }
def CommandMatchesSpecCardSaid : Prop := Claim7.holds Tryd.pinned (.plain (OpenSpec.ofChange commandMatchesSpecSpec)) commandMatchesSpecCard

/-- THE TIED CARD OF 'custodylaw28.CommandDecodesAsSpecified'. -/
def commandDecodesAsSpecifiedCard : Claim7 := { stood := { row := commandDecodesAsSpecifiedRow, standIns := [], harness := (true, "063d8e3e1cec467c49fe5ef97593c1e22b4843db90c6cecddc6eb7faab9ccf1f"), looks := false }, kinds := [], alts := [], laidByText := true, laidKinds := [.data, .data, .widerDeep], laidTests := true, laidLooks := .later }
def CommandDecodesAsSpecifiedCardSaid : Prop := Claim7.holds Tryd.pinned (.plain (OpenSpec.ofChange commandDecodesAsSpecifiedSpec)) commandDecodesAsSpecifiedCard

/-- THE TIED CARD OF 'custodylaw28.CommandRoundTrip'. -/
def commandRoundTripCard : Claim7 := { stood := { row := commandRoundTripRow, standIns := [], harness := (true, "063d8e3e1cec467c49fe5ef97593c1e22b4843db90c6cecddc6eb7faab9ccf1f"), looks := false }, kinds := [], alts := [], laidByText := true, laidKinds := [.data, .data, .widerDeep], laidTests := true, laidLooks := .later }
def CommandRoundTripCardSaid : Prop := Claim7.holds Tryd.pinned (.plain (OpenSpec.ofChange commandRoundTripSpec)) commandRoundTripCard

/-- THE TIED CARD OF 'custodylaw28.CommandInjective'. -/
def commandInjectiveCard : Claim7 := { stood := { row := commandInjectiveRow, standIns := [], harness := (true, "063d8e3e1cec467c49fe5ef97593c1e22b4843db90c6cecddc6eb7faab9ccf1f"), looks := false }, kinds := [], alts := [], laidByText := true, laidKinds := [.data, .data, .widerDeep], laidTests := true, laidLooks := .later }
def CommandInjectiveCardSaid : Prop := Claim7.holds Tryd.pinned (.plain (OpenSpec.ofChange commandInjectiveSpec)) commandInjectiveCard

/-- THE TIED CARD OF 'custodylaw28.CommandFields'. -/
def commandFieldsCard : Claim7 := { stood := { row := commandFieldsRow, standIns := [], harness := (true, "063d8e3e1cec467c49fe5ef97593c1e22b4843db90c6cecddc6eb7faab9ccf1f"), looks := false }, kinds := [], alts := [], laidByText := true, laidKinds := [.data, .data, .widerDeep], laidTests := true, laidLooks := .later }
def CommandFieldsCardSaid : Prop := Claim7.holds Tryd.pinned (.plain (OpenSpec.ofChange commandFieldsSpec)) commandFieldsCard

/-- THE TIED CARD OF 'custodylaw28.CommandNames'. -/
def commandNamesCard : Claim7 := { stood := { row := commandNamesRow, standIns := [], harness := (true, "063d8e3e1cec467c49fe5ef97593c1e22b4843db90c6cecddc6eb7faab9ccf1f"), looks := false }, kinds := [], alts := [], laidByText := true, laidKinds := [.data, .data, .widerDeep], laidTests := true, laidLooks := .later }
def CommandNamesCardSaid : Prop := Claim7.holds Tryd.pinned (.plain (OpenSpec.ofChange commandNamesSpec)) commandNamesCard

/-- THE TIED CARD OF 'custodylaw08.MerkleTreesMatchSpec'. -/
def merkleTreesMatchSpecCard : Claim7 := { stood := { row := merkleTreesMatchSpecRow, standIns := [], harness := (true, "063d8e3e1cec467c49fe5ef97593c1e22b4843db90c6cecddc6eb7faab9ccf1f"), looks := false }, kinds := [], alts := [], laidByText := true, laidKinds := [.data, .data, .data, .data], laidTests := true, laidLooks := .later }
def MerkleTreesMatchSpecCardSaid : Prop := Claim7.holds Tryd.pinned (.plain (OpenSpec.ofChange merkleTreesMatchSpecSpec)) merkleTreesMatchSpecCard

/-- THE TIED CARD OF 'custodylaw08.MerkleVerifyMatchesSpec'. -/
def merkleVerifyMatchesSpecCard : Claim7 := { stood := { row := merkleVerifyMatchesSpecRow, standIns := [], harness := (true, "063d8e3e1cec467c49fe5ef97593c1e22b4843db90c6cecddc6eb7faab9ccf1f"), looks := false }, kinds := [], alts := [], laidByText := true, laidKinds := [.data, .data, .data, .data], laidTests := true, laidLooks := .later }
def MerkleVerifyMatchesSpecCardSaid : Prop := Claim7.holds Tryd.pinned (.plain (OpenSpec.ofChange merkleVerifyMatchesSpecSpec)) merkleVerifyMatchesSpecCard

/-- THE TIED CARD OF 'custodylaw08.MerkleProofsAreAccepted'. -/
def merkleProofsAreAcceptedCard : Claim7 := { stood := { row := merkleProofsAreAcceptedRow, standIns := [], harness := (true, "063d8e3e1cec467c49fe5ef97593c1e22b4843db90c6cecddc6eb7faab9ccf1f"), looks := false }, kinds := [], alts := [], laidByText := true, laidKinds := [.data, .data, .data], laidTests := true, laidLooks := .later }
def MerkleProofsAreAcceptedCardSaid : Prop := Claim7.holds Tryd.pinned (.plain (OpenSpec.ofChange merkleProofsAreAcceptedSpec)) merkleProofsAreAcceptedCard

/-- THE TIED CARD OF 'custodylaw08.MerkleClashMatchesSpec'. -/
def merkleClashMatchesSpecCard : Claim7 := { stood := { row := merkleClashMatchesSpecRow, standIns := [], harness := (true, "063d8e3e1cec467c49fe5ef97593c1e22b4843db90c6cecddc6eb7faab9ccf1f"), looks := false }, kinds := [], alts := [], laidByText := true, laidKinds := [.data, .data, .data, .data], laidTests := true, laidLooks := .later }
def MerkleClashMatchesSpecCardSaid : Prop := Claim7.holds Tryd.pinned (.plain (OpenSpec.ofChange merkleClashMatchesSpecSpec)) merkleClashMatchesSpecCard

/-- THE TIED CARD OF 'custodylaw08.MerkleHistoryIsFixed'. -/
def merkleHistoryIsFixedCard : Claim7 := { stood := { row := merkleHistoryIsFixedRow, standIns := [], harness := (true, "063d8e3e1cec467c49fe5ef97593c1e22b4843db90c6cecddc6eb7faab9ccf1f"), looks := false }, kinds := [], alts := [], laidByText := true, laidKinds := [.data, .data, .data, .data], laidTests := true, laidLooks := .later }
def MerkleHistoryIsFixedCardSaid : Prop := Claim7.holds Tryd.pinned (.plain (OpenSpec.ofChange merkleHistoryIsFixedSpec)) merkleHistoryIsFixedCard

/-- THE TIED CARD OF 'custodylaw08.MerklePeaksGrow'. -/
def merklePeaksGrowCard : Claim7 := { stood := { row := merklePeaksGrowRow, standIns := [], harness := (true, "063d8e3e1cec467c49fe5ef97593c1e22b4843db90c6cecddc6eb7faab9ccf1f"), looks := false }, kinds := [], alts := [], laidByText := true, laidKinds := [.data, .data, .data, .data], laidTests := true, laidLooks := .later }
def MerklePeaksGrowCardSaid : Prop := Claim7.holds Tryd.pinned (.plain (OpenSpec.ofChange merklePeaksGrowSpec)) merklePeaksGrowCard

/-- THE TIED CARD OF 'custodylaw08.MerklePeaksMatchSpec'. -/
def merklePeaksMatchSpecCard : Claim7 := { stood := { row := merklePeaksMatchSpecRow, standIns := [], harness := (true, "063d8e3e1cec467c49fe5ef97593c1e22b4843db90c6cecddc6eb7faab9ccf1f"), looks := false }, kinds := [], alts := [], laidByText := true, laidKinds := [.data, .data, .data, .data], laidTests := true, laidLooks := .later }
def MerklePeaksMatchSpecCardSaid : Prop := Claim7.holds Tryd.pinned (.plain (OpenSpec.ofChange merklePeaksMatchSpecSpec)) merklePeaksMatchSpecCard

/-- THE TIED CARD OF 'custodylaw39.EntryMatchesSpec'. -/
def entryMatchesSpecCard : Claim7 := { stood := { row := entryMatchesSpecRow, standIns := [], harness := (true, "063d8e3e1cec467c49fe5ef97593c1e22b4843db90c6cecddc6eb7faab9ccf1f"), looks := false }, kinds := [], alts := [], laidByText := true, laidKinds := [.data, .data], laidTests := true, laidLooks := .later }
def EntryMatchesSpecCardSaid : Prop := Claim7.holds Tryd.pinned (.plain (OpenSpec.ofChange entryMatchesSpecSpec)) entryMatchesSpecCard

/-- THE TIED CARD OF 'custodylaw39.EntryBinds'. -/
def entryBindsCard : Claim7 := { stood := { row := entryBindsRow, standIns := [], harness := (true, "063d8e3e1cec467c49fe5ef97593c1e22b4843db90c6cecddc6eb7faab9ccf1f"), looks := false }, kinds := [], alts := [], laidByText := true, laidKinds := [.data, .data], laidTests := true, laidLooks := .later }
def EntryBindsCardSaid : Prop := Claim7.holds Tryd.pinned (.plain (OpenSpec.ofChange entryBindsSpec)) entryBindsCard

/-- THE TIED CARD OF 'custodylaw39.EntryHidesData'. -/
def entryHidesDataCard : Claim7 := { stood := { row := entryHidesDataRow, standIns := [], harness := (true, "063d8e3e1cec467c49fe5ef97593c1e22b4843db90c6cecddc6eb7faab9ccf1f"), looks := false }, kinds := [], alts := [], laidByText := true, laidKinds := [.data, .data], laidTests := true, laidLooks := .later }
def EntryHidesDataCardSaid : Prop := Claim7.holds Tryd.pinned (.plain (OpenSpec.ofChange entryHidesDataSpec)) entryHidesDataCard

/-- THE TIED CARD OF 'custodylaw39.EntryApplies'. -/
def entryAppliesCard : Claim7 := { stood := { row := entryAppliesRow, standIns := [], harness := (true, "063d8e3e1cec467c49fe5ef97593c1e22b4843db90c6cecddc6eb7faab9ccf1f"), looks := false }, kinds := [], alts := [], laidByText := true, laidKinds := [.data, .data], laidTests := true, laidLooks := .later }
def EntryAppliesCardSaid : Prop := Claim7.holds Tryd.pinned (.plain (OpenSpec.ofChange entryAppliesSpec)) entryAppliesCard

/-- THE TIED CARD OF 'custodylaw39.EntryViews'. -/
def entryViewsCard : Claim7 := { stood := { row := entryViewsRow, standIns := [], harness := (true, "063d8e3e1cec467c49fe5ef97593c1e22b4843db90c6cecddc6eb7faab9ccf1f"), looks := false }, kinds := [], alts := [], laidByText := true, laidKinds := [.data, .data], laidTests := true, laidLooks := .later }
def EntryViewsCardSaid : Prop := Claim7.holds Tryd.pinned (.plain (OpenSpec.ofChange entryViewsSpec)) entryViewsCard

/-- THE SECOND FORM's CARD OF 'custodylaw28.CommandMatchesSpec'. -/
def commandMatchesSpecUptoCard : Claim7 := { stood := { row := commandMatchesSpecUptoRow, standIns := [], harness := (true, "063d8e3e1cec467c49fe5ef97593c1e22b4843db90c6cecddc6eb7faab9ccf1f"), looks := false }, kinds := [], alts := [], laidByText := true, laidKinds := [.data, .data, .widerDeep], laidTests := true, laidLooks := .later }
def CommandMatchesSpecUptoCardSaid : Prop := Claim7.holds Tryd.pinned (.plain (OpenSpec.upto commandMatchesSpecSpec)) commandMatchesSpecUptoCard

/-- THE SECOND FORM's CARD OF 'custodylaw28.CommandDecodesAsSpecified'. -/
def commandDecodesAsSpecifiedUptoCard : Claim7 := { stood := { row := commandDecodesAsSpecifiedUptoRow, standIns := [], harness := (true, "063d8e3e1cec467c49fe5ef97593c1e22b4843db90c6cecddc6eb7faab9ccf1f"), looks := false }, kinds := [], alts := [], laidByText := true, laidKinds := [.data, .data, .widerDeep], laidTests := true, laidLooks := .later }
def CommandDecodesAsSpecifiedUptoCardSaid : Prop := Claim7.holds Tryd.pinned (.plain (OpenSpec.upto commandDecodesAsSpecifiedSpec)) commandDecodesAsSpecifiedUptoCard

/-- THE SECOND FORM's CARD OF 'custodylaw28.CommandRoundTrip'. -/
def commandRoundTripUptoCard : Claim7 := { stood := { row := commandRoundTripUptoRow, standIns := [], harness := (true, "063d8e3e1cec467c49fe5ef97593c1e22b4843db90c6cecddc6eb7faab9ccf1f"), looks := false }, kinds := [], alts := [], laidByText := true, laidKinds := [.data, .data, .widerDeep], laidTests := true, laidLooks := .later }
def CommandRoundTripUptoCardSaid : Prop := Claim7.holds Tryd.pinned (.plain (OpenSpec.upto commandRoundTripSpec)) commandRoundTripUptoCard

/-- THE SECOND FORM's CARD OF 'custodylaw28.CommandInjective'. -/
def commandInjectiveUptoCard : Claim7 := { stood := { row := commandInjectiveUptoRow, standIns := [], harness := (true, "063d8e3e1cec467c49fe5ef97593c1e22b4843db90c6cecddc6eb7faab9ccf1f"), looks := false }, kinds := [], alts := [], laidByText := true, laidKinds := [.data, .data, .widerDeep], laidTests := true, laidLooks := .later }
def CommandInjectiveUptoCardSaid : Prop := Claim7.holds Tryd.pinned (.plain (OpenSpec.upto commandInjectiveSpec)) commandInjectiveUptoCard

/-- THE SECOND FORM's CARD OF 'custodylaw28.CommandFields'. -/
def commandFieldsUptoCard : Claim7 := { stood := { row := commandFieldsUptoRow, standIns := [], harness := (true, "063d8e3e1cec467c49fe5ef97593c1e22b4843db90c6cecddc6eb7faab9ccf1f"), looks := false }, kinds := [], alts := [], laidByText := true, laidKinds := [.data, .data, .widerDeep], laidTests := true, laidLooks := .later }
def CommandFieldsUptoCardSaid : Prop := Claim7.holds Tryd.pinned (.plain (OpenSpec.upto commandFieldsSpec)) commandFieldsUptoCard

/-- THE SECOND FORM's CARD OF 'custodylaw28.CommandNames'. -/
def commandNamesUptoCard : Claim7 := { stood := { row := commandNamesUptoRow, standIns := [], harness := (true, "063d8e3e1cec467c49fe5ef97593c1e22b4843db90c6cecddc6eb7faab9ccf1f"), looks := false }, kinds := [], alts := [], laidByText := true, laidKinds := [.data, .data, .widerDeep], laidTests := true, laidLooks := .later }
def CommandNamesUptoCardSaid : Prop := Claim7.holds Tryd.pinned (.plain (OpenSpec.upto commandNamesSpec)) commandNamesUptoCard

/-- THE SECOND FORM's CARD OF 'custodylaw08.MerkleTreesMatchSpec'. -/
def merkleTreesMatchSpecUptoCard : Claim7 := { stood := { row := merkleTreesMatchSpecUptoRow, standIns := [], harness := (true, "063d8e3e1cec467c49fe5ef97593c1e22b4843db90c6cecddc6eb7faab9ccf1f"), looks := false }, kinds := [], alts := [], laidByText := true, laidKinds := [.data, .data, .data, .data], laidTests := true, laidLooks := .later }
def MerkleTreesMatchSpecUptoCardSaid : Prop := Claim7.holds Tryd.pinned (.plain (OpenSpec.upto merkleTreesMatchSpecSpec)) merkleTreesMatchSpecUptoCard

/-- THE SECOND FORM's CARD OF 'custodylaw08.MerkleVerifyMatchesSpec'. -/
def merkleVerifyMatchesSpecUptoCard : Claim7 := { stood := { row := merkleVerifyMatchesSpecUptoRow, standIns := [], harness := (true, "063d8e3e1cec467c49fe5ef97593c1e22b4843db90c6cecddc6eb7faab9ccf1f"), looks := false }, kinds := [], alts := [], laidByText := true, laidKinds := [.data, .data, .data, .data], laidTests := true, laidLooks := .later }
def MerkleVerifyMatchesSpecUptoCardSaid : Prop := Claim7.holds Tryd.pinned (.plain (OpenSpec.upto merkleVerifyMatchesSpecSpec)) merkleVerifyMatchesSpecUptoCard

/-- THE SECOND FORM's CARD OF 'custodylaw08.MerkleProofsAreAccepted'. -/
def merkleProofsAreAcceptedUptoCard : Claim7 := { stood := { row := merkleProofsAreAcceptedUptoRow, standIns := [], harness := (true, "063d8e3e1cec467c49fe5ef97593c1e22b4843db90c6cecddc6eb7faab9ccf1f"), looks := false }, kinds := [], alts := [], laidByText := true, laidKinds := [.data, .data, .data], laidTests := true, laidLooks := .later }
def MerkleProofsAreAcceptedUptoCardSaid : Prop := Claim7.holds Tryd.pinned (.plain (OpenSpec.upto merkleProofsAreAcceptedSpec)) merkleProofsAreAcceptedUptoCard

/-- THE SECOND FORM's CARD OF 'custodylaw08.MerkleClashMatchesSpec'. -/
def merkleClashMatchesSpecUptoCard : Claim7 := { stood := { row := merkleClashMatchesSpecUptoRow, standIns := [], harness := (true, "063d8e3e1cec467c49fe5ef97593c1e22b4843db90c6cecddc6eb7faab9ccf1f"), looks := false }, kinds := [], alts := [], laidByText := true, laidKinds := [.data, .data, .data, .data], laidTests := true, laidLooks := .later }
def MerkleClashMatchesSpecUptoCardSaid : Prop := Claim7.holds Tryd.pinned (.plain (OpenSpec.upto merkleClashMatchesSpecSpec)) merkleClashMatchesSpecUptoCard

/-- THE SECOND FORM's CARD OF 'custodylaw08.MerkleHistoryIsFixed'. -/
def merkleHistoryIsFixedUptoCard : Claim7 := { stood := { row := merkleHistoryIsFixedUptoRow, standIns := [], harness := (true, "063d8e3e1cec467c49fe5ef97593c1e22b4843db90c6cecddc6eb7faab9ccf1f"), looks := false }, kinds := [], alts := [], laidByText := true, laidKinds := [.data, .data, .data, .data], laidTests := true, laidLooks := .later }
def MerkleHistoryIsFixedUptoCardSaid : Prop := Claim7.holds Tryd.pinned (.plain (OpenSpec.upto merkleHistoryIsFixedSpec)) merkleHistoryIsFixedUptoCard

/-- THE SECOND FORM's CARD OF 'custodylaw08.MerklePeaksGrow'. -/
def merklePeaksGrowUptoCard : Claim7 := { stood := { row := merklePeaksGrowUptoRow, standIns := [], harness := (true, "063d8e3e1cec467c49fe5ef97593c1e22b4843db90c6cecddc6eb7faab9ccf1f"), looks := false }, kinds := [], alts := [], laidByText := true, laidKinds := [.data, .data, .data, .data], laidTests := true, laidLooks := .later }
def MerklePeaksGrowUptoCardSaid : Prop := Claim7.holds Tryd.pinned (.plain (OpenSpec.upto merklePeaksGrowSpec)) merklePeaksGrowUptoCard

/-- THE SECOND FORM's CARD OF 'custodylaw08.MerklePeaksMatchSpec'. -/
def merklePeaksMatchSpecUptoCard : Claim7 := { stood := { row := merklePeaksMatchSpecUptoRow, standIns := [], harness := (true, "063d8e3e1cec467c49fe5ef97593c1e22b4843db90c6cecddc6eb7faab9ccf1f"), looks := false }, kinds := [], alts := [], laidByText := true, laidKinds := [.data, .data, .data, .data], laidTests := true, laidLooks := .later }
def MerklePeaksMatchSpecUptoCardSaid : Prop := Claim7.holds Tryd.pinned (.plain (OpenSpec.upto merklePeaksMatchSpecSpec)) merklePeaksMatchSpecUptoCard

/-- THE SECOND FORM's CARD OF 'custodylaw39.EntryMatchesSpec'. -/
def entryMatchesSpecUptoCard : Claim7 := { stood := { row := entryMatchesSpecUptoRow, standIns := [], harness := (true, "063d8e3e1cec467c49fe5ef97593c1e22b4843db90c6cecddc6eb7faab9ccf1f"), looks := false }, kinds := [], alts := [], laidByText := true, laidKinds := [.data, .data], laidTests := true, laidLooks := .later }
def EntryMatchesSpecUptoCardSaid : Prop := Claim7.holds Tryd.pinned (.plain (OpenSpec.upto entryMatchesSpecSpec)) entryMatchesSpecUptoCard

/-- THE SECOND FORM's CARD OF 'custodylaw39.EntryBinds'. -/
def entryBindsUptoCard : Claim7 := { stood := { row := entryBindsUptoRow, standIns := [], harness := (true, "063d8e3e1cec467c49fe5ef97593c1e22b4843db90c6cecddc6eb7faab9ccf1f"), looks := false }, kinds := [], alts := [], laidByText := true, laidKinds := [.data, .data], laidTests := true, laidLooks := .later }
def EntryBindsUptoCardSaid : Prop := Claim7.holds Tryd.pinned (.plain (OpenSpec.upto entryBindsSpec)) entryBindsUptoCard

/-- THE SECOND FORM's CARD OF 'custodylaw39.EntryHidesData'. -/
def entryHidesDataUptoCard : Claim7 := { stood := { row := entryHidesDataUptoRow, standIns := [], harness := (true, "063d8e3e1cec467c49fe5ef97593c1e22b4843db90c6cecddc6eb7faab9ccf1f"), looks := false }, kinds := [], alts := [], laidByText := true, laidKinds := [.data, .data], laidTests := true, laidLooks := .later }
def EntryHidesDataUptoCardSaid : Prop := Claim7.holds Tryd.pinned (.plain (OpenSpec.upto entryHidesDataSpec)) entryHidesDataUptoCard

/-- THE SECOND FORM's CARD OF 'custodylaw39.EntryApplies'. -/
def entryAppliesUptoCard : Claim7 := { stood := { row := entryAppliesUptoRow, standIns := [], harness := (true, "063d8e3e1cec467c49fe5ef97593c1e22b4843db90c6cecddc6eb7faab9ccf1f"), looks := false }, kinds := [], alts := [], laidByText := true, laidKinds := [.data, .data], laidTests := true, laidLooks := .later }
def EntryAppliesUptoCardSaid : Prop := Claim7.holds Tryd.pinned (.plain (OpenSpec.upto entryAppliesSpec)) entryAppliesUptoCard

/-- THE SECOND FORM's CARD OF 'custodylaw39.EntryViews'. -/
def entryViewsUptoCard : Claim7 := { stood := { row := entryViewsUptoRow, standIns := [], harness := (true, "063d8e3e1cec467c49fe5ef97593c1e22b4843db90c6cecddc6eb7faab9ccf1f"), looks := false }, kinds := [], alts := [], laidByText := true, laidKinds := [.data, .data], laidTests := true, laidLooks := .later }
def EntryViewsUptoCardSaid : Prop := Claim7.holds Tryd.pinned (.plain (OpenSpec.upto entryViewsSpec)) entryViewsUptoCard
end Rows
end Go.Proofs.YtedegedceeefdaaDoor
