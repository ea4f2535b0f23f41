/-
  DERIVED. GIVEN WITH THE SEED: THE CARDS: each row of YtmpaipbpnkfmfaaDoorRows.lean that lists a variable, with what it lists TIED to the program's text (the seventh form; the later family's looks); each row that meets fmt, with fmt's text TOLD by the authors' own Lean function (tested against real Go, not proved from fmt's source: count such statements apart). THE CARD IS WHAT COUNTS. Prove the row's statement (the work); the ties are given (YtmpaipbpnkfmfaaDoorTie.lean); close each card by the builder's one call (the guide's Derived/Test/ToyasCard.lean, 'card_holds'). Laid BY PROGRAM, IN A SANDBOX (cutbox-door.mjs). By AI agents, Wed Nov 11 2026. No macro, syntax, notation, axiom, sorry.
-/
import Derived.Test.YtmpaipbpnkfmfaaDoorRows
import GoSem.ClaimSeven
namespace Go.Proofs.YtmpaipbpnkfmfaaDoor
namespace Rows

/-- THE TIED CARD OF 'hearsaylaw04.TokensCuts'. -/
def tokensCutsCard : Claim7 := { stood := { row := tokensCutsRow, standIns := [], harness := (true, "054d77d8da63cb27519e2ed73b2b58787e73dce6918d1557dfdba39b148e784b"), looks := true }, kinds := [], alts := [], laidByText := true, laidKinds := [.data, .data, .data, .data, .data, .sentinel, .sentinel], laidTests := true, laidLooks := .later }
def TokensCutsCardSaid : Prop := Claim7.holds Tryd.pinned (.plain (OpenSpec.ofChange tokensCutsSpec)) tokensCutsCard

/-- THE TIED CARD OF 'hearsaylaw04.TokensSpells'. -/
def tokensSpellsCard : Claim7 := { stood := { row := tokensSpellsRow, standIns := [], harness := (true, "054d77d8da63cb27519e2ed73b2b58787e73dce6918d1557dfdba39b148e784b"), looks := true }, kinds := [], alts := [], laidByText := true, laidKinds := [.data, .data, .data, .data, .data, .sentinel, .sentinel], laidTests := true, laidLooks := .later }
def TokensSpellsCardSaid : Prop := Claim7.holds Tryd.pinned (.plain (OpenSpec.ofChange tokensSpellsSpec)) tokensSpellsCard

/-- THE TIED CARD OF 'hearsaylaw04.TokensJoins'. -/
def tokensJoinsCard : Claim7 := { stood := { row := tokensJoinsRow, standIns := [], harness := (true, "054d77d8da63cb27519e2ed73b2b58787e73dce6918d1557dfdba39b148e784b"), looks := true }, kinds := [], alts := [], laidByText := true, laidKinds := [.data, .data, .data, .data, .data, .sentinel, .sentinel], laidTests := true, laidLooks := .later }
def TokensJoinsCardSaid : Prop := Claim7.holds Tryd.pinned (.plain (OpenSpec.ofChange tokensJoinsSpec)) tokensJoinsCard

/-- THE TIED CARD OF 'hearsaylaw04.TokensBack'. -/
def tokensBackCard : Claim7 := { stood := { row := tokensBackRow, standIns := [], harness := (true, "054d77d8da63cb27519e2ed73b2b58787e73dce6918d1557dfdba39b148e784b"), looks := true }, kinds := [], alts := [], laidByText := true, laidKinds := [.data, .data, .data, .sentinel, .sentinel], laidTests := true, laidLooks := .later }
def TokensBackCardSaid : Prop := Claim7.holds Tryd.pinned (.plain (OpenSpec.ofChange tokensBackSpec)) tokensBackCard

/-- THE TIED CARD OF 'hearsaylaw04.TokensAgain'. -/
def tokensAgainCard : Claim7 := { stood := { row := tokensAgainRow, standIns := [], harness := (true, "054d77d8da63cb27519e2ed73b2b58787e73dce6918d1557dfdba39b148e784b"), looks := true }, kinds := [], alts := [], laidByText := true, laidKinds := [.data, .data, .data, .sentinel, .sentinel], laidTests := true, laidLooks := .later }
def TokensAgainCardSaid : Prop := Claim7.holds Tryd.pinned (.plain (OpenSpec.ofChange tokensAgainSpec)) tokensAgainCard

/-- THE TIED CARD OF 'hearsaylaw04.TokensPlaces'. -/
def tokensPlacesCard : Claim7 := { stood := { row := tokensPlacesRow, standIns := [], harness := (true, "054d77d8da63cb27519e2ed73b2b58787e73dce6918d1557dfdba39b148e784b"), looks := true }, kinds := [], alts := [], laidByText := true, laidKinds := [.data, .data, .data, .sentinel, .sentinel], laidTests := true, laidLooks := .later }
def TokensPlacesCardSaid : Prop := Claim7.holds Tryd.pinned (.plain (OpenSpec.ofChange tokensPlacesSpec)) tokensPlacesCard

/-- THE TIED CARD OF 'hearsaylaw04.TokensFront'. -/
def tokensFrontCard : Claim7 := { stood := { row := tokensFrontRow, standIns := [], harness := (true, "054d77d8da63cb27519e2ed73b2b58787e73dce6918d1557dfdba39b148e784b"), looks := true }, kinds := [], alts := [], laidByText := true, laidKinds := [.data, .data, .data, .sentinel, .sentinel], laidTests := true, laidLooks := .later }
def TokensFrontCardSaid : Prop := Claim7.holds Tryd.pinned (.plain (OpenSpec.ofChange tokensFrontSpec)) tokensFrontCard

/-- THE TIED CARD OF 'hearsaylaw04.TokensBlanks'. -/
def tokensBlanksCard : Claim7 := { stood := { row := tokensBlanksRow, standIns := [], harness := (true, "054d77d8da63cb27519e2ed73b2b58787e73dce6918d1557dfdba39b148e784b"), looks := true }, kinds := [], alts := [], laidByText := true, laidKinds := [.data, .data, .data, .sentinel, .sentinel], laidTests := true, laidLooks := .later }
def TokensBlanksCardSaid : Prop := Claim7.holds Tryd.pinned (.plain (OpenSpec.ofChange tokensBlanksSpec)) tokensBlanksCard

/-- THE TIED CARD OF 'hearsaylaw04.TokensQuoted'. -/
def tokensQuotedCard : Claim7 := { stood := { row := tokensQuotedRow, standIns := [], harness := (true, "054d77d8da63cb27519e2ed73b2b58787e73dce6918d1557dfdba39b148e784b"), looks := true }, kinds := [], alts := [], laidByText := true, laidKinds := [.data, .data, .data, .sentinel, .sentinel], laidTests := true, laidLooks := .later }
def TokensQuotedCardSaid : Prop := Claim7.holds Tryd.pinned (.plain (OpenSpec.ofChange tokensQuotedSpec)) tokensQuotedCard

/-- THE TIED CARD OF 'hearsaylaw04.TokensApart'. -/
def tokensApartCard : Claim7 := { stood := { row := tokensApartRow, standIns := [], harness := (true, "054d77d8da63cb27519e2ed73b2b58787e73dce6918d1557dfdba39b148e784b"), looks := true }, kinds := [], alts := [], laidByText := true, laidKinds := [.data, .data, .data, .sentinel, .sentinel], laidTests := true, laidLooks := .later }
def TokensApartCardSaid : Prop := Claim7.holds Tryd.pinned (.plain (OpenSpec.ofChange tokensApartSpec)) tokensApartCard

/-- THE TIED CARD OF 'hearsaytop.WholeNames'. -/
def wholeNamesCard : Claim7 := { stood := { row := wholeNamesRow, standIns := [], harness := (true, "054d77d8da63cb27519e2ed73b2b58787e73dce6918d1557dfdba39b148e784b"), looks := true }, kinds := [], alts := [], laidByText := true, laidKinds := [.data, .data, .data, .data], laidTests := true, laidLooks := .later }
def WholeNamesCardSaid : Prop := Claim7.holds Tryd.pinned (.plain (OpenSpec.ofChange wholeNamesSpec)) wholeNamesCard

/-- THE SECOND FORM's CARD OF 'hearsaylaw04.TokensCuts'. -/
def tokensCutsUptoCard : Claim7 := { stood := { row := tokensCutsUptoRow, standIns := [], harness := (true, "054d77d8da63cb27519e2ed73b2b58787e73dce6918d1557dfdba39b148e784b"), looks := true }, kinds := [], alts := [], laidByText := true, laidKinds := [.data, .data, .data, .data, .data, .sentinel, .sentinel], laidTests := true, laidLooks := .later }
def TokensCutsUptoCardSaid : Prop := Claim7.holds Tryd.pinned (.plain (OpenSpec.upto tokensCutsSpec)) tokensCutsUptoCard

/-- THE SECOND FORM's CARD OF 'hearsaylaw04.TokensSpells'. -/
def tokensSpellsUptoCard : Claim7 := { stood := { row := tokensSpellsUptoRow, standIns := [], harness := (true, "054d77d8da63cb27519e2ed73b2b58787e73dce6918d1557dfdba39b148e784b"), looks := true }, kinds := [], alts := [], laidByText := true, laidKinds := [.data, .data, .data, .data, .data, .sentinel, .sentinel], laidTests := true, laidLooks := .later }
def TokensSpellsUptoCardSaid : Prop := Claim7.holds Tryd.pinned (.plain (OpenSpec.upto tokensSpellsSpec)) tokensSpellsUptoCard

/-- THE SECOND FORM's CARD OF 'hearsaylaw04.TokensJoins'. -/
def tokensJoinsUptoCard : Claim7 := { stood := { row := tokensJoinsUptoRow, standIns := [], harness := (true, "054d77d8da63cb27519e2ed73b2b58787e73dce6918d1557dfdba39b148e784b"), looks := true }, kinds := [], alts := [], laidByText := true, laidKinds := [.data, .data, .data, .data, .data, .sentinel, .sentinel], laidTests := true, laidLooks := .later }
def TokensJoinsUptoCardSaid : Prop := Claim7.holds Tryd.pinned (.plain (OpenSpec.upto tokensJoinsSpec)) tokensJoinsUptoCard

/-- THE SECOND FORM's CARD OF 'hearsaylaw04.TokensBack'. -/
def tokensBackUptoCard : Claim7 := { stood := { row := tokensBackUptoRow, standIns := [], harness := (true, "054d77d8da63cb27519e2ed73b2b58787e73dce6918d1557dfdba39b148e784b"), looks := true }, kinds := [], alts := [], laidByText := true, laidKinds := [.data, .data, .data, .sentinel, .sentinel], laidTests := true, laidLooks := .later }
def TokensBackUptoCardSaid : Prop := Claim7.holds Tryd.pinned (.plain (OpenSpec.upto tokensBackSpec)) tokensBackUptoCard

/-- THE SECOND FORM's CARD OF 'hearsaylaw04.TokensAgain'. -/
def tokensAgainUptoCard : Claim7 := { stood := { row := tokensAgainUptoRow, standIns := [], harness := (true, "054d77d8da63cb27519e2ed73b2b58787e73dce6918d1557dfdba39b148e784b"), looks := true }, kinds := [], alts := [], laidByText := true, laidKinds := [.data, .data, .data, .sentinel, .sentinel], laidTests := true, laidLooks := .later }
def TokensAgainUptoCardSaid : Prop := Claim7.holds Tryd.pinned (.plain (OpenSpec.upto tokensAgainSpec)) tokensAgainUptoCard

/-- THE SECOND FORM's CARD OF 'hearsaylaw04.TokensPlaces'. -/
def tokensPlacesUptoCard : Claim7 := { stood := { row := tokensPlacesUptoRow, standIns := [], harness := (true, "054d77d8da63cb27519e2ed73b2b58787e73dce6918d1557dfdba39b148e784b"), looks := true }, kinds := [], alts := [], laidByText := true, laidKinds := [.data, .data, .data, .sentinel, .sentinel], laidTests := true, laidLooks := .later }
def TokensPlacesUptoCardSaid : Prop := Claim7.holds Tryd.pinned (.plain (OpenSpec.upto tokensPlacesSpec)) tokensPlacesUptoCard

/-- THE SECOND FORM's CARD OF 'hearsaylaw04.TokensFront'. -/
def tokensFrontUptoCard : Claim7 := { stood := { row := tokensFrontUptoRow, standIns := [], harness := (true, "054d77d8da63cb27519e2ed73b2b58787e73dce6918d1557dfdba39b148e784b"), looks := true }, kinds := [], alts := [], laidByText := true, laidKinds := [.data, .data, .data, .sentinel, .sentinel], laidTests := true, laidLooks := .later }
def TokensFrontUptoCardSaid : Prop := Claim7.holds Tryd.pinned (.plain (OpenSpec.upto tokensFrontSpec)) tokensFrontUptoCard

/-- THE SECOND FORM's CARD OF 'hearsaylaw04.TokensBlanks'. -/
def tokensBlanksUptoCard : Claim7 := { stood := { row := tokensBlanksUptoRow, standIns := [], harness := (true, "054d77d8da63cb27519e2ed73b2b58787e73dce6918d1557dfdba39b148e784b"), looks := true }, kinds := [], alts := [], laidByText := true, laidKinds := [.data, .data, .data, .sentinel, .sentinel], laidTests := true, laidLooks := .later }
def TokensBlanksUptoCardSaid : Prop := Claim7.holds Tryd.pinned (.plain (OpenSpec.upto tokensBlanksSpec)) tokensBlanksUptoCard

/-- THE SECOND FORM's CARD OF 'hearsaylaw04.TokensQuoted'. -/
def tokensQuotedUptoCard : Claim7 := { stood := { row := tokensQuotedUptoRow, standIns := [], harness := (true, "054d77d8da63cb27519e2ed73b2b58787e73dce6918d1557dfdba39b148e784b"), looks := true }, kinds := [], alts := [], laidByText := true, laidKinds := [.data, .data, .data, .sentinel, .sentinel], laidTests := true, laidLooks := .later }
def TokensQuotedUptoCardSaid : Prop := Claim7.holds Tryd.pinned (.plain (OpenSpec.upto tokensQuotedSpec)) tokensQuotedUptoCard

/-- THE SECOND FORM's CARD OF 'hearsaylaw04.TokensApart'. -/
def tokensApartUptoCard : Claim7 := { stood := { row := tokensApartUptoRow, standIns := [], harness := (true, "054d77d8da63cb27519e2ed73b2b58787e73dce6918d1557dfdba39b148e784b"), looks := true }, kinds := [], alts := [], laidByText := true, laidKinds := [.data, .data, .data, .sentinel, .sentinel], laidTests := true, laidLooks := .later }
def TokensApartUptoCardSaid : Prop := Claim7.holds Tryd.pinned (.plain (OpenSpec.upto tokensApartSpec)) tokensApartUptoCard

/-- THE SECOND FORM's CARD OF 'hearsaytop.WholeNames'. -/
def wholeNamesUptoCard : Claim7 := { stood := { row := wholeNamesUptoRow, standIns := [], harness := (true, "054d77d8da63cb27519e2ed73b2b58787e73dce6918d1557dfdba39b148e784b"), looks := true }, kinds := [], alts := [], laidByText := true, laidKinds := [.data, .data, .data, .data], laidTests := true, laidLooks := .later }
def WholeNamesUptoCardSaid : Prop := Claim7.holds Tryd.pinned (.plain (OpenSpec.upto wholeNamesSpec)) wholeNamesUptoCard
end Rows
end Go.Proofs.YtmpaipbpnkfmfaaDoor
