/-
  DERIVED. GIVEN WITH THE SEED: THE CARDS: each row of YtoioekmekbiimaaDoorRows.lean that lists a variable, with what it lists TIED to the program's text (the seventh form; the later family's looks); each row that meets fmt, with fmt's text TOLD by the authors' own Lean function (tested against real Go, not proved from fmt's source: count such statements apart). THE CARD IS WHAT COUNTS. Prove the row's statement (the work); the ties are given (YtoioekmekbiimaaDoorTie.lean); close each card by the builder's one call (the guide's Derived/Test/ToyasCard.lean, 'card_holds'). Laid BY PROGRAM, IN A SANDBOX (cutbox-door.mjs). By AI agents, Wed Nov 11 2026. No macro, syntax, notation, axiom, sorry.
-/
import Derived.Test.YtoioekmekbiimaaDoorRows
import GoSem.ClaimSeven
namespace Go.Proofs.YtoioekmekbiimaaDoor
namespace Rows

/-- THE TIED CARD OF 'hearsaylaw04.TokensSpells'. -/
def tokensSpellsCard : Claim7 := { stood := { row := tokensSpellsRow, standIns := [], harness := (true, "6c36b50a34f0984cdd83890de70cbfd5f38d268094f8aed43369fec34281dc66"), looks := true }, kinds := [], alts := [], laidByText := true, laidKinds := [.data, .data, .data, .data, .data, .sentinel, .sentinel], laidTests := true, laidLooks := .later }
def TokensSpellsCardSaid : Prop := Claim7.holds Tryd.pinned (.plain (OpenSpec.ofChange tokensSpellsSpec)) tokensSpellsCard

/-- THE TIED CARD OF 'hearsaylaw04.TokensJoins'. -/
def tokensJoinsCard : Claim7 := { stood := { row := tokensJoinsRow, standIns := [], harness := (true, "6c36b50a34f0984cdd83890de70cbfd5f38d268094f8aed43369fec34281dc66"), looks := true }, kinds := [], alts := [], laidByText := true, laidKinds := [.data, .data, .data, .data, .data, .sentinel, .sentinel], laidTests := true, laidLooks := .later }
def TokensJoinsCardSaid : Prop := Claim7.holds Tryd.pinned (.plain (OpenSpec.ofChange tokensJoinsSpec)) tokensJoinsCard

/-- THE TIED CARD OF 'hearsaytop.WholeNames'. -/
def wholeNamesCard : Claim7 := { stood := { row := wholeNamesRow, standIns := [], harness := (true, "6c36b50a34f0984cdd83890de70cbfd5f38d268094f8aed43369fec34281dc66"), looks := true }, kinds := [], alts := [], laidByText := true, laidKinds := [.data, .data, .data, .data], laidTests := true, laidLooks := .later }
def WholeNamesCardSaid : Prop := Claim7.holds Tryd.pinned (.plain (OpenSpec.ofChange wholeNamesSpec)) wholeNamesCard

/-- THE TIED CARD OF 'hearsaylaw04.TokensApart'. -/
def tokensApartCard : Claim7 := { stood := { row := tokensApartRow, standIns := [], harness := (true, "6c36b50a34f0984cdd83890de70cbfd5f38d268094f8aed43369fec34281dc66"), looks := true }, kinds := [], alts := [], laidByText := true, laidKinds := [.data, .data, .data, .sentinel, .sentinel], laidTests := true, laidLooks := .later }
def TokensApartCardSaid : Prop := Claim7.holds Tryd.pinned (.plain (OpenSpec.ofChange tokensApartSpec)) tokensApartCard

/-- THE SECOND FORM's CARD OF 'hearsaylaw04.TokensSpells'. -/
def tokensSpellsUptoCard : Claim7 := { stood := { row := tokensSpellsUptoRow, standIns := [], harness := (true, "6c36b50a34f0984cdd83890de70cbfd5f38d268094f8aed43369fec34281dc66"), looks := true }, kinds := [], alts := [], laidByText := true, laidKinds := [.data, .data, .data, .data, .data, .sentinel, .sentinel], laidTests := true, laidLooks := .later }
def TokensSpellsUptoCardSaid : Prop := Claim7.holds Tryd.pinned (.plain (OpenSpec.upto tokensSpellsSpec)) tokensSpellsUptoCard

/-- THE SECOND FORM's CARD OF 'hearsaylaw04.TokensJoins'. -/
def tokensJoinsUptoCard : Claim7 := { stood := { row := tokensJoinsUptoRow, standIns := [], harness := (true, "6c36b50a34f0984cdd83890de70cbfd5f38d268094f8aed43369fec34281dc66"), looks := true }, kinds := [], alts := [], laidByText := true, laidKinds := [.data, .data, .data, .data, .data, .sentinel, .sentinel], laidTests := true, laidLooks := .later }
def TokensJoinsUptoCardSaid : Prop := Claim7.holds Tryd.pinned (.plain (OpenSpec.upto tokensJoinsSpec)) tokensJoinsUptoCard

/-- THE SECOND FORM's CARD OF 'hearsaytop.WholeNames'. -/
def wholeNamesUptoCard : Claim7 := { stood := { row := wholeNamesUptoRow, standIns := [], harness := (true, "6c36b50a34f0984cdd83890de70cbfd5f38d268094f8aed43369fec34281dc66"), looks := true }, kinds := [], alts := [], laidByText := true, laidKinds := [.data, .data, .data, .data], laidTests := true, laidLooks := .later }
def WholeNamesUptoCardSaid : Prop := Claim7.holds Tryd.pinned (.plain (OpenSpec.upto wholeNamesSpec)) wholeNamesUptoCard

/-- THE SECOND FORM's CARD OF 'hearsaylaw04.TokensApart'. -/
def tokensApartUptoCard : Claim7 := { stood := { row := tokensApartUptoRow, standIns := [], harness := (true, "6c36b50a34f0984cdd83890de70cbfd5f38d268094f8aed43369fec34281dc66"), looks := true }, kinds := [], alts := [], laidByText := true, laidKinds := [.data, .data, .data, .sentinel, .sentinel], laidTests := true, laidLooks := .later }
def TokensApartUptoCardSaid : Prop := Claim7.holds Tryd.pinned (.plain (OpenSpec.upto tokensApartSpec)) tokensApartUptoCard
end Rows
end Go.Proofs.YtoioekmekbiimaaDoor
