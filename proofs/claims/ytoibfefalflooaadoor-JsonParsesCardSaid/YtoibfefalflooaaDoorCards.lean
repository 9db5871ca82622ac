/-
  DERIVED. GIVEN WITH THE SEED: THE CARDS: each row of YtoibfefalflooaaDoorRows.lean that lists a variable, with what it lists TIED to the program's text (the seventh form; the later family's looks); each row that meets fmt, with fmt's text TOLD by the authors' own Lean function (tested against real Go, not proved from fmt's source: count such statements apart). THE CARD IS WHAT COUNTS. Prove the row's statement (the work); the ties are given (YtoibfefalflooaaDoorTie.lean); close each card by the builder's one call (the guide's Derived/Test/ToyasCard.lean, 'card_holds'). Laid BY PROGRAM, IN A SANDBOX (cutbox-door.mjs). By AI agents, Wed Nov 11 2026. No macro, syntax, notation, axiom, sorry.
-/
import Derived.Test.YtoibfefalflooaaDoorRows
import GoSem.ClaimSeven
namespace Go.Proofs.YtoibfefalflooaaDoor
namespace Rows

/-- THE TIED CARD OF 'boathouselaw3.JsonParses'. -/
def jsonParsesCard : Claim7 := { stood := { row := jsonParsesRow, standIns := [], harness := (true, "1400328d445ca0ee4519e26cefdb849af1af6574ddc9bdd3ee0e39c1a2a9af4b"), looks := true }, kinds := [], alts := [], laidByText := true, laidKinds := [.data, .data, .data], laidTests := true, laidLooks := .later }
def JsonParsesCardSaid : Prop := Claim7.holds Tryd.pinned (.plain (OpenSpec.ofChange jsonParsesSpec)) jsonParsesCard

/-- THE TIED CARD OF 'boathouselaw3.JsonPrints'. -/
def jsonPrintsCard : Claim7 := { stood := { row := jsonPrintsRow, standIns := [], harness := (true, "1400328d445ca0ee4519e26cefdb849af1af6574ddc9bdd3ee0e39c1a2a9af4b"), looks := true }, kinds := [], alts := [], laidByText := true, laidKinds := [.data, .data, .data], laidTests := true, laidLooks := .later }
def JsonPrintsCardSaid : Prop := Claim7.holds Tryd.pinned (.plain (OpenSpec.ofChange jsonPrintsSpec)) jsonPrintsCard

/-- THE TIED CARD OF 'boathouselaw3.JsonBack'. -/
def jsonBackCard : Claim7 := { stood := { row := jsonBackRow, standIns := [], harness := (true, "1400328d445ca0ee4519e26cefdb849af1af6574ddc9bdd3ee0e39c1a2a9af4b"), looks := true }, kinds := [], alts := [], laidByText := true, laidKinds := [.data, .data, .data], laidTests := true, laidLooks := .later }
def JsonBackCardSaid : Prop := Claim7.holds Tryd.pinned (.plain (OpenSpec.ofChange jsonBackSpec)) jsonBackCard

/-- THE TIED CARD OF 'boathouselaw3.JsonNumbers'. -/
def jsonNumbersCard : Claim7 := { stood := { row := jsonNumbersRow, standIns := [], harness := (true, "1400328d445ca0ee4519e26cefdb849af1af6574ddc9bdd3ee0e39c1a2a9af4b"), looks := true }, kinds := [], alts := [], laidByText := true, laidKinds := [.data, .data, .data], laidTests := true, laidLooks := .later }
def JsonNumbersCardSaid : Prop := Claim7.holds Tryd.pinned (.plain (OpenSpec.ofChange jsonNumbersSpec)) jsonNumbersCard

/-- THE TIED CARD OF 'boathouselaw3.JsonDepths'. -/
def jsonDepthsCard : Claim7 := { stood := { row := jsonDepthsRow, standIns := [], harness := (true, "1400328d445ca0ee4519e26cefdb849af1af6574ddc9bdd3ee0e39c1a2a9af4b"), looks := true }, kinds := [], alts := [], laidByText := true, laidKinds := [.data, .data, .data], laidTests := true, laidLooks := .later }
def JsonDepthsCardSaid : Prop := Claim7.holds Tryd.pinned (.plain (OpenSpec.ofChange jsonDepthsSpec)) jsonDepthsCard

/-- THE TIED CARD OF 'boathouselaw3.JsonKeys'. -/
def jsonKeysCard : Claim7 := { stood := { row := jsonKeysRow, standIns := [], harness := (true, "1400328d445ca0ee4519e26cefdb849af1af6574ddc9bdd3ee0e39c1a2a9af4b"), looks := true }, kinds := [], alts := [], laidByText := true, laidKinds := [.data, .data, .data], laidTests := true, laidLooks := .later }
def JsonKeysCardSaid : Prop := Claim7.holds Tryd.pinned (.plain (OpenSpec.ofChange jsonKeysSpec)) jsonKeysCard

/-- THE TIED CARD OF 'boathouselaw3.JsonWhite'. -/
def jsonWhiteCard : Claim7 := { stood := { row := jsonWhiteRow, standIns := [], harness := (true, "1400328d445ca0ee4519e26cefdb849af1af6574ddc9bdd3ee0e39c1a2a9af4b"), looks := true }, kinds := [], alts := [], laidByText := true, laidKinds := [.data, .data, .data], laidTests := true, laidLooks := .later }
def JsonWhiteCardSaid : Prop := Claim7.holds Tryd.pinned (.plain (OpenSpec.ofChange jsonWhiteSpec)) jsonWhiteCard

/-- THE SECOND FORM's CARD OF 'boathouselaw3.JsonParses'. -/
def jsonParsesUptoCard : Claim7 := { stood := { row := jsonParsesUptoRow, standIns := [], harness := (true, "1400328d445ca0ee4519e26cefdb849af1af6574ddc9bdd3ee0e39c1a2a9af4b"), looks := true }, kinds := [], alts := [], laidByText := true, laidKinds := [.data, .data, .data], laidTests := true, laidLooks := .later }
def JsonParsesUptoCardSaid : Prop := Claim7.holds Tryd.pinned (.plain (OpenSpec.upto jsonParsesSpec)) jsonParsesUptoCard

/-- THE SECOND FORM's CARD OF 'boathouselaw3.JsonPrints'. -/
def jsonPrintsUptoCard : Claim7 := { stood := { row := jsonPrintsUptoRow, standIns := [], harness := (true, "1400328d445ca0ee4519e26cefdb849af1af6574ddc9bdd3ee0e39c1a2a9af4b"), looks := true }, kinds := [], alts := [], laidByText := true, laidKinds := [.data, .data, .data], laidTests := true, laidLooks := .later }
def JsonPrintsUptoCardSaid : Prop := Claim7.holds Tryd.pinned (.plain (OpenSpec.upto jsonPrintsSpec)) jsonPrintsUptoCard

/-- THE SECOND FORM's CARD OF 'boathouselaw3.JsonBack'. -/
def jsonBackUptoCard : Claim7 := { stood := { row := jsonBackUptoRow, standIns := [], harness := (true, "1400328d445ca0ee4519e26cefdb849af1af6574ddc9bdd3ee0e39c1a2a9af4b"), looks := true }, kinds := [], alts := [], laidByText := true, laidKinds := [.data, .data, .data], laidTests := true, laidLooks := .later }
def JsonBackUptoCardSaid : Prop := Claim7.holds Tryd.pinned (.plain (OpenSpec.upto jsonBackSpec)) jsonBackUptoCard

/-- THE SECOND FORM's CARD OF 'boathouselaw3.JsonNumbers'. -/
def jsonNumbersUptoCard : Claim7 := { stood := { row := jsonNumbersUptoRow, standIns := [], harness := (true, "1400328d445ca0ee4519e26cefdb849af1af6574ddc9bdd3ee0e39c1a2a9af4b"), looks := true }, kinds := [], alts := [], laidByText := true, laidKinds := [.data, .data, .data], laidTests := true, laidLooks := .later }
def JsonNumbersUptoCardSaid : Prop := Claim7.holds Tryd.pinned (.plain (OpenSpec.upto jsonNumbersSpec)) jsonNumbersUptoCard

/-- THE SECOND FORM's CARD OF 'boathouselaw3.JsonDepths'. -/
def jsonDepthsUptoCard : Claim7 := { stood := { row := jsonDepthsUptoRow, standIns := [], harness := (true, "1400328d445ca0ee4519e26cefdb849af1af6574ddc9bdd3ee0e39c1a2a9af4b"), looks := true }, kinds := [], alts := [], laidByText := true, laidKinds := [.data, .data, .data], laidTests := true, laidLooks := .later }
def JsonDepthsUptoCardSaid : Prop := Claim7.holds Tryd.pinned (.plain (OpenSpec.upto jsonDepthsSpec)) jsonDepthsUptoCard

/-- THE SECOND FORM's CARD OF 'boathouselaw3.JsonKeys'. -/
def jsonKeysUptoCard : Claim7 := { stood := { row := jsonKeysUptoRow, standIns := [], harness := (true, "1400328d445ca0ee4519e26cefdb849af1af6574ddc9bdd3ee0e39c1a2a9af4b"), looks := true }, kinds := [], alts := [], laidByText := true, laidKinds := [.data, .data, .data], laidTests := true, laidLooks := .later }
def JsonKeysUptoCardSaid : Prop := Claim7.holds Tryd.pinned (.plain (OpenSpec.upto jsonKeysSpec)) jsonKeysUptoCard

/-- THE SECOND FORM's CARD OF 'boathouselaw3.JsonWhite'. -/
def jsonWhiteUptoCard : Claim7 := { stood := { row := jsonWhiteUptoRow, standIns := [], harness := (true, "1400328d445ca0ee4519e26cefdb849af1af6574ddc9bdd3ee0e39c1a2a9af4b"), looks := true }, kinds := [], alts := [], laidByText := true, laidKinds := [.data, .data, .data], laidTests := true, laidLooks := .later }
def JsonWhiteUptoCardSaid : Prop := Claim7.holds Tryd.pinned (.plain (OpenSpec.upto jsonWhiteSpec)) jsonWhiteUptoCard
end Rows
end Go.Proofs.YtoibfefalflooaaDoor
