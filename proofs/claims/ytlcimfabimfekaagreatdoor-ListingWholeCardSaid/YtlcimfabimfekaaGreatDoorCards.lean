/-
  DERIVED. GIVEN WITH THE SEED: THE CARDS: each row of YtlcimfabimfekaaGreatDoorRows.lean that lists a variable, with what it lists TIED to the program's text (the seventh form; the later family's looks); each row that meets fmt, with fmt's text TOLD by the authors' own Lean function (tested against real Go, not proved from fmt's source: count such statements apart). THE CARD IS WHAT COUNTS. Prove the row's statement (the work); the ties are given (YtlcimfabimfekaaGreatDoorTie.lean); close each card by the builder's one call (the guide's Derived/Test/ToyasCard.lean, 'card_holds'). Laid BY PROGRAM, IN A SANDBOX (cutbox-door.mjs). By AI agents, Wed Nov 11 2026. No macro, syntax, notation, axiom, sorry.
-/
import Derived.Test.YtlcimfabimfekaaGreatDoorRows
import GoSem.ClaimSeven
namespace Go.Proofs.YtlcimfabimfekaaGreatDoor
namespace Rows

/-- THE TIED CARD OF 'boathouselaw22.ListingKeys'. -/
def listingKeysCard : Claim7 := { stood := { row := listingKeysRow, standIns := [], harness := (true, "951f83aa9f88d37b036689e249202591891f9ccd2fd217d5c0344b677444877b"), looks := true }, kinds := [], alts := [], laidByText := true, laidKinds := [.data, .data, .data, .data, .sentinel, .sentinel, .pinned], laidTests := true, laidLooks := .later }
def ListingKeysCardSaid : Prop := Claim7.holds Tryz.pinned (.plain (OpenSpec.ofChange listingKeysSpec)) listingKeysCard

/-- THE TIED CARD OF 'boathouselaw22.ListingGaps'. -/
def listingGapsCard : Claim7 := { stood := { row := listingGapsRow, standIns := [], harness := (true, "951f83aa9f88d37b036689e249202591891f9ccd2fd217d5c0344b677444877b"), looks := true }, kinds := [], alts := [], laidByText := true, laidKinds := [.data, .data, .data, .data, .sentinel, .sentinel, .pinned], laidTests := true, laidLooks := .later }
def ListingGapsCardSaid : Prop := Claim7.holds Tryz.pinned (.plain (OpenSpec.ofChange listingGapsSpec)) listingGapsCard

/-- THE TIED CARD OF 'boathouselaw22.Listings'. -/
def listingsCard : Claim7 := { stood := { row := listingsRow, standIns := [], harness := (true, "951f83aa9f88d37b036689e249202591891f9ccd2fd217d5c0344b677444877b"), looks := true }, kinds := [], alts := [], laidByText := true, laidKinds := [.data, .data, .data, .data, .sentinel, .sentinel, .pinned], laidTests := true, laidLooks := .later }
def ListingsCardSaid : Prop := Claim7.holds Tryz.pinned (.plain (OpenSpec.ofChange listingsSpec)) listingsCard

/-- THE TIED CARD OF 'boathouselaw22.ListingWhole'. -/
def listingWholeCard : Claim7 := { stood := { row := listingWholeRow, standIns := [], harness := (true, "951f83aa9f88d37b036689e249202591891f9ccd2fd217d5c0344b677444877b"), looks := true }, kinds := [], alts := [], laidByText := true, laidKinds := [.data, .data, .data, .data, .sentinel, .sentinel, .pinned], laidTests := true, laidLooks := .later }
def ListingWholeCardSaid : Prop := Claim7.holds Tryz.pinned (.plain (OpenSpec.ofChange listingWholeSpec)) listingWholeCard

/-- THE SECOND FORM's CARD OF 'boathouselaw22.ListingKeys'. -/
def listingKeysUptoCard : Claim7 := { stood := { row := listingKeysUptoRow, standIns := [], harness := (true, "951f83aa9f88d37b036689e249202591891f9ccd2fd217d5c0344b677444877b"), looks := true }, kinds := [], alts := [], laidByText := true, laidKinds := [.data, .data, .data, .data, .sentinel, .sentinel, .pinned], laidTests := true, laidLooks := .later }
def ListingKeysUptoCardSaid : Prop := Claim7.holds Tryz.pinned (.plain (OpenSpec.upto listingKeysSpec)) listingKeysUptoCard

/-- THE SECOND FORM's CARD OF 'boathouselaw22.ListingGaps'. -/
def listingGapsUptoCard : Claim7 := { stood := { row := listingGapsUptoRow, standIns := [], harness := (true, "951f83aa9f88d37b036689e249202591891f9ccd2fd217d5c0344b677444877b"), looks := true }, kinds := [], alts := [], laidByText := true, laidKinds := [.data, .data, .data, .data, .sentinel, .sentinel, .pinned], laidTests := true, laidLooks := .later }
def ListingGapsUptoCardSaid : Prop := Claim7.holds Tryz.pinned (.plain (OpenSpec.upto listingGapsSpec)) listingGapsUptoCard

/-- THE SECOND FORM's CARD OF 'boathouselaw22.Listings'. -/
def listingsUptoCard : Claim7 := { stood := { row := listingsUptoRow, standIns := [], harness := (true, "951f83aa9f88d37b036689e249202591891f9ccd2fd217d5c0344b677444877b"), looks := true }, kinds := [], alts := [], laidByText := true, laidKinds := [.data, .data, .data, .data, .sentinel, .sentinel, .pinned], laidTests := true, laidLooks := .later }
def ListingsUptoCardSaid : Prop := Claim7.holds Tryz.pinned (.plain (OpenSpec.upto listingsSpec)) listingsUptoCard

/-- THE SECOND FORM's CARD OF 'boathouselaw22.ListingWhole'. -/
def listingWholeUptoCard : Claim7 := { stood := { row := listingWholeUptoRow, standIns := [], harness := (true, "951f83aa9f88d37b036689e249202591891f9ccd2fd217d5c0344b677444877b"), looks := true }, kinds := [], alts := [], laidByText := true, laidKinds := [.data, .data, .data, .data, .sentinel, .sentinel, .pinned], laidTests := true, laidLooks := .later }
def ListingWholeUptoCardSaid : Prop := Claim7.holds Tryz.pinned (.plain (OpenSpec.upto listingWholeSpec)) listingWholeUptoCard
end Rows
end Go.Proofs.YtlcimfabimfekaaGreatDoor
