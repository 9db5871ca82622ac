/-
  DERIVED. GIVEN WITH THE SEED: THE CARDS: each row of YtcgpfllkbflbhaaGreatDoorRows.lean that lists a variable, with what it lists TIED to the program's text (the seventh form; the later family's looks); each row that meets fmt, with fmt's text TOLD by the authors' own Lean function (tested against real Go, not proved from fmt's source: count such statements apart). THE CARD IS WHAT COUNTS. Prove the row's statement (the work); the ties are given (YtcgpfllkbflbhaaGreatDoorTie.lean); close each card by the builder's one call (the guide's Derived/Test/ToyasCard.lean, 'card_holds'). Laid BY PROGRAM, IN A SANDBOX (cutbox-door.mjs). By AI agents, Wed Nov 11 2026. No macro, syntax, notation, axiom, sorry.
-/
import Derived.Test.YtcgpfllkbflbhaaGreatDoorRows
import GoSem.ClaimSeven
namespace Go.Proofs.YtcgpfllkbflbhaaGreatDoor
namespace Rows

/-- THE TIED CARD OF 'boathouselaw18.Prunes'. -/
def prunesCard : Claim7 := { stood := { row := prunesRow, standIns := [], harness := (true, "ce2de0a3efcdf28134a6b1a396659411ae0f56d527562e241c445c8e5fc7983e"), looks := false }, kinds := [], alts := [], laidByText := true, laidKinds := [.data, .pinned], laidTests := true, laidLooks := .later }
def PrunesCardSaid : Prop := Claim7.holds Tryz.pinned (.plain (OpenSpec.ofChange prunesSpec)) prunesCard

/-- THE SECOND FORM's CARD OF 'boathouselaw18.Prunes'. -/
def prunesUptoCard : Claim7 := { stood := { row := prunesUptoRow, standIns := [], harness := (true, "ce2de0a3efcdf28134a6b1a396659411ae0f56d527562e241c445c8e5fc7983e"), looks := false }, kinds := [], alts := [], laidByText := true, laidKinds := [.data, .pinned], laidTests := true, laidLooks := .later }
def PrunesUptoCardSaid : Prop := Claim7.holds Tryz.pinned (.plain (OpenSpec.upto prunesSpec)) prunesUptoCard
end Rows
end Go.Proofs.YtcgpfllkbflbhaaGreatDoor
