/-
  DERIVED. GIVEN WITH THE SEED: THE CARDS: each row of YtinpnginjpfbpaaDoorRows.lean that lists a variable, with what it lists TIED to the program's text (the seventh form; the later family's looks); each row that meets fmt, with fmt's text TOLD by the authors' own Lean function (tested against real Go, not proved from fmt's source: count such statements apart). THE CARD IS WHAT COUNTS. Prove the row's statement (the work); the ties are given (YtinpnginjpfbpaaDoorTie.lean); close each card by the builder's one call (the guide's Derived/Test/ToyasCard.lean, 'card_holds'). Laid BY PROGRAM, IN A SANDBOX (cutbox-door.mjs). By AI agents, Wed Nov 11 2026. No macro, syntax, notation, axiom, sorry.
-/
import Derived.Test.YtinpnginjpfbpaaDoorRows
import GoSem.ClaimSeven
namespace Go.Proofs.YtinpnginjpfbpaaDoor
namespace Rows

/-- THE TIED CARD OF 'boathouselaw14.Projects'. -/
def projectsCard : Claim7 := { stood := { row := projectsRow, standIns := [], harness := (true, "b75bfddffad0a3c9c52b733a2864c2623d8c8ff9f8f85752c3d01842b3c59944"), looks := false }, kinds := [], alts := [], laidByText := true, laidKinds := [.data, .pinned], laidTests := true, laidLooks := .later }
def ProjectsCardSaid : Prop := Claim7.holds Tryd.pinned (.plain (OpenSpec.ofChange projectsSpec)) projectsCard

/-- THE SECOND FORM's CARD OF 'boathouselaw14.Projects'. -/
def projectsUptoCard : Claim7 := { stood := { row := projectsUptoRow, standIns := [], harness := (true, "b75bfddffad0a3c9c52b733a2864c2623d8c8ff9f8f85752c3d01842b3c59944"), looks := false }, kinds := [], alts := [], laidByText := true, laidKinds := [.data, .pinned], laidTests := true, laidLooks := .later }
def ProjectsUptoCardSaid : Prop := Claim7.holds Tryd.pinned (.plain (OpenSpec.upto projectsSpec)) projectsUptoCard
end Rows
end Go.Proofs.YtinpnginjpfbpaaDoor
