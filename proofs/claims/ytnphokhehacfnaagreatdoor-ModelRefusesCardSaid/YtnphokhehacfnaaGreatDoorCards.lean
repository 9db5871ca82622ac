/-
  DERIVED. GIVEN WITH THE SEED: THE CARDS: each row of YtnphokhehacfnaaGreatDoorRows.lean that lists a variable, with what it lists TIED to the program's text (the seventh form; the later family's looks); each row that meets fmt, with fmt's text TOLD by the authors' own Lean function (tested against real Go, not proved from fmt's source: count such statements apart). THE CARD IS WHAT COUNTS. Prove the row's statement (the work); the ties are given (YtnphokhehacfnaaGreatDoorTie.lean); close each card by the builder's one call (the guide's Derived/Test/ToyasCard.lean, 'card_holds'). Laid BY PROGRAM, IN A SANDBOX (cutbox-door.mjs). By AI agents, Wed Nov 11 2026. No macro, syntax, notation, axiom, sorry.
-/
import Derived.Test.YtnphokhehacfnaaGreatDoorRows
import GoSem.ClaimSeven
namespace Go.Proofs.YtnphokhehacfnaaGreatDoor
namespace Rows

/-- THE TIED CARD OF 'boathouselaw25.Models'. -/
def modelsCard : Claim7 := { stood := { row := modelsRow, standIns := [], harness := (true, "32b761f53ec16a24ac5c57a940b0b327cf19eb2f0f7b173e1559d2f5382c85b9"), looks := true }, kinds := [], alts := [], laidByText := true, laidKinds := [.data, .pinned], laidTests := true, laidLooks := .later }
def ModelsCardSaid : Prop := Claim7.holds Tryz.pinned (.plain (OpenSpec.ofChange modelsSpec)) modelsCard

/-- THE TIED CARD OF 'boathouselaw25.ModelReads'. -/
def modelReadsCard : Claim7 := { stood := { row := modelReadsRow, standIns := [], harness := (true, "32b761f53ec16a24ac5c57a940b0b327cf19eb2f0f7b173e1559d2f5382c85b9"), looks := true }, kinds := [], alts := [], laidByText := true, laidKinds := [.data, .pinned], laidTests := true, laidLooks := .later }
def ModelReadsCardSaid : Prop := Claim7.holds Tryz.pinned (.plain (OpenSpec.ofChange modelReadsSpec)) modelReadsCard

/-- THE TIED CARD OF 'boathouselaw25.ModelRuns'. -/
def modelRunsCard : Claim7 := { stood := { row := modelRunsRow, standIns := [], harness := (true, "32b761f53ec16a24ac5c57a940b0b327cf19eb2f0f7b173e1559d2f5382c85b9"), looks := true }, kinds := [], alts := [], laidByText := true, laidKinds := [.data, .pinned], laidTests := true, laidLooks := .later }
def ModelRunsCardSaid : Prop := Claim7.holds Tryz.pinned (.plain (OpenSpec.ofChange modelRunsSpec)) modelRunsCard

/-- THE TIED CARD OF 'boathouselaw25.ModelTwice'. -/
def modelTwiceCard : Claim7 := { stood := { row := modelTwiceRow, standIns := [], harness := (true, "32b761f53ec16a24ac5c57a940b0b327cf19eb2f0f7b173e1559d2f5382c85b9"), looks := true }, kinds := [], alts := [], laidByText := true, laidKinds := [.data, .pinned], laidTests := true, laidLooks := .later }
def ModelTwiceCardSaid : Prop := Claim7.holds Tryz.pinned (.plain (OpenSpec.ofChange modelTwiceSpec)) modelTwiceCard

/-- THE TIED CARD OF 'boathouselaw25.ModelSums'. -/
def modelSumsCard : Claim7 := { stood := { row := modelSumsRow, standIns := [], harness := (true, "32b761f53ec16a24ac5c57a940b0b327cf19eb2f0f7b173e1559d2f5382c85b9"), looks := true }, kinds := [], alts := [], laidByText := true, laidKinds := [.data, .pinned], laidTests := true, laidLooks := .later }
def ModelSumsCardSaid : Prop := Claim7.holds Tryz.pinned (.plain (OpenSpec.ofChange modelSumsSpec)) modelSumsCard

/-- THE TIED CARD OF 'boathouselaw25.ModelDeletes'. -/
def modelDeletesCard : Claim7 := { stood := { row := modelDeletesRow, standIns := [], harness := (true, "32b761f53ec16a24ac5c57a940b0b327cf19eb2f0f7b173e1559d2f5382c85b9"), looks := true }, kinds := [], alts := [], laidByText := true, laidKinds := [.data, .pinned], laidTests := true, laidLooks := .later }
def ModelDeletesCardSaid : Prop := Claim7.holds Tryz.pinned (.plain (OpenSpec.ofChange modelDeletesSpec)) modelDeletesCard

/-- THE TIED CARD OF 'boathouselaw25.ModelUpdates'. -/
def modelUpdatesCard : Claim7 := { stood := { row := modelUpdatesRow, standIns := [], harness := (true, "32b761f53ec16a24ac5c57a940b0b327cf19eb2f0f7b173e1559d2f5382c85b9"), looks := true }, kinds := [], alts := [], laidByText := true, laidKinds := [.data, .pinned], laidTests := true, laidLooks := .later }
def ModelUpdatesCardSaid : Prop := Claim7.holds Tryz.pinned (.plain (OpenSpec.ofChange modelUpdatesSpec)) modelUpdatesCard

/-- THE TIED CARD OF 'boathouselaw25.ModelColumns'. -/
def modelColumnsCard : Claim7 := { stood := { row := modelColumnsRow, standIns := [], harness := (true, "32b761f53ec16a24ac5c57a940b0b327cf19eb2f0f7b173e1559d2f5382c85b9"), looks := true }, kinds := [], alts := [], laidByText := true, laidKinds := [.data, .pinned], laidTests := true, laidLooks := .later }
def ModelColumnsCardSaid : Prop := Claim7.holds Tryz.pinned (.plain (OpenSpec.ofChange modelColumnsSpec)) modelColumnsCard

/-- THE TIED CARD OF 'boathouselaw25.ModelRefuses'. -/
def modelRefusesCard : Claim7 := { stood := { row := modelRefusesRow, standIns := [], harness := (true, "32b761f53ec16a24ac5c57a940b0b327cf19eb2f0f7b173e1559d2f5382c85b9"), looks := true }, kinds := [], alts := [], laidByText := true, laidKinds := [.data, .pinned], laidTests := true, laidLooks := .later }
def ModelRefusesCardSaid : Prop := Claim7.holds Tryz.pinned (.plain (OpenSpec.ofChange modelRefusesSpec)) modelRefusesCard

/-- THE SECOND FORM's CARD OF 'boathouselaw25.Models'. -/
def modelsUptoCard : Claim7 := { stood := { row := modelsUptoRow, standIns := [], harness := (true, "32b761f53ec16a24ac5c57a940b0b327cf19eb2f0f7b173e1559d2f5382c85b9"), looks := true }, kinds := [], alts := [], laidByText := true, laidKinds := [.data, .pinned], laidTests := true, laidLooks := .later }
def ModelsUptoCardSaid : Prop := Claim7.holds Tryz.pinned (.plain (OpenSpec.upto modelsSpec)) modelsUptoCard

/-- THE SECOND FORM's CARD OF 'boathouselaw25.ModelReads'. -/
def modelReadsUptoCard : Claim7 := { stood := { row := modelReadsUptoRow, standIns := [], harness := (true, "32b761f53ec16a24ac5c57a940b0b327cf19eb2f0f7b173e1559d2f5382c85b9"), looks := true }, kinds := [], alts := [], laidByText := true, laidKinds := [.data, .pinned], laidTests := true, laidLooks := .later }
def ModelReadsUptoCardSaid : Prop := Claim7.holds Tryz.pinned (.plain (OpenSpec.upto modelReadsSpec)) modelReadsUptoCard

/-- THE SECOND FORM's CARD OF 'boathouselaw25.ModelRuns'. -/
def modelRunsUptoCard : Claim7 := { stood := { row := modelRunsUptoRow, standIns := [], harness := (true, "32b761f53ec16a24ac5c57a940b0b327cf19eb2f0f7b173e1559d2f5382c85b9"), looks := true }, kinds := [], alts := [], laidByText := true, laidKinds := [.data, .pinned], laidTests := true, laidLooks := .later }
def ModelRunsUptoCardSaid : Prop := Claim7.holds Tryz.pinned (.plain (OpenSpec.upto modelRunsSpec)) modelRunsUptoCard

/-- THE SECOND FORM's CARD OF 'boathouselaw25.ModelTwice'. -/
def modelTwiceUptoCard : Claim7 := { stood := { row := modelTwiceUptoRow, standIns := [], harness := (true, "32b761f53ec16a24ac5c57a940b0b327cf19eb2f0f7b173e1559d2f5382c85b9"), looks := true }, kinds := [], alts := [], laidByText := true, laidKinds := [.data, .pinned], laidTests := true, laidLooks := .later }
def ModelTwiceUptoCardSaid : Prop := Claim7.holds Tryz.pinned (.plain (OpenSpec.upto modelTwiceSpec)) modelTwiceUptoCard

/-- THE SECOND FORM's CARD OF 'boathouselaw25.ModelSums'. -/
def modelSumsUptoCard : Claim7 := { stood := { row := modelSumsUptoRow, standIns := [], harness := (true, "32b761f53ec16a24ac5c57a940b0b327cf19eb2f0f7b173e1559d2f5382c85b9"), looks := true }, kinds := [], alts := [], laidByText := true, laidKinds := [.data, .pinned], laidTests := true, laidLooks := .later }
def ModelSumsUptoCardSaid : Prop := Claim7.holds Tryz.pinned (.plain (OpenSpec.upto modelSumsSpec)) modelSumsUptoCard

/-- THE SECOND FORM's CARD OF 'boathouselaw25.ModelDeletes'. -/
def modelDeletesUptoCard : Claim7 := { stood := { row := modelDeletesUptoRow, standIns := [], harness := (true, "32b761f53ec16a24ac5c57a940b0b327cf19eb2f0f7b173e1559d2f5382c85b9"), looks := true }, kinds := [], alts := [], laidByText := true, laidKinds := [.data, .pinned], laidTests := true, laidLooks := .later }
def ModelDeletesUptoCardSaid : Prop := Claim7.holds Tryz.pinned (.plain (OpenSpec.upto modelDeletesSpec)) modelDeletesUptoCard

/-- THE SECOND FORM's CARD OF 'boathouselaw25.ModelUpdates'. -/
def modelUpdatesUptoCard : Claim7 := { stood := { row := modelUpdatesUptoRow, standIns := [], harness := (true, "32b761f53ec16a24ac5c57a940b0b327cf19eb2f0f7b173e1559d2f5382c85b9"), looks := true }, kinds := [], alts := [], laidByText := true, laidKinds := [.data, .pinned], laidTests := true, laidLooks := .later }
def ModelUpdatesUptoCardSaid : Prop := Claim7.holds Tryz.pinned (.plain (OpenSpec.upto modelUpdatesSpec)) modelUpdatesUptoCard

/-- THE SECOND FORM's CARD OF 'boathouselaw25.ModelColumns'. -/
def modelColumnsUptoCard : Claim7 := { stood := { row := modelColumnsUptoRow, standIns := [], harness := (true, "32b761f53ec16a24ac5c57a940b0b327cf19eb2f0f7b173e1559d2f5382c85b9"), looks := true }, kinds := [], alts := [], laidByText := true, laidKinds := [.data, .pinned], laidTests := true, laidLooks := .later }
def ModelColumnsUptoCardSaid : Prop := Claim7.holds Tryz.pinned (.plain (OpenSpec.upto modelColumnsSpec)) modelColumnsUptoCard

/-- THE SECOND FORM's CARD OF 'boathouselaw25.ModelRefuses'. -/
def modelRefusesUptoCard : Claim7 := { stood := { row := modelRefusesUptoRow, standIns := [], harness := (true, "32b761f53ec16a24ac5c57a940b0b327cf19eb2f0f7b173e1559d2f5382c85b9"), looks := true }, kinds := [], alts := [], laidByText := true, laidKinds := [.data, .pinned], laidTests := true, laidLooks := .later }
def ModelRefusesUptoCardSaid : Prop := Claim7.holds Tryz.pinned (.plain (OpenSpec.upto modelRefusesSpec)) modelRefusesUptoCard
end Rows
end Go.Proofs.YtnphokhehacfnaaGreatDoor
