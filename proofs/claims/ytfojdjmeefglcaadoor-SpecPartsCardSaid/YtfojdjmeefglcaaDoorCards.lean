/-
  DERIVED. GIVEN WITH THE SEED: THE CARDS: each row of YtfojdjmeefglcaaDoorRows.lean that lists a variable, with what it lists TIED to the program's text (the seventh form; the later family's looks); each row that meets fmt, with fmt's text TOLD by the authors' own Lean function (tested against real Go, not proved from fmt's source: count such statements apart). THE CARD IS WHAT COUNTS. Prove the row's statement (the work); the ties are given (YtfojdjmeefglcaaDoorTie.lean); close each card by the builder's one call (the guide's Derived/Test/ToyasCard.lean, 'card_holds'). Laid BY PROGRAM, IN A SANDBOX (cutbox-door.mjs). By AI agents, Wed Nov 11 2026. No macro, syntax, notation, axiom, sorry.
-/
import Derived.Test.YtfojdjmeefglcaaDoorRows
import GoSem.ClaimSeven
namespace Go.Proofs.YtfojdjmeefglcaaDoor
namespace Rows

/-- THE TIED CARD OF 'boathouselaw12.Schemas'. -/
def schemasCard : Claim7 := { stood := { row := schemasRow, standIns := [], harness := (true, "40afcb06a9486249630f2c94b5cc2f3df577a290d94335c4c879b3dd9f82303e"), looks := false }, kinds := [], alts := [], laidByText := true, laidKinds := [.data, .pinned], laidTests := true, laidLooks := .later }
def SchemasCardSaid : Prop := Claim7.holds Tryd.pinned (.plain (OpenSpec.ofChange schemasSpec)) schemasCard

/-- THE TIED CARD OF 'boathouselaw12.SchemaWalks'. -/
def schemaWalksCard : Claim7 := { stood := { row := schemaWalksRow, standIns := [], harness := (true, "40afcb06a9486249630f2c94b5cc2f3df577a290d94335c4c879b3dd9f82303e"), looks := false }, kinds := [], alts := [], laidByText := true, laidKinds := [.data, .pinned], laidTests := true, laidLooks := .later }
def SchemaWalksCardSaid : Prop := Claim7.holds Tryd.pinned (.plain (OpenSpec.ofChange schemaWalksSpec)) schemaWalksCard

/-- THE TIED CARD OF 'boathouselaw12.SchemaNames'. -/
def schemaNamesCard : Claim7 := { stood := { row := schemaNamesRow, standIns := [], harness := (true, "40afcb06a9486249630f2c94b5cc2f3df577a290d94335c4c879b3dd9f82303e"), looks := false }, kinds := [], alts := [], laidByText := true, laidKinds := [.data, .pinned], laidTests := true, laidLooks := .later }
def SchemaNamesCardSaid : Prop := Claim7.holds Tryd.pinned (.plain (OpenSpec.ofChange schemaNamesSpec)) schemaNamesCard

/-- THE TIED CARD OF 'boathouselaw12.SchemaFull'. -/
def schemaFullCard : Claim7 := { stood := { row := schemaFullRow, standIns := [], harness := (true, "40afcb06a9486249630f2c94b5cc2f3df577a290d94335c4c879b3dd9f82303e"), looks := false }, kinds := [], alts := [], laidByText := true, laidKinds := [.data, .pinned], laidTests := true, laidLooks := .later }
def SchemaFullCardSaid : Prop := Claim7.holds Tryd.pinned (.plain (OpenSpec.ofChange schemaFullSpec)) schemaFullCard

/-- THE TIED CARD OF 'boathouselaw14.Projects'. -/
def projectsCard : Claim7 := { stood := { row := projectsRow, standIns := [], harness := (true, "40afcb06a9486249630f2c94b5cc2f3df577a290d94335c4c879b3dd9f82303e"), looks := false }, kinds := [], alts := [], laidByText := true, laidKinds := [.data, .pinned], laidTests := true, laidLooks := .later }
def ProjectsCardSaid : Prop := Claim7.holds Tryd.pinned (.plain (OpenSpec.ofChange projectsSpec)) projectsCard

/-- THE TIED CARD OF 'boathouselaw14.ProjectNames'. -/
def projectNamesCard : Claim7 := { stood := { row := projectNamesRow, standIns := [], harness := (true, "40afcb06a9486249630f2c94b5cc2f3df577a290d94335c4c879b3dd9f82303e"), looks := false }, kinds := [], alts := [], laidByText := true, laidKinds := [.data, .pinned], laidTests := true, laidLooks := .later }
def ProjectNamesCardSaid : Prop := Claim7.holds Tryd.pinned (.plain (OpenSpec.ofChange projectNamesSpec)) projectNamesCard

/-- THE TIED CARD OF 'boathouselaw14.ProjectPicks'. -/
def projectPicksCard : Claim7 := { stood := { row := projectPicksRow, standIns := [], harness := (true, "40afcb06a9486249630f2c94b5cc2f3df577a290d94335c4c879b3dd9f82303e"), looks := false }, kinds := [], alts := [], laidByText := true, laidKinds := [.data, .pinned], laidTests := true, laidLooks := .later }
def ProjectPicksCardSaid : Prop := Claim7.holds Tryd.pinned (.plain (OpenSpec.ofChange projectPicksSpec)) projectPicksCard

/-- THE TIED CARD OF 'boathouselaw13.SpecApplies'. -/
def specAppliesCard : Claim7 := { stood := { row := specAppliesRow, standIns := [], harness := (true, "40afcb06a9486249630f2c94b5cc2f3df577a290d94335c4c879b3dd9f82303e"), looks := false }, kinds := [], alts := [], laidByText := true, laidKinds := [.data, .pinned], laidTests := true, laidLooks := .later }
def SpecAppliesCardSaid : Prop := Claim7.holds Tryd.pinned (.plain (OpenSpec.ofChange specAppliesSpec)) specAppliesCard

/-- THE TIED CARD OF 'boathouselaw13.SpecTwice'. -/
def specTwiceCard : Claim7 := { stood := { row := specTwiceRow, standIns := [], harness := (true, "40afcb06a9486249630f2c94b5cc2f3df577a290d94335c4c879b3dd9f82303e"), looks := false }, kinds := [], alts := [], laidByText := true, laidKinds := [.data, .pinned], laidTests := true, laidLooks := .later }
def SpecTwiceCardSaid : Prop := Claim7.holds Tryd.pinned (.plain (OpenSpec.ofChange specTwiceSpec)) specTwiceCard

/-- THE TIED CARD OF 'boathouselaw13.SpecParts'. -/
def specPartsCard : Claim7 := { stood := { row := specPartsRow, standIns := [], harness := (true, "40afcb06a9486249630f2c94b5cc2f3df577a290d94335c4c879b3dd9f82303e"), looks := false }, kinds := [], alts := [], laidByText := true, laidKinds := [.data, .pinned], laidTests := true, laidLooks := .later }
def SpecPartsCardSaid : Prop := Claim7.holds Tryd.pinned (.plain (OpenSpec.ofChange specPartsSpec)) specPartsCard

/-- THE TIED CARD OF 'boathouselaw13.SpecGroups'. -/
def specGroupsCard : Claim7 := { stood := { row := specGroupsRow, standIns := [], harness := (true, "40afcb06a9486249630f2c94b5cc2f3df577a290d94335c4c879b3dd9f82303e"), looks := false }, kinds := [], alts := [], laidByText := true, laidKinds := [.data, .pinned], laidTests := true, laidLooks := .later }
def SpecGroupsCardSaid : Prop := Claim7.holds Tryd.pinned (.plain (OpenSpec.ofChange specGroupsSpec)) specGroupsCard

/-- THE SECOND FORM's CARD OF 'boathouselaw12.Schemas'. -/
def schemasUptoCard : Claim7 := { stood := { row := schemasUptoRow, standIns := [], harness := (true, "40afcb06a9486249630f2c94b5cc2f3df577a290d94335c4c879b3dd9f82303e"), looks := false }, kinds := [], alts := [], laidByText := true, laidKinds := [.data, .pinned], laidTests := true, laidLooks := .later }
def SchemasUptoCardSaid : Prop := Claim7.holds Tryd.pinned (.plain (OpenSpec.upto schemasSpec)) schemasUptoCard

/-- THE SECOND FORM's CARD OF 'boathouselaw12.SchemaWalks'. -/
def schemaWalksUptoCard : Claim7 := { stood := { row := schemaWalksUptoRow, standIns := [], harness := (true, "40afcb06a9486249630f2c94b5cc2f3df577a290d94335c4c879b3dd9f82303e"), looks := false }, kinds := [], alts := [], laidByText := true, laidKinds := [.data, .pinned], laidTests := true, laidLooks := .later }
def SchemaWalksUptoCardSaid : Prop := Claim7.holds Tryd.pinned (.plain (OpenSpec.upto schemaWalksSpec)) schemaWalksUptoCard

/-- THE SECOND FORM's CARD OF 'boathouselaw12.SchemaNames'. -/
def schemaNamesUptoCard : Claim7 := { stood := { row := schemaNamesUptoRow, standIns := [], harness := (true, "40afcb06a9486249630f2c94b5cc2f3df577a290d94335c4c879b3dd9f82303e"), looks := false }, kinds := [], alts := [], laidByText := true, laidKinds := [.data, .pinned], laidTests := true, laidLooks := .later }
def SchemaNamesUptoCardSaid : Prop := Claim7.holds Tryd.pinned (.plain (OpenSpec.upto schemaNamesSpec)) schemaNamesUptoCard

/-- THE SECOND FORM's CARD OF 'boathouselaw12.SchemaFull'. -/
def schemaFullUptoCard : Claim7 := { stood := { row := schemaFullUptoRow, standIns := [], harness := (true, "40afcb06a9486249630f2c94b5cc2f3df577a290d94335c4c879b3dd9f82303e"), looks := false }, kinds := [], alts := [], laidByText := true, laidKinds := [.data, .pinned], laidTests := true, laidLooks := .later }
def SchemaFullUptoCardSaid : Prop := Claim7.holds Tryd.pinned (.plain (OpenSpec.upto schemaFullSpec)) schemaFullUptoCard

/-- THE SECOND FORM's CARD OF 'boathouselaw14.Projects'. -/
def projectsUptoCard : Claim7 := { stood := { row := projectsUptoRow, standIns := [], harness := (true, "40afcb06a9486249630f2c94b5cc2f3df577a290d94335c4c879b3dd9f82303e"), looks := false }, kinds := [], alts := [], laidByText := true, laidKinds := [.data, .pinned], laidTests := true, laidLooks := .later }
def ProjectsUptoCardSaid : Prop := Claim7.holds Tryd.pinned (.plain (OpenSpec.upto projectsSpec)) projectsUptoCard

/-- THE SECOND FORM's CARD OF 'boathouselaw14.ProjectNames'. -/
def projectNamesUptoCard : Claim7 := { stood := { row := projectNamesUptoRow, standIns := [], harness := (true, "40afcb06a9486249630f2c94b5cc2f3df577a290d94335c4c879b3dd9f82303e"), looks := false }, kinds := [], alts := [], laidByText := true, laidKinds := [.data, .pinned], laidTests := true, laidLooks := .later }
def ProjectNamesUptoCardSaid : Prop := Claim7.holds Tryd.pinned (.plain (OpenSpec.upto projectNamesSpec)) projectNamesUptoCard

/-- THE SECOND FORM's CARD OF 'boathouselaw14.ProjectPicks'. -/
def projectPicksUptoCard : Claim7 := { stood := { row := projectPicksUptoRow, standIns := [], harness := (true, "40afcb06a9486249630f2c94b5cc2f3df577a290d94335c4c879b3dd9f82303e"), looks := false }, kinds := [], alts := [], laidByText := true, laidKinds := [.data, .pinned], laidTests := true, laidLooks := .later }
def ProjectPicksUptoCardSaid : Prop := Claim7.holds Tryd.pinned (.plain (OpenSpec.upto projectPicksSpec)) projectPicksUptoCard

/-- THE SECOND FORM's CARD OF 'boathouselaw13.SpecApplies'. -/
def specAppliesUptoCard : Claim7 := { stood := { row := specAppliesUptoRow, standIns := [], harness := (true, "40afcb06a9486249630f2c94b5cc2f3df577a290d94335c4c879b3dd9f82303e"), looks := false }, kinds := [], alts := [], laidByText := true, laidKinds := [.data, .pinned], laidTests := true, laidLooks := .later }
def SpecAppliesUptoCardSaid : Prop := Claim7.holds Tryd.pinned (.plain (OpenSpec.upto specAppliesSpec)) specAppliesUptoCard

/-- THE SECOND FORM's CARD OF 'boathouselaw13.SpecTwice'. -/
def specTwiceUptoCard : Claim7 := { stood := { row := specTwiceUptoRow, standIns := [], harness := (true, "40afcb06a9486249630f2c94b5cc2f3df577a290d94335c4c879b3dd9f82303e"), looks := false }, kinds := [], alts := [], laidByText := true, laidKinds := [.data, .pinned], laidTests := true, laidLooks := .later }
def SpecTwiceUptoCardSaid : Prop := Claim7.holds Tryd.pinned (.plain (OpenSpec.upto specTwiceSpec)) specTwiceUptoCard

/-- THE SECOND FORM's CARD OF 'boathouselaw13.SpecParts'. -/
def specPartsUptoCard : Claim7 := { stood := { row := specPartsUptoRow, standIns := [], harness := (true, "40afcb06a9486249630f2c94b5cc2f3df577a290d94335c4c879b3dd9f82303e"), looks := false }, kinds := [], alts := [], laidByText := true, laidKinds := [.data, .pinned], laidTests := true, laidLooks := .later }
def SpecPartsUptoCardSaid : Prop := Claim7.holds Tryd.pinned (.plain (OpenSpec.upto specPartsSpec)) specPartsUptoCard

/-- THE SECOND FORM's CARD OF 'boathouselaw13.SpecGroups'. -/
def specGroupsUptoCard : Claim7 := { stood := { row := specGroupsUptoRow, standIns := [], harness := (true, "40afcb06a9486249630f2c94b5cc2f3df577a290d94335c4c879b3dd9f82303e"), looks := false }, kinds := [], alts := [], laidByText := true, laidKinds := [.data, .pinned], laidTests := true, laidLooks := .later }
def SpecGroupsUptoCardSaid : Prop := Claim7.holds Tryd.pinned (.plain (OpenSpec.upto specGroupsSpec)) specGroupsUptoCard
end Rows
end Go.Proofs.YtfojdjmeefglcaaDoor
