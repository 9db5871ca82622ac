/-
  NARROWER THAN 'FOR EVERY INPUT', by the rows' own cells (each row's printed sentence says how): Schemas: laid · SchemaWalks: laid · SchemaNames: laid · SchemaFull: laid · Projects: laid · ProjectNames: laid · ProjectPicks: laid · SpecApplies: laid · SpecTwice: laid · SpecParts: laid · SpecGroups: laid.
  DERIVED. THE GIVEN ROWS OF THIS SEAT. 11 by the template 'for every input the law returns true; each argument reads behind the call as it read before'; 0 by the template 'total and deterministic' (their statements: YtfojdjmeefglcaaDoorTotals.lean).
  GIVEN WITH THE SEED: the statements are not yours to turn. If you find one false, say at which input.
  Laid BY PROGRAM, IN A SANDBOX (cutbox-rows.mjs): the forced cells as the released guide's own fill.sh prints them over the translation 19563e8965309298… (all of the seat's roots in one cut). By AI agents, Wed Nov 11 2026. No macro, syntax, notation, axiom, sorry.
-/
import Derived.Test.YtfojdjmeefglcaaDoorChecked
import GoSem.PinnedTables
import GoSem.Claim
import GoSem.ClaimJoined
import GoSem.ClaimMapViews
import Derived.JoinedTies
import Derived.KernelRfl
namespace Go.Proofs.YtfojdjmeefglcaaDoor
/- THE CELL 'sum', in the pinned program and in every row, IS THE sha256 OF THE DUMP (.gsa) THAT YtfojdjmeefglcaaDoorProg.lean LOADS. Nothing in Lean hashes anything: it is a label: what it is worth is what the hold of that sum in a sandbox is worth. -/
noncomputable def Tryd.pinned : Pinned := { name := "ytfojdjmeefglcaadoor", sum := "19563e8965309298797c08faf2558d650c1ed87553275f920cf7997949df5110", checked := Tryd.checked }
namespace Rows
def none {H : Type} : Left H := { results := [], args := [] }

/- WHAT THE LISTED PACKAGE-LEVEL VARIABLES READ AS WHEN THE CALL BEGINS. Each datum BY PROGRAM (the guide's laid-datum.mjs) off the statement by which the dump's own 'gosem.cut.vars' lays the variable. In a bare row this is a premise. The card (YtfojdjmeefglcaaDoorCards.lean) ties it to the program's text. -/
def laid_unicode_utf8_acceptRanges {H : Type} : DataW H := .agg [.agg [.lit (.int .u8 128), .lit (.int .u8 191)], .agg [.lit (.int .u8 160), .lit (.int .u8 191)], .agg [.lit (.int .u8 128), .lit (.int .u8 159)], .agg [.lit (.int .u8 144), .lit (.int .u8 191)], .agg [.lit (.int .u8 128), .lit (.int .u8 143)], .agg [.lit (.int .u8 0), .lit (.int .u8 0)], .agg [.lit (.int .u8 0), .lit (.int .u8 0)], .agg [.lit (.int .u8 0), .lit (.int .u8 0)], .agg [.lit (.int .u8 0), .lit (.int .u8 0)], .agg [.lit (.int .u8 0), .lit (.int .u8 0)], .agg [.lit (.int .u8 0), .lit (.int .u8 0)], .agg [.lit (.int .u8 0), .lit (.int .u8 0)], .agg [.lit (.int .u8 0), .lit (.int .u8 0)], .agg [.lit (.int .u8 0), .lit (.int .u8 0)], .agg [.lit (.int .u8 0), .lit (.int .u8 0)], .agg [.lit (.int .u8 0), .lit (.int .u8 0)]]
/-- One of Go's own tables, pinned by name: the form's constant. -/
def laid_unicode_utf8_first : DataW Unit := Go.Pinned.utf8First

/-- 'boathouselaw12.Schemas': WHATEVER THE INPUT: true; the input reads as it did. -/
def schemasSpec : ChangeSpec := { name := "schemas", fn := fun _ => fun
  | [d1, d2, d3, d4, d5, d6] => { results := [.lit (.bool true)], args := [d1, d2, d3, d4, d5, d6] }
  | _ => none }
def schemasRow : OpenClaim := { program := "ytfojdjmeefglcaadoor", sum := "19563e8965309298797c08faf2558d650c1ed87553275f920cf7997949df5110", func := "boathouse/boathouselaw12.Schemas", spec := "schemas", inPlace := ["internal/bytealg.IndexByteString", "internal/bytealg.IndexString"], unfollowed := true, recurses := true, named := ["unicode/utf8.first", "unicode/utf8.acceptRanges", "internal/bytealg.MaxLen"], apart := false, laid := [("unicode/utf8.acceptRanges", laid_unicode_utf8_acceptRanges), ("unicode/utf8.first", laid_unicode_utf8_first)] }
def SchemasSaid : Prop := schemasRow.holds Tryd.pinned (OpenSpec.ofChange schemasSpec)

/-- ITS FALSE NEIGHBOUR: 'it returns false'. Refute it at one input. -/
def schemasWrong : ChangeSpec := { name := "schemas", fn := fun _ => fun
  | [d1, d2, d3, d4, d5, d6] => { results := [.lit (.bool false)], args := [d1, d2, d3, d4, d5, d6] }
  | _ => none }
def SchemasWrongFalsely : Prop := schemasRow.holds Tryd.pinned (OpenSpec.ofChange schemasWrong)

/-- 'boathouselaw12.SchemaWalks': WHATEVER THE INPUT: true; the input reads as it did. -/
def schemaWalksSpec : ChangeSpec := { name := "schemaWalks", fn := fun _ => fun
  | [d] => { results := [.lit (.bool true)], args := [d] }
  | _ => none }
def schemaWalksRow : OpenClaim := { program := "ytfojdjmeefglcaadoor", sum := "19563e8965309298797c08faf2558d650c1ed87553275f920cf7997949df5110", func := "boathouse/boathouselaw12.SchemaWalks", spec := "schemaWalks", inPlace := ["internal/bytealg.IndexByteString", "internal/bytealg.IndexString"], unfollowed := true, recurses := true, named := ["unicode/utf8.first", "unicode/utf8.acceptRanges", "internal/bytealg.MaxLen"], apart := false, laid := [("unicode/utf8.acceptRanges", laid_unicode_utf8_acceptRanges), ("unicode/utf8.first", laid_unicode_utf8_first)] }
def SchemaWalksSaid : Prop := schemaWalksRow.holds Tryd.pinned (OpenSpec.ofChange schemaWalksSpec)

/-- ITS FALSE NEIGHBOUR: 'it returns false'. Refute it at one input. -/
def schemaWalksWrong : ChangeSpec := { name := "schemaWalks", fn := fun _ => fun
  | [d] => { results := [.lit (.bool false)], args := [d] }
  | _ => none }
def SchemaWalksWrongFalsely : Prop := schemaWalksRow.holds Tryd.pinned (OpenSpec.ofChange schemaWalksWrong)

/-- 'boathouselaw12.SchemaNames': WHATEVER THE INPUT: true; the input reads as it did. -/
def schemaNamesSpec : ChangeSpec := { name := "schemaNames", fn := fun _ => fun
  | [d1, d2] => { results := [.lit (.bool true)], args := [d1, d2] }
  | _ => none }
def schemaNamesRow : OpenClaim := { program := "ytfojdjmeefglcaadoor", sum := "19563e8965309298797c08faf2558d650c1ed87553275f920cf7997949df5110", func := "boathouse/boathouselaw12.SchemaNames", spec := "schemaNames", inPlace := ["internal/bytealg.IndexByteString", "internal/bytealg.IndexString"], unfollowed := true, recurses := true, named := ["unicode/utf8.first", "unicode/utf8.acceptRanges", "internal/bytealg.MaxLen"], apart := false, laid := [("unicode/utf8.acceptRanges", laid_unicode_utf8_acceptRanges), ("unicode/utf8.first", laid_unicode_utf8_first)] }
def SchemaNamesSaid : Prop := schemaNamesRow.holds Tryd.pinned (OpenSpec.ofChange schemaNamesSpec)

/-- ITS FALSE NEIGHBOUR: 'it returns false'. Refute it at one input. -/
def schemaNamesWrong : ChangeSpec := { name := "schemaNames", fn := fun _ => fun
  | [d1, d2] => { results := [.lit (.bool false)], args := [d1, d2] }
  | _ => none }
def SchemaNamesWrongFalsely : Prop := schemaNamesRow.holds Tryd.pinned (OpenSpec.ofChange schemaNamesWrong)

/-- 'boathouselaw12.SchemaFull': WHATEVER THE INPUT: true; the input reads as it did. -/
def schemaFullSpec : ChangeSpec := { name := "schemaFull", fn := fun _ => fun
  | [d1, d2] => { results := [.lit (.bool true)], args := [d1, d2] }
  | _ => none }
def schemaFullRow : OpenClaim := { program := "ytfojdjmeefglcaadoor", sum := "19563e8965309298797c08faf2558d650c1ed87553275f920cf7997949df5110", func := "boathouse/boathouselaw12.SchemaFull", spec := "schemaFull", inPlace := ["internal/bytealg.IndexByteString", "internal/bytealg.IndexString"], unfollowed := true, recurses := true, named := ["unicode/utf8.first", "unicode/utf8.acceptRanges", "internal/bytealg.MaxLen"], apart := false, laid := [("unicode/utf8.acceptRanges", laid_unicode_utf8_acceptRanges), ("unicode/utf8.first", laid_unicode_utf8_first)] }
def SchemaFullSaid : Prop := schemaFullRow.holds Tryd.pinned (OpenSpec.ofChange schemaFullSpec)

/-- ITS FALSE NEIGHBOUR: 'it returns false'. Refute it at one input. -/
def schemaFullWrong : ChangeSpec := { name := "schemaFull", fn := fun _ => fun
  | [d1, d2] => { results := [.lit (.bool false)], args := [d1, d2] }
  | _ => none }
def SchemaFullWrongFalsely : Prop := schemaFullRow.holds Tryd.pinned (OpenSpec.ofChange schemaFullWrong)

/-- 'boathouselaw14.Projects': WHATEVER THE INPUT: true; the input reads as it did. -/
def projectsSpec : ChangeSpec := { name := "projects", fn := fun _ => fun
  | [d1, d2, d3, d4] => { results := [.lit (.bool true)], args := [d1, d2, d3, d4] }
  | _ => none }
def projectsRow : OpenClaim := { program := "ytfojdjmeefglcaadoor", sum := "19563e8965309298797c08faf2558d650c1ed87553275f920cf7997949df5110", func := "boathouse/boathouselaw14.Projects", spec := "projects", inPlace := ["internal/bytealg.IndexByteString", "internal/bytealg.IndexString"], unfollowed := true, recurses := true, named := ["unicode/utf8.first", "unicode/utf8.acceptRanges", "internal/bytealg.MaxLen"], apart := false, laid := [("unicode/utf8.acceptRanges", laid_unicode_utf8_acceptRanges), ("unicode/utf8.first", laid_unicode_utf8_first)] }
def ProjectsSaid : Prop := projectsRow.holds Tryd.pinned (OpenSpec.ofChange projectsSpec)

/-- ITS FALSE NEIGHBOUR: 'it returns false'. Refute it at one input. -/
def projectsWrong : ChangeSpec := { name := "projects", fn := fun _ => fun
  | [d1, d2, d3, d4] => { results := [.lit (.bool false)], args := [d1, d2, d3, d4] }
  | _ => none }
def ProjectsWrongFalsely : Prop := projectsRow.holds Tryd.pinned (OpenSpec.ofChange projectsWrong)

/-- 'boathouselaw14.ProjectNames': WHATEVER THE INPUT: true; the input reads as it did. -/
def projectNamesSpec : ChangeSpec := { name := "projectNames", fn := fun _ => fun
  | [d1, d2, d3, d4] => { results := [.lit (.bool true)], args := [d1, d2, d3, d4] }
  | _ => none }
def projectNamesRow : OpenClaim := { program := "ytfojdjmeefglcaadoor", sum := "19563e8965309298797c08faf2558d650c1ed87553275f920cf7997949df5110", func := "boathouse/boathouselaw14.ProjectNames", spec := "projectNames", inPlace := ["internal/bytealg.IndexByteString", "internal/bytealg.IndexString"], unfollowed := true, recurses := true, named := ["unicode/utf8.first", "unicode/utf8.acceptRanges", "internal/bytealg.MaxLen"], apart := false, laid := [("unicode/utf8.acceptRanges", laid_unicode_utf8_acceptRanges), ("unicode/utf8.first", laid_unicode_utf8_first)] }
def ProjectNamesSaid : Prop := projectNamesRow.holds Tryd.pinned (OpenSpec.ofChange projectNamesSpec)

/-- ITS FALSE NEIGHBOUR: 'it returns false'. Refute it at one input. -/
def projectNamesWrong : ChangeSpec := { name := "projectNames", fn := fun _ => fun
  | [d1, d2, d3, d4] => { results := [.lit (.bool false)], args := [d1, d2, d3, d4] }
  | _ => none }
def ProjectNamesWrongFalsely : Prop := projectNamesRow.holds Tryd.pinned (OpenSpec.ofChange projectNamesWrong)

/-- 'boathouselaw14.ProjectPicks': WHATEVER THE INPUT: true; the input reads as it did. -/
def projectPicksSpec : ChangeSpec := { name := "projectPicks", fn := fun _ => fun
  | [d1, d2, d3] => { results := [.lit (.bool true)], args := [d1, d2, d3] }
  | _ => none }
def projectPicksRow : OpenClaim := { program := "ytfojdjmeefglcaadoor", sum := "19563e8965309298797c08faf2558d650c1ed87553275f920cf7997949df5110", func := "boathouse/boathouselaw14.ProjectPicks", spec := "projectPicks", inPlace := ["internal/bytealg.IndexByteString", "internal/bytealg.IndexString"], unfollowed := true, recurses := true, named := ["unicode/utf8.first", "unicode/utf8.acceptRanges", "internal/bytealg.MaxLen"], apart := false, laid := [("unicode/utf8.acceptRanges", laid_unicode_utf8_acceptRanges), ("unicode/utf8.first", laid_unicode_utf8_first)] }
def ProjectPicksSaid : Prop := projectPicksRow.holds Tryd.pinned (OpenSpec.ofChange projectPicksSpec)

/-- ITS FALSE NEIGHBOUR: 'it returns false'. Refute it at one input. -/
def projectPicksWrong : ChangeSpec := { name := "projectPicks", fn := fun _ => fun
  | [d1, d2, d3] => { results := [.lit (.bool false)], args := [d1, d2, d3] }
  | _ => none }
def ProjectPicksWrongFalsely : Prop := projectPicksRow.holds Tryd.pinned (OpenSpec.ofChange projectPicksWrong)

/-- 'boathouselaw13.SpecApplies': WHATEVER THE INPUT: true; the input reads as it did. -/
def specAppliesSpec : ChangeSpec := { name := "specApplies", fn := fun _ => fun
  | [d1, d2] => { results := [.lit (.bool true)], args := [d1, d2] }
  | _ => none }
def specAppliesRow : OpenClaim := { program := "ytfojdjmeefglcaadoor", sum := "19563e8965309298797c08faf2558d650c1ed87553275f920cf7997949df5110", func := "boathouse/boathouselaw13.SpecApplies", spec := "specApplies", inPlace := ["internal/bytealg.IndexByteString", "internal/bytealg.IndexString"], unfollowed := true, recurses := true, named := ["unicode/utf8.first", "unicode/utf8.acceptRanges", "internal/bytealg.MaxLen"], apart := false, laid := [("unicode/utf8.acceptRanges", laid_unicode_utf8_acceptRanges), ("unicode/utf8.first", laid_unicode_utf8_first)] }
def SpecAppliesSaid : Prop := specAppliesRow.holds Tryd.pinned (OpenSpec.ofChange specAppliesSpec)

/-- ITS FALSE NEIGHBOUR: 'it returns false'. Refute it at one input. -/
def specAppliesWrong : ChangeSpec := { name := "specApplies", fn := fun _ => fun
  | [d1, d2] => { results := [.lit (.bool false)], args := [d1, d2] }
  | _ => none }
def SpecAppliesWrongFalsely : Prop := specAppliesRow.holds Tryd.pinned (OpenSpec.ofChange specAppliesWrong)

/-- 'boathouselaw13.SpecTwice': WHATEVER THE INPUT: true; the input reads as it did. -/
def specTwiceSpec : ChangeSpec := { name := "specTwice", fn := fun _ => fun
  | [d1, d2] => { results := [.lit (.bool true)], args := [d1, d2] }
  | _ => none }
def specTwiceRow : OpenClaim := { program := "ytfojdjmeefglcaadoor", sum := "19563e8965309298797c08faf2558d650c1ed87553275f920cf7997949df5110", func := "boathouse/boathouselaw13.SpecTwice", spec := "specTwice", inPlace := ["internal/bytealg.IndexByteString", "internal/bytealg.IndexString"], unfollowed := true, recurses := true, named := ["unicode/utf8.first", "unicode/utf8.acceptRanges", "internal/bytealg.MaxLen"], apart := false, laid := [("unicode/utf8.acceptRanges", laid_unicode_utf8_acceptRanges), ("unicode/utf8.first", laid_unicode_utf8_first)] }
def SpecTwiceSaid : Prop := specTwiceRow.holds Tryd.pinned (OpenSpec.ofChange specTwiceSpec)

/-- ITS FALSE NEIGHBOUR: 'it returns false'. Refute it at one input. -/
def specTwiceWrong : ChangeSpec := { name := "specTwice", fn := fun _ => fun
  | [d1, d2] => { results := [.lit (.bool false)], args := [d1, d2] }
  | _ => none }
def SpecTwiceWrongFalsely : Prop := specTwiceRow.holds Tryd.pinned (OpenSpec.ofChange specTwiceWrong)

/-- 'boathouselaw13.SpecParts': WHATEVER THE INPUT: true; the input reads as it did. -/
def specPartsSpec : ChangeSpec := { name := "specParts", fn := fun _ => fun
  | [d1, d2, d3] => { results := [.lit (.bool true)], args := [d1, d2, d3] }
  | _ => none }
def specPartsRow : OpenClaim := { program := "ytfojdjmeefglcaadoor", sum := "19563e8965309298797c08faf2558d650c1ed87553275f920cf7997949df5110", func := "boathouse/boathouselaw13.SpecParts", spec := "specParts", inPlace := ["internal/bytealg.IndexByteString", "internal/bytealg.IndexString"], unfollowed := true, recurses := true, named := ["unicode/utf8.first", "unicode/utf8.acceptRanges", "internal/bytealg.MaxLen"], apart := false, laid := [("unicode/utf8.acceptRanges", laid_unicode_utf8_acceptRanges), ("unicode/utf8.first", laid_unicode_utf8_first)] }
def SpecPartsSaid : Prop := specPartsRow.holds Tryd.pinned (OpenSpec.ofChange specPartsSpec)

/-- ITS FALSE NEIGHBOUR: 'it returns false'. Refute it at one input. -/
def specPartsWrong : ChangeSpec := { name := "specParts", fn := fun _ => fun
  | [d1, d2, d3] => { results := [.lit (.bool false)], args := [d1, d2, d3] }
  | _ => none }
def SpecPartsWrongFalsely : Prop := specPartsRow.holds Tryd.pinned (OpenSpec.ofChange specPartsWrong)

/-- 'boathouselaw13.SpecGroups': WHATEVER THE INPUT: true; the input reads as it did. -/
def specGroupsSpec : ChangeSpec := { name := "specGroups", fn := fun _ => fun
  | [d1, d2, d3] => { results := [.lit (.bool true)], args := [d1, d2, d3] }
  | _ => none }
def specGroupsRow : OpenClaim := { program := "ytfojdjmeefglcaadoor", sum := "19563e8965309298797c08faf2558d650c1ed87553275f920cf7997949df5110", func := "boathouse/boathouselaw13.SpecGroups", spec := "specGroups", inPlace := ["internal/bytealg.IndexByteString", "internal/bytealg.IndexString"], unfollowed := true, recurses := true, named := ["unicode/utf8.first", "unicode/utf8.acceptRanges", "internal/bytealg.MaxLen"], apart := false, laid := [("unicode/utf8.acceptRanges", laid_unicode_utf8_acceptRanges), ("unicode/utf8.first", laid_unicode_utf8_first)] }
def SpecGroupsSaid : Prop := specGroupsRow.holds Tryd.pinned (OpenSpec.ofChange specGroupsSpec)

/-- ITS FALSE NEIGHBOUR: 'it returns false'. Refute it at one input. -/
def specGroupsWrong : ChangeSpec := { name := "specGroups", fn := fun _ => fun
  | [d1, d2, d3] => { results := [.lit (.bool false)], args := [d1, d2, d3] }
  | _ => none }
def SpecGroupsWrongFalsely : Prop := specGroupsRow.holds Tryd.pinned (OpenSpec.ofChange specGroupsWrong)

/- THE SECOND FORM. 'bulk': how many values and letters a reading holds, each counted each time it is reached (what is shared counts as often as it is met; a slice's spare places count too). A statement '..UptoSaid' is the law's where the arguments, and the package variables that the reading takes, are together of bulk at most 1048576: NARROWER than '..Said'. Prove '..Said' where nothing that the law and all that it calls make is longer than what came in: it says more and counts as full. Else prove '..UptoSaid'. A law counts once. -/
mutual
def uptoBulk {H : Type} : DataW H → Nat
  | .lit (.string bytes) => bytes.length + 1
  | .lit _ => 1
  | .nil => 1
  | .ptr d => uptoBulk d + 1
  | .slice elems spare => uptoBulkAll elems + uptoBulkAll spare + 1
  | .agg parts => uptoBulkAll parts + 1
  | .iface _ d => uptoBulk d + 1
  | .map entries => uptoBulkEntries entries + 1
  | .held _ => 1
def uptoBulkAll {H : Type} : List (DataW H) → Nat
  | [] => 0
  | d :: r => uptoBulk d + uptoBulkAll r
def uptoBulkEntries {H : Type} : List (Lit × DataW H) → Nat
  | [] => 0
  | x :: r => uptoBulkEntry x + uptoBulkEntries r
def uptoBulkEntry {H : Type} : Lit × DataW H → Nat
  | (.string bytes, d) => bytes.length + uptoBulk d + 1
  | (_, d) => uptoBulk d + 1
 end
def uptoSmall : (H : Type) → List (DataW H) → Bool := fun _ ds => decide (uptoBulkAll ds ≤ 1048576)
def OpenSpec.upto (s : _root_.Go.ChangeSpec) : _root_.Go.OpenSpec := { _root_.Go.OpenSpec.ofChange s with cond := some uptoSmall }

/-- 'boathouselaw12.Schemas', WHERE WHAT IT READS IS OF BULK AT MOST 1048576: true; the input reads as it did. -/
def schemasUptoRow : OpenClaim := { program := "ytfojdjmeefglcaadoor", sum := "19563e8965309298797c08faf2558d650c1ed87553275f920cf7997949df5110", func := "boathouse/boathouselaw12.Schemas", spec := "schemas", inPlace := ["internal/bytealg.IndexByteString", "internal/bytealg.IndexString"], unfollowed := true, recurses := true, named := ["unicode/utf8.first", "unicode/utf8.acceptRanges", "internal/bytealg.MaxLen"], apart := false, laid := [("unicode/utf8.acceptRanges", laid_unicode_utf8_acceptRanges), ("unicode/utf8.first", laid_unicode_utf8_first)], narrowed := true }
def SchemasUptoSaid : Prop := schemasUptoRow.holds Tryd.pinned (OpenSpec.upto schemasSpec)

/-- 'boathouselaw12.SchemaWalks', WHERE WHAT IT READS IS OF BULK AT MOST 1048576: true; the input reads as it did. -/
def schemaWalksUptoRow : OpenClaim := { program := "ytfojdjmeefglcaadoor", sum := "19563e8965309298797c08faf2558d650c1ed87553275f920cf7997949df5110", func := "boathouse/boathouselaw12.SchemaWalks", spec := "schemaWalks", inPlace := ["internal/bytealg.IndexByteString", "internal/bytealg.IndexString"], unfollowed := true, recurses := true, named := ["unicode/utf8.first", "unicode/utf8.acceptRanges", "internal/bytealg.MaxLen"], apart := false, laid := [("unicode/utf8.acceptRanges", laid_unicode_utf8_acceptRanges), ("unicode/utf8.first", laid_unicode_utf8_first)], narrowed := true }
def SchemaWalksUptoSaid : Prop := schemaWalksUptoRow.holds Tryd.pinned (OpenSpec.upto schemaWalksSpec)

/-- 'boathouselaw12.SchemaNames', WHERE WHAT IT READS IS OF BULK AT MOST 1048576: true; the input reads as it did. -/
def schemaNamesUptoRow : OpenClaim := { program := "ytfojdjmeefglcaadoor", sum := "19563e8965309298797c08faf2558d650c1ed87553275f920cf7997949df5110", func := "boathouse/boathouselaw12.SchemaNames", spec := "schemaNames", inPlace := ["internal/bytealg.IndexByteString", "internal/bytealg.IndexString"], unfollowed := true, recurses := true, named := ["unicode/utf8.first", "unicode/utf8.acceptRanges", "internal/bytealg.MaxLen"], apart := false, laid := [("unicode/utf8.acceptRanges", laid_unicode_utf8_acceptRanges), ("unicode/utf8.first", laid_unicode_utf8_first)], narrowed := true }
def SchemaNamesUptoSaid : Prop := schemaNamesUptoRow.holds Tryd.pinned (OpenSpec.upto schemaNamesSpec)

/-- 'boathouselaw12.SchemaFull', WHERE WHAT IT READS IS OF BULK AT MOST 1048576: true; the input reads as it did. -/
def schemaFullUptoRow : OpenClaim := { program := "ytfojdjmeefglcaadoor", sum := "19563e8965309298797c08faf2558d650c1ed87553275f920cf7997949df5110", func := "boathouse/boathouselaw12.SchemaFull", spec := "schemaFull", inPlace := ["internal/bytealg.IndexByteString", "internal/bytealg.IndexString"], unfollowed := true, recurses := true, named := ["unicode/utf8.first", "unicode/utf8.acceptRanges", "internal/bytealg.MaxLen"], apart := false, laid := [("unicode/utf8.acceptRanges", laid_unicode_utf8_acceptRanges), ("unicode/utf8.first", laid_unicode_utf8_first)], narrowed := true }
def SchemaFullUptoSaid : Prop := schemaFullUptoRow.holds Tryd.pinned (OpenSpec.upto schemaFullSpec)

/-- 'boathouselaw14.Projects', WHERE WHAT IT READS IS OF BULK AT MOST 1048576: true; the input reads as it did. -/
def projectsUptoRow : OpenClaim := { program := "ytfojdjmeefglcaadoor", sum := "19563e8965309298797c08faf2558d650c1ed87553275f920cf7997949df5110", func := "boathouse/boathouselaw14.Projects", spec := "projects", inPlace := ["internal/bytealg.IndexByteString", "internal/bytealg.IndexString"], unfollowed := true, recurses := true, named := ["unicode/utf8.first", "unicode/utf8.acceptRanges", "internal/bytealg.MaxLen"], apart := false, laid := [("unicode/utf8.acceptRanges", laid_unicode_utf8_acceptRanges), ("unicode/utf8.first", laid_unicode_utf8_first)], narrowed := true }
def ProjectsUptoSaid : Prop := projectsUptoRow.holds Tryd.pinned (OpenSpec.upto projectsSpec)

/-- 'boathouselaw14.ProjectNames', WHERE WHAT IT READS IS OF BULK AT MOST 1048576: true; the input reads as it did. -/
def projectNamesUptoRow : OpenClaim := { program := "ytfojdjmeefglcaadoor", sum := "19563e8965309298797c08faf2558d650c1ed87553275f920cf7997949df5110", func := "boathouse/boathouselaw14.ProjectNames", spec := "projectNames", inPlace := ["internal/bytealg.IndexByteString", "internal/bytealg.IndexString"], unfollowed := true, recurses := true, named := ["unicode/utf8.first", "unicode/utf8.acceptRanges", "internal/bytealg.MaxLen"], apart := false, laid := [("unicode/utf8.acceptRanges", laid_unicode_utf8_acceptRanges), ("unicode/utf8.first", laid_unicode_utf8_first)], narrowed := true }
def ProjectNamesUptoSaid : Prop := projectNamesUptoRow.holds Tryd.pinned (OpenSpec.upto projectNamesSpec)

/-- 'boathouselaw14.ProjectPicks', WHERE WHAT IT READS IS OF BULK AT MOST 1048576: true; the input reads as it did. -/
def projectPicksUptoRow : OpenClaim := { program := "ytfojdjmeefglcaadoor", sum := "19563e8965309298797c08faf2558d650c1ed87553275f920cf7997949df5110", func := "boathouse/boathouselaw14.ProjectPicks", spec := "projectPicks", inPlace := ["internal/bytealg.IndexByteString", "internal/bytealg.IndexString"], unfollowed := true, recurses := true, named := ["unicode/utf8.first", "unicode/utf8.acceptRanges", "internal/bytealg.MaxLen"], apart := false, laid := [("unicode/utf8.acceptRanges", laid_unicode_utf8_acceptRanges), ("unicode/utf8.first", laid_unicode_utf8_first)], narrowed := true }
def ProjectPicksUptoSaid : Prop := projectPicksUptoRow.holds Tryd.pinned (OpenSpec.upto projectPicksSpec)

/-- 'boathouselaw13.SpecApplies', WHERE WHAT IT READS IS OF BULK AT MOST 1048576: true; the input reads as it did. -/
def specAppliesUptoRow : OpenClaim := { program := "ytfojdjmeefglcaadoor", sum := "19563e8965309298797c08faf2558d650c1ed87553275f920cf7997949df5110", func := "boathouse/boathouselaw13.SpecApplies", spec := "specApplies", inPlace := ["internal/bytealg.IndexByteString", "internal/bytealg.IndexString"], unfollowed := true, recurses := true, named := ["unicode/utf8.first", "unicode/utf8.acceptRanges", "internal/bytealg.MaxLen"], apart := false, laid := [("unicode/utf8.acceptRanges", laid_unicode_utf8_acceptRanges), ("unicode/utf8.first", laid_unicode_utf8_first)], narrowed := true }
def SpecAppliesUptoSaid : Prop := specAppliesUptoRow.holds Tryd.pinned (OpenSpec.upto specAppliesSpec)

/-- 'boathouselaw13.SpecTwice', WHERE WHAT IT READS IS OF BULK AT MOST 1048576: true; the input reads as it did. -/
def specTwiceUptoRow : OpenClaim := { program := "ytfojdjmeefglcaadoor", sum := "19563e8965309298797c08faf2558d650c1ed87553275f920cf7997949df5110", func := "boathouse/boathouselaw13.SpecTwice", spec := "specTwice", inPlace := ["internal/bytealg.IndexByteString", "internal/bytealg.IndexString"], unfollowed := true, recurses := true, named := ["unicode/utf8.first", "unicode/utf8.acceptRanges", "internal/bytealg.MaxLen"], apart := false, laid := [("unicode/utf8.acceptRanges", laid_unicode_utf8_acceptRanges), ("unicode/utf8.first", laid_unicode_utf8_first)], narrowed := true }
def SpecTwiceUptoSaid : Prop := specTwiceUptoRow.holds Tryd.pinned (OpenSpec.upto specTwiceSpec)

/-- 'boathouselaw13.SpecParts', WHERE WHAT IT READS IS OF BULK AT MOST 1048576: true; the input reads as it did. -/
def specPartsUptoRow : OpenClaim := { program := "ytfojdjmeefglcaadoor", sum := "19563e8965309298797c08faf2558d650c1ed87553275f920cf7997949df5110", func := "boathouse/boathouselaw13.SpecParts", spec := "specParts", inPlace := ["internal/bytealg.IndexByteString", "internal/bytealg.IndexString"], unfollowed := true, recurses := true, named := ["unicode/utf8.first", "unicode/utf8.acceptRanges", "internal/bytealg.MaxLen"], apart := false, laid := [("unicode/utf8.acceptRanges", laid_unicode_utf8_acceptRanges), ("unicode/utf8.first", laid_unicode_utf8_first)], narrowed := true }
def SpecPartsUptoSaid : Prop := specPartsUptoRow.holds Tryd.pinned (OpenSpec.upto specPartsSpec)

/-- 'boathouselaw13.SpecGroups', WHERE WHAT IT READS IS OF BULK AT MOST 1048576: true; the input reads as it did. -/
def specGroupsUptoRow : OpenClaim := { program := "ytfojdjmeefglcaadoor", sum := "19563e8965309298797c08faf2558d650c1ed87553275f920cf7997949df5110", func := "boathouse/boathouselaw13.SpecGroups", spec := "specGroups", inPlace := ["internal/bytealg.IndexByteString", "internal/bytealg.IndexString"], unfollowed := true, recurses := true, named := ["unicode/utf8.first", "unicode/utf8.acceptRanges", "internal/bytealg.MaxLen"], apart := false, laid := [("unicode/utf8.acceptRanges", laid_unicode_utf8_acceptRanges), ("unicode/utf8.first", laid_unicode_utf8_first)], narrowed := true }
def SpecGroupsUptoSaid : Prop := specGroupsUptoRow.holds Tryd.pinned (OpenSpec.upto specGroupsSpec)

end Rows
end Go.Proofs.YtfojdjmeefglcaaDoor
