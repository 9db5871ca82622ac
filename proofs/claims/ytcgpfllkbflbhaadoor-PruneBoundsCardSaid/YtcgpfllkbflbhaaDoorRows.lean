/-
  NARROWER THAN 'FOR EVERY INPUT', by the rows' own cells (each row's printed sentence says how): Preds: laid · PredRules: laid · PredCompares: laid · PredTruths: laid · PruneSound: laid · PruneOne: laid · PruneBounds: laid · PruneTrue: laid · Sels: laid · SelParts: laid · SelBoth: laid.
  DERIVED. THE GIVEN ROWS OF THIS SEAT. 11 by the template 'for every input the law returns true; each argument reads behind the call as it read before'; 0 by the template 'total and deterministic' (their statements: YtcgpfllkbflbhaaDoorTotals.lean).
  GIVEN WITH THE SEED: the statements are not yours to turn. If you find one false, say at which input.
  Laid BY PROGRAM, IN A SANDBOX (cutbox-rows.mjs): the forced cells as the released guide's own fill.sh prints them over the translation c295b0ac17878d0b… (all of the seat's roots in one cut). By AI agents, Wed Nov 11 2026. No macro, syntax, notation, axiom, sorry.
-/
import Derived.Test.YtcgpfllkbflbhaaDoorChecked
import GoSem.PinnedTables
import GoSem.Claim
import GoSem.ClaimJoined
import GoSem.ClaimMapViews
import Derived.JoinedTies
import Derived.KernelRfl
namespace Go.Proofs.YtcgpfllkbflbhaaDoor
/- THE CELL 'sum', in the pinned program and in every row, IS THE sha256 OF THE DUMP (.gsa) THAT YtcgpfllkbflbhaaDoorProg.lean LOADS. Nothing in Lean hashes anything: it is a label: what it is worth is what the hold of that sum in a sandbox is worth. -/
noncomputable def Tryd.pinned : Pinned := { name := "ytcgpfllkbflbhaadoor", sum := "c295b0ac17878d0b7eb912969d6513ed8499b1799c40bbaef3092796b236f666", checked := Tryd.checked }
namespace Rows
def none {H : Type} : Left H := { results := [], args := [] }

/- WHAT THE LISTED PACKAGE-LEVEL VARIABLES READ AS WHEN THE CALL BEGINS. Each datum BY PROGRAM (the guide's laid-datum.mjs) off the statement by which the dump's own 'gosem.cut.vars' lays the variable. In a bare row this is a premise. The card (YtcgpfllkbflbhaaDoorCards.lean) ties it to the program's text. -/
def laid_unicode_utf8_acceptRanges {H : Type} : DataW H := .agg [.agg [.lit (.int .u8 128), .lit (.int .u8 191)], .agg [.lit (.int .u8 160), .lit (.int .u8 191)], .agg [.lit (.int .u8 128), .lit (.int .u8 159)], .agg [.lit (.int .u8 144), .lit (.int .u8 191)], .agg [.lit (.int .u8 128), .lit (.int .u8 143)], .agg [.lit (.int .u8 0), .lit (.int .u8 0)], .agg [.lit (.int .u8 0), .lit (.int .u8 0)], .agg [.lit (.int .u8 0), .lit (.int .u8 0)], .agg [.lit (.int .u8 0), .lit (.int .u8 0)], .agg [.lit (.int .u8 0), .lit (.int .u8 0)], .agg [.lit (.int .u8 0), .lit (.int .u8 0)], .agg [.lit (.int .u8 0), .lit (.int .u8 0)], .agg [.lit (.int .u8 0), .lit (.int .u8 0)], .agg [.lit (.int .u8 0), .lit (.int .u8 0)], .agg [.lit (.int .u8 0), .lit (.int .u8 0)], .agg [.lit (.int .u8 0), .lit (.int .u8 0)]]
/-- One of Go's own tables, pinned by name: the form's constant. -/
def laid_unicode_utf8_first : DataW Unit := Go.Pinned.utf8First

/-- 'boathouselaw15.Preds': WHATEVER THE INPUT: true; the input reads as it did. -/
def predsSpec : ChangeSpec := { name := "preds", fn := fun _ => fun
  | [d1, d2, d3] => { results := [.lit (.bool true)], args := [d1, d2, d3] }
  | _ => none }
def predsRow : OpenClaim := { program := "ytcgpfllkbflbhaadoor", sum := "c295b0ac17878d0b7eb912969d6513ed8499b1799c40bbaef3092796b236f666", func := "boathouse/boathouselaw15.Preds", spec := "preds", inPlace := ["internal/bytealg.IndexByteString", "internal/bytealg.IndexString"], unfollowed := true, recurses := true, named := ["unicode/utf8.first", "unicode/utf8.acceptRanges", "internal/bytealg.MaxLen"], apart := false, laid := [("unicode/utf8.acceptRanges", laid_unicode_utf8_acceptRanges), ("unicode/utf8.first", laid_unicode_utf8_first)] }
def PredsSaid : Prop := predsRow.holds Tryd.pinned (OpenSpec.ofChange predsSpec)

/-- ITS FALSE NEIGHBOUR: 'it returns false'. Refute it at one input. -/
def predsWrong : ChangeSpec := { name := "preds", fn := fun _ => fun
  | [d1, d2, d3] => { results := [.lit (.bool false)], args := [d1, d2, d3] }
  | _ => none }
def PredsWrongFalsely : Prop := predsRow.holds Tryd.pinned (OpenSpec.ofChange predsWrong)

/-- 'boathouselaw15.PredRules': WHATEVER THE INPUT: true; the input reads as it did. -/
def predRulesSpec : ChangeSpec := { name := "predRules", fn := fun _ => fun
  | [d1, d2, d3] => { results := [.lit (.bool true)], args := [d1, d2, d3] }
  | _ => none }
def predRulesRow : OpenClaim := { program := "ytcgpfllkbflbhaadoor", sum := "c295b0ac17878d0b7eb912969d6513ed8499b1799c40bbaef3092796b236f666", func := "boathouse/boathouselaw15.PredRules", spec := "predRules", inPlace := ["internal/bytealg.IndexByteString", "internal/bytealg.IndexString"], unfollowed := true, recurses := true, named := ["unicode/utf8.first", "unicode/utf8.acceptRanges", "internal/bytealg.MaxLen"], apart := false, laid := [("unicode/utf8.acceptRanges", laid_unicode_utf8_acceptRanges), ("unicode/utf8.first", laid_unicode_utf8_first)] }
def PredRulesSaid : Prop := predRulesRow.holds Tryd.pinned (OpenSpec.ofChange predRulesSpec)

/-- ITS FALSE NEIGHBOUR: 'it returns false'. Refute it at one input. -/
def predRulesWrong : ChangeSpec := { name := "predRules", fn := fun _ => fun
  | [d1, d2, d3] => { results := [.lit (.bool false)], args := [d1, d2, d3] }
  | _ => none }
def PredRulesWrongFalsely : Prop := predRulesRow.holds Tryd.pinned (OpenSpec.ofChange predRulesWrong)

/-- 'boathouselaw15.PredCompares': WHATEVER THE INPUT: true; the input reads as it did. -/
def predComparesSpec : ChangeSpec := { name := "predCompares", fn := fun _ => fun
  | [d1, d2] => { results := [.lit (.bool true)], args := [d1, d2] }
  | _ => none }
def predComparesRow : OpenClaim := { program := "ytcgpfllkbflbhaadoor", sum := "c295b0ac17878d0b7eb912969d6513ed8499b1799c40bbaef3092796b236f666", func := "boathouse/boathouselaw15.PredCompares", spec := "predCompares", inPlace := ["internal/bytealg.IndexByteString", "internal/bytealg.IndexString"], unfollowed := true, recurses := true, named := ["unicode/utf8.first", "unicode/utf8.acceptRanges", "internal/bytealg.MaxLen"], apart := false, laid := [("unicode/utf8.acceptRanges", laid_unicode_utf8_acceptRanges), ("unicode/utf8.first", laid_unicode_utf8_first)] }
def PredComparesSaid : Prop := predComparesRow.holds Tryd.pinned (OpenSpec.ofChange predComparesSpec)

/-- ITS FALSE NEIGHBOUR: 'it returns false'. Refute it at one input. -/
def predComparesWrong : ChangeSpec := { name := "predCompares", fn := fun _ => fun
  | [d1, d2] => { results := [.lit (.bool false)], args := [d1, d2] }
  | _ => none }
def PredComparesWrongFalsely : Prop := predComparesRow.holds Tryd.pinned (OpenSpec.ofChange predComparesWrong)

/-- 'boathouselaw15.PredTruths': WHATEVER THE INPUT: true; the input reads as it did. -/
def predTruthsSpec : ChangeSpec := { name := "predTruths", fn := fun _ => fun
  | [d1, d2] => { results := [.lit (.bool true)], args := [d1, d2] }
  | _ => none }
def predTruthsRow : OpenClaim := { program := "ytcgpfllkbflbhaadoor", sum := "c295b0ac17878d0b7eb912969d6513ed8499b1799c40bbaef3092796b236f666", func := "boathouse/boathouselaw15.PredTruths", spec := "predTruths", inPlace := ["internal/bytealg.IndexByteString", "internal/bytealg.IndexString"], unfollowed := true, recurses := true, named := ["unicode/utf8.first", "unicode/utf8.acceptRanges", "internal/bytealg.MaxLen"], apart := false, laid := [("unicode/utf8.acceptRanges", laid_unicode_utf8_acceptRanges), ("unicode/utf8.first", laid_unicode_utf8_first)] }
def PredTruthsSaid : Prop := predTruthsRow.holds Tryd.pinned (OpenSpec.ofChange predTruthsSpec)

/-- ITS FALSE NEIGHBOUR: 'it returns false'. Refute it at one input. -/
def predTruthsWrong : ChangeSpec := { name := "predTruths", fn := fun _ => fun
  | [d1, d2] => { results := [.lit (.bool false)], args := [d1, d2] }
  | _ => none }
def PredTruthsWrongFalsely : Prop := predTruthsRow.holds Tryd.pinned (OpenSpec.ofChange predTruthsWrong)

/-- 'boathouselaw18.PruneSound': WHATEVER THE INPUT: true; the input reads as it did. -/
def pruneSoundSpec : ChangeSpec := { name := "pruneSound", fn := fun _ => fun
  | [d1, d2, d3, d4] => { results := [.lit (.bool true)], args := [d1, d2, d3, d4] }
  | _ => none }
def pruneSoundRow : OpenClaim := { program := "ytcgpfllkbflbhaadoor", sum := "c295b0ac17878d0b7eb912969d6513ed8499b1799c40bbaef3092796b236f666", func := "boathouse/boathouselaw18.PruneSound", spec := "pruneSound", inPlace := ["internal/bytealg.IndexByteString", "internal/bytealg.IndexString"], unfollowed := true, recurses := true, named := ["unicode/utf8.first", "unicode/utf8.acceptRanges", "internal/bytealg.MaxLen"], apart := false, laid := [("unicode/utf8.acceptRanges", laid_unicode_utf8_acceptRanges), ("unicode/utf8.first", laid_unicode_utf8_first)] }
def PruneSoundSaid : Prop := pruneSoundRow.holds Tryd.pinned (OpenSpec.ofChange pruneSoundSpec)

/-- ITS FALSE NEIGHBOUR: 'it returns false'. Refute it at one input. -/
def pruneSoundWrong : ChangeSpec := { name := "pruneSound", fn := fun _ => fun
  | [d1, d2, d3, d4] => { results := [.lit (.bool false)], args := [d1, d2, d3, d4] }
  | _ => none }
def PruneSoundWrongFalsely : Prop := pruneSoundRow.holds Tryd.pinned (OpenSpec.ofChange pruneSoundWrong)

/-- 'boathouselaw18.PruneOne': WHATEVER THE INPUT: true; the input reads as it did. -/
def pruneOneSpec : ChangeSpec := { name := "pruneOne", fn := fun _ => fun
  | [d1, d2, d3] => { results := [.lit (.bool true)], args := [d1, d2, d3] }
  | _ => none }
def pruneOneRow : OpenClaim := { program := "ytcgpfllkbflbhaadoor", sum := "c295b0ac17878d0b7eb912969d6513ed8499b1799c40bbaef3092796b236f666", func := "boathouse/boathouselaw18.PruneOne", spec := "pruneOne", inPlace := ["internal/bytealg.IndexByteString", "internal/bytealg.IndexString"], unfollowed := true, recurses := true, named := ["unicode/utf8.first", "unicode/utf8.acceptRanges", "internal/bytealg.MaxLen"], apart := false, laid := [("unicode/utf8.acceptRanges", laid_unicode_utf8_acceptRanges), ("unicode/utf8.first", laid_unicode_utf8_first)] }
def PruneOneSaid : Prop := pruneOneRow.holds Tryd.pinned (OpenSpec.ofChange pruneOneSpec)

/-- ITS FALSE NEIGHBOUR: 'it returns false'. Refute it at one input. -/
def pruneOneWrong : ChangeSpec := { name := "pruneOne", fn := fun _ => fun
  | [d1, d2, d3] => { results := [.lit (.bool false)], args := [d1, d2, d3] }
  | _ => none }
def PruneOneWrongFalsely : Prop := pruneOneRow.holds Tryd.pinned (OpenSpec.ofChange pruneOneWrong)

/-- 'boathouselaw18.PruneBounds': WHATEVER THE INPUT: true; the input reads as it did. -/
def pruneBoundsSpec : ChangeSpec := { name := "pruneBounds", fn := fun _ => fun
  | [d1, d2, d3, d4] => { results := [.lit (.bool true)], args := [d1, d2, d3, d4] }
  | _ => none }
def pruneBoundsRow : OpenClaim := { program := "ytcgpfllkbflbhaadoor", sum := "c295b0ac17878d0b7eb912969d6513ed8499b1799c40bbaef3092796b236f666", func := "boathouse/boathouselaw18.PruneBounds", spec := "pruneBounds", inPlace := ["internal/bytealg.IndexByteString", "internal/bytealg.IndexString"], unfollowed := true, recurses := true, named := ["unicode/utf8.first", "unicode/utf8.acceptRanges", "internal/bytealg.MaxLen"], apart := false, laid := [("unicode/utf8.acceptRanges", laid_unicode_utf8_acceptRanges), ("unicode/utf8.first", laid_unicode_utf8_first)] }
def PruneBoundsSaid : Prop := pruneBoundsRow.holds Tryd.pinned (OpenSpec.ofChange pruneBoundsSpec)

/-- ITS FALSE NEIGHBOUR: 'it returns false'. Refute it at one input. -/
def pruneBoundsWrong : ChangeSpec := { name := "pruneBounds", fn := fun _ => fun
  | [d1, d2, d3, d4] => { results := [.lit (.bool false)], args := [d1, d2, d3, d4] }
  | _ => none }
def PruneBoundsWrongFalsely : Prop := pruneBoundsRow.holds Tryd.pinned (OpenSpec.ofChange pruneBoundsWrong)

/-- 'boathouselaw18.PruneTrue': WHATEVER THE INPUT: true; the input reads as it did. -/
def pruneTrueSpec : ChangeSpec := { name := "pruneTrue", fn := fun _ => fun
  | [d1, d2, d3, d4, d5] => { results := [.lit (.bool true)], args := [d1, d2, d3, d4, d5] }
  | _ => none }
def pruneTrueRow : OpenClaim := { program := "ytcgpfllkbflbhaadoor", sum := "c295b0ac17878d0b7eb912969d6513ed8499b1799c40bbaef3092796b236f666", func := "boathouse/boathouselaw18.PruneTrue", spec := "pruneTrue", inPlace := ["internal/bytealg.IndexByteString", "internal/bytealg.IndexString"], unfollowed := true, recurses := true, named := ["unicode/utf8.first", "unicode/utf8.acceptRanges", "internal/bytealg.MaxLen"], apart := false, laid := [("unicode/utf8.acceptRanges", laid_unicode_utf8_acceptRanges), ("unicode/utf8.first", laid_unicode_utf8_first)] }
def PruneTrueSaid : Prop := pruneTrueRow.holds Tryd.pinned (OpenSpec.ofChange pruneTrueSpec)

/-- ITS FALSE NEIGHBOUR: 'it returns false'. Refute it at one input. -/
def pruneTrueWrong : ChangeSpec := { name := "pruneTrue", fn := fun _ => fun
  | [d1, d2, d3, d4, d5] => { results := [.lit (.bool false)], args := [d1, d2, d3, d4, d5] }
  | _ => none }
def PruneTrueWrongFalsely : Prop := pruneTrueRow.holds Tryd.pinned (OpenSpec.ofChange pruneTrueWrong)

/-- 'boathouselaw16.Sels': WHATEVER THE INPUT: true; the input reads as it did. -/
def selsSpec : ChangeSpec := { name := "sels", fn := fun _ => fun
  | [d1, d2, d3, d4, d5] => { results := [.lit (.bool true)], args := [d1, d2, d3, d4, d5] }
  | _ => none }
def selsRow : OpenClaim := { program := "ytcgpfllkbflbhaadoor", sum := "c295b0ac17878d0b7eb912969d6513ed8499b1799c40bbaef3092796b236f666", func := "boathouse/boathouselaw16.Sels", spec := "sels", inPlace := ["internal/bytealg.IndexByteString", "internal/bytealg.IndexString"], unfollowed := true, recurses := true, named := ["unicode/utf8.first", "unicode/utf8.acceptRanges", "internal/bytealg.MaxLen"], apart := false, laid := [("unicode/utf8.acceptRanges", laid_unicode_utf8_acceptRanges), ("unicode/utf8.first", laid_unicode_utf8_first)] }
def SelsSaid : Prop := selsRow.holds Tryd.pinned (OpenSpec.ofChange selsSpec)

/-- ITS FALSE NEIGHBOUR: 'it returns false'. Refute it at one input. -/
def selsWrong : ChangeSpec := { name := "sels", fn := fun _ => fun
  | [d1, d2, d3, d4, d5] => { results := [.lit (.bool false)], args := [d1, d2, d3, d4, d5] }
  | _ => none }
def SelsWrongFalsely : Prop := selsRow.holds Tryd.pinned (OpenSpec.ofChange selsWrong)

/-- 'boathouselaw16.SelParts': WHATEVER THE INPUT: true; the input reads as it did. -/
def selPartsSpec : ChangeSpec := { name := "selParts", fn := fun _ => fun
  | [d1, d2, d3] => { results := [.lit (.bool true)], args := [d1, d2, d3] }
  | _ => none }
def selPartsRow : OpenClaim := { program := "ytcgpfllkbflbhaadoor", sum := "c295b0ac17878d0b7eb912969d6513ed8499b1799c40bbaef3092796b236f666", func := "boathouse/boathouselaw16.SelParts", spec := "selParts", inPlace := ["internal/bytealg.IndexByteString", "internal/bytealg.IndexString"], unfollowed := true, recurses := true, named := ["unicode/utf8.first", "unicode/utf8.acceptRanges", "internal/bytealg.MaxLen"], apart := false, laid := [("unicode/utf8.acceptRanges", laid_unicode_utf8_acceptRanges), ("unicode/utf8.first", laid_unicode_utf8_first)] }
def SelPartsSaid : Prop := selPartsRow.holds Tryd.pinned (OpenSpec.ofChange selPartsSpec)

/-- ITS FALSE NEIGHBOUR: 'it returns false'. Refute it at one input. -/
def selPartsWrong : ChangeSpec := { name := "selParts", fn := fun _ => fun
  | [d1, d2, d3] => { results := [.lit (.bool false)], args := [d1, d2, d3] }
  | _ => none }
def SelPartsWrongFalsely : Prop := selPartsRow.holds Tryd.pinned (OpenSpec.ofChange selPartsWrong)

/-- 'boathouselaw16.SelBoth': WHATEVER THE INPUT: true; the input reads as it did. -/
def selBothSpec : ChangeSpec := { name := "selBoth", fn := fun _ => fun
  | [d1, d2, d3, d4] => { results := [.lit (.bool true)], args := [d1, d2, d3, d4] }
  | _ => none }
def selBothRow : OpenClaim := { program := "ytcgpfllkbflbhaadoor", sum := "c295b0ac17878d0b7eb912969d6513ed8499b1799c40bbaef3092796b236f666", func := "boathouse/boathouselaw16.SelBoth", spec := "selBoth", inPlace := ["internal/bytealg.IndexByteString", "internal/bytealg.IndexString"], unfollowed := true, recurses := true, named := ["unicode/utf8.first", "unicode/utf8.acceptRanges", "internal/bytealg.MaxLen"], apart := false, laid := [("unicode/utf8.acceptRanges", laid_unicode_utf8_acceptRanges), ("unicode/utf8.first", laid_unicode_utf8_first)] }
def SelBothSaid : Prop := selBothRow.holds Tryd.pinned (OpenSpec.ofChange selBothSpec)

/-- ITS FALSE NEIGHBOUR: 'it returns false'. Refute it at one input. -/
def selBothWrong : ChangeSpec := { name := "selBoth", fn := fun _ => fun
  | [d1, d2, d3, d4] => { results := [.lit (.bool false)], args := [d1, d2, d3, d4] }
  | _ => none }
def SelBothWrongFalsely : Prop := selBothRow.holds Tryd.pinned (OpenSpec.ofChange selBothWrong)

/- THE SECOND FORM. 'bulk': how many values and letters a reading holds, each counted each time it is reached (what is shared counts as often as it is met; a slice's spare places count too). A statement '..UptoSaid' is the law's where the arguments, and the package variables that the reading takes, are together of bulk at most 1048576: NARROWER than '..Said'. Prove '..Said' where nothing that the law and all that it calls make is longer than what came in: it says more and counts as full. Else prove '..UptoSaid'. A law counts once. -/
mutual
def uptoBulk {H : Type} : DataW H → Nat
  | .lit (.string bytes) => bytes.length + 1
  | .lit _ => 1
  | .nil => 1
  | .ptr d => uptoBulk d + 1
  | .slice elems spare => uptoBulkAll elems + uptoBulkAll spare + 1
  | .agg parts => uptoBulkAll parts + 1
  | .iface _ d => uptoBulk d + 1
  | .map entries => uptoBulkEntries entries + 1
  | .held _ => 1
def uptoBulkAll {H : Type} : List (DataW H) → Nat
  | [] => 0
  | d :: r => uptoBulk d + uptoBulkAll r
def uptoBulkEntries {H : Type} : List (Lit × DataW H) → Nat
  | [] => 0
  | x :: r => uptoBulkEntry x + uptoBulkEntries r
def uptoBulkEntry {H : Type} : Lit × DataW H → Nat
  | (.string bytes, d) => bytes.length + uptoBulk d + 1
  | (_, d) => uptoBulk d + 1
 end
def uptoSmall : (H : Type) → List (DataW H) → Bool := fun _ ds => decide (uptoBulkAll ds ≤ 1048576)
def OpenSpec.upto (s : _root_.Go.ChangeSpec) : _root_.Go.OpenSpec := { _root_.Go.OpenSpec.ofChange s with cond := some uptoSmall }

/-- 'boathouselaw15.Preds', WHERE WHAT IT READS IS OF BULK AT MOST 1048576: true; the input reads as it did. -/
def predsUptoRow : OpenClaim := { program := "ytcgpfllkbflbhaadoor", sum := "c295b0ac17878d0b7eb912969d6513ed8499b1799c40bbaef3092796b236f666", func := "boathouse/boathouselaw15.Preds", spec := "preds", inPlace := ["internal/bytealg.IndexByteString", "internal/bytealg.IndexString"], unfollowed := true, recurses := true, named := ["unicode/utf8.first", "unicode/utf8.acceptRanges", "internal/bytealg.MaxLen"], apart := false, laid := [("unicode/utf8.acceptRanges", laid_unicode_utf8_acceptRanges), ("unicode/utf8.first", laid_unicode_utf8_first)], narrowed := true }
def PredsUptoSaid : Prop := predsUptoRow.holds Tryd.pinned (OpenSpec.upto predsSpec)

/-- 'boathouselaw15.PredRules', WHERE WHAT IT READS IS OF BULK AT MOST 1048576: true; the input reads as it did. -/
def predRulesUptoRow : OpenClaim := { program := "ytcgpfllkbflbhaadoor", sum := "c295b0ac17878d0b7eb912969d6513ed8499b1799c40bbaef3092796b236f666", func := "boathouse/boathouselaw15.PredRules", spec := "predRules", inPlace := ["internal/bytealg.IndexByteString", "internal/bytealg.IndexString"], unfollowed := true, recurses := true, named := ["unicode/utf8.first", "unicode/utf8.acceptRanges", "internal/bytealg.MaxLen"], apart := false, laid := [("unicode/utf8.acceptRanges", laid_unicode_utf8_acceptRanges), ("unicode/utf8.first", laid_unicode_utf8_first)], narrowed := true }
def PredRulesUptoSaid : Prop := predRulesUptoRow.holds Tryd.pinned (OpenSpec.upto predRulesSpec)

/-- 'boathouselaw15.PredCompares', WHERE WHAT IT READS IS OF BULK AT MOST 1048576: true; the input reads as it did. -/
def predComparesUptoRow : OpenClaim := { program := "ytcgpfllkbflbhaadoor", sum := "c295b0ac17878d0b7eb912969d6513ed8499b1799c40bbaef3092796b236f666", func := "boathouse/boathouselaw15.PredCompares", spec := "predCompares", inPlace := ["internal/bytealg.IndexByteString", "internal/bytealg.IndexString"], unfollowed := true, recurses := true, named := ["unicode/utf8.first", "unicode/utf8.acceptRanges", "internal/bytealg.MaxLen"], apart := false, laid := [("unicode/utf8.acceptRanges", laid_unicode_utf8_acceptRanges), ("unicode/utf8.first", laid_unicode_utf8_first)], narrowed := true }
def PredComparesUptoSaid : Prop := predComparesUptoRow.holds Tryd.pinned (OpenSpec.upto predComparesSpec)

/-- 'boathouselaw15.PredTruths', WHERE WHAT IT READS IS OF BULK AT MOST 1048576: true; the input reads as it did. -/
def predTruthsUptoRow : OpenClaim := { program := "ytcgpfllkbflbhaadoor", sum := "c295b0ac17878d0b7eb912969d6513ed8499b1799c40bbaef3092796b236f666", func := "boathouse/boathouselaw15.PredTruths", spec := "predTruths", inPlace := ["internal/bytealg.IndexByteString", "internal/bytealg.IndexString"], unfollowed := true, recurses := true, named := ["unicode/utf8.first", "unicode/utf8.acceptRanges", "internal/bytealg.MaxLen"], apart := false, laid := [("unicode/utf8.acceptRanges", laid_unicode_utf8_acceptRanges), ("unicode/utf8.first", laid_unicode_utf8_first)], narrowed := true }
def PredTruthsUptoSaid : Prop := predTruthsUptoRow.holds Tryd.pinned (OpenSpec.upto predTruthsSpec)

/-- 'boathouselaw18.PruneSound', WHERE WHAT IT READS IS OF BULK AT MOST 1048576: true; the input reads as it did. -/
def pruneSoundUptoRow : OpenClaim := { program := "ytcgpfllkbflbhaadoor", sum := "c295b0ac17878d0b7eb912969d6513ed8499b1799c40bbaef3092796b236f666", func := "boathouse/boathouselaw18.PruneSound", spec := "pruneSound", inPlace := ["internal/bytealg.IndexByteString", "internal/bytealg.IndexString"], unfollowed := true, recurses := true, named := ["unicode/utf8.first", "unicode/utf8.acceptRanges", "internal/bytealg.MaxLen"], apart := false, laid := [("unicode/utf8.acceptRanges", laid_unicode_utf8_acceptRanges), ("unicode/utf8.first", laid_unicode_utf8_first)], narrowed := true }
def PruneSoundUptoSaid : Prop := pruneSoundUptoRow.holds Tryd.pinned (OpenSpec.upto pruneSoundSpec)

/-- 'boathouselaw18.PruneOne', WHERE WHAT IT READS IS OF BULK AT MOST 1048576: true; the input reads as it did. -/
def pruneOneUptoRow : OpenClaim := { program := "ytcgpfllkbflbhaadoor", sum := "c295b0ac17878d0b7eb912969d6513ed8499b1799c40bbaef3092796b236f666", func := "boathouse/boathouselaw18.PruneOne", spec := "pruneOne", inPlace := ["internal/bytealg.IndexByteString", "internal/bytealg.IndexString"], unfollowed := true, recurses := true, named := ["unicode/utf8.first", "unicode/utf8.acceptRanges", "internal/bytealg.MaxLen"], apart := false, laid := [("unicode/utf8.acceptRanges", laid_unicode_utf8_acceptRanges), ("unicode/utf8.first", laid_unicode_utf8_first)], narrowed := true }
def PruneOneUptoSaid : Prop := pruneOneUptoRow.holds Tryd.pinned (OpenSpec.upto pruneOneSpec)

/-- 'boathouselaw18.PruneBounds', WHERE WHAT IT READS IS OF BULK AT MOST 1048576: true; the input reads as it did. -/
def pruneBoundsUptoRow : OpenClaim := { program := "ytcgpfllkbflbhaadoor", sum := "c295b0ac17878d0b7eb912969d6513ed8499b1799c40bbaef3092796b236f666", func := "boathouse/boathouselaw18.PruneBounds", spec := "pruneBounds", inPlace := ["internal/bytealg.IndexByteString", "internal/bytealg.IndexString"], unfollowed := true, recurses := true, named := ["unicode/utf8.first", "unicode/utf8.acceptRanges", "internal/bytealg.MaxLen"], apart := false, laid := [("unicode/utf8.acceptRanges", laid_unicode_utf8_acceptRanges), ("unicode/utf8.first", laid_unicode_utf8_first)], narrowed := true }
def PruneBoundsUptoSaid : Prop := pruneBoundsUptoRow.holds Tryd.pinned (OpenSpec.upto pruneBoundsSpec)

/-- 'boathouselaw18.PruneTrue', WHERE WHAT IT READS IS OF BULK AT MOST 1048576: true; the input reads as it did. -/
def pruneTrueUptoRow : OpenClaim := { program := "ytcgpfllkbflbhaadoor", sum := "c295b0ac17878d0b7eb912969d6513ed8499b1799c40bbaef3092796b236f666", func := "boathouse/boathouselaw18.PruneTrue", spec := "pruneTrue", inPlace := ["internal/bytealg.IndexByteString", "internal/bytealg.IndexString"], unfollowed := true, recurses := true, named := ["unicode/utf8.first", "unicode/utf8.acceptRanges", "internal/bytealg.MaxLen"], apart := false, laid := [("unicode/utf8.acceptRanges", laid_unicode_utf8_acceptRanges), ("unicode/utf8.first", laid_unicode_utf8_first)], narrowed := true }
def PruneTrueUptoSaid : Prop := pruneTrueUptoRow.holds Tryd.pinned (OpenSpec.upto pruneTrueSpec)

/-- 'boathouselaw16.Sels', WHERE WHAT IT READS IS OF BULK AT MOST 1048576: true; the input reads as it did. -/
def selsUptoRow : OpenClaim := { program := "ytcgpfllkbflbhaadoor", sum := "c295b0ac17878d0b7eb912969d6513ed8499b1799c40bbaef3092796b236f666", func := "boathouse/boathouselaw16.Sels", spec := "sels", inPlace := ["internal/bytealg.IndexByteString", "internal/bytealg.IndexString"], unfollowed := true, recurses := true, named := ["unicode/utf8.first", "unicode/utf8.acceptRanges", "internal/bytealg.MaxLen"], apart := false, laid := [("unicode/utf8.acceptRanges", laid_unicode_utf8_acceptRanges), ("unicode/utf8.first", laid_unicode_utf8_first)], narrowed := true }
def SelsUptoSaid : Prop := selsUptoRow.holds Tryd.pinned (OpenSpec.upto selsSpec)

/-- 'boathouselaw16.SelParts', WHERE WHAT IT READS IS OF BULK AT MOST 1048576: true; the input reads as it did. -/
def selPartsUptoRow : OpenClaim := { program := "ytcgpfllkbflbhaadoor", sum := "c295b0ac17878d0b7eb912969d6513ed8499b1799c40bbaef3092796b236f666", func := "boathouse/boathouselaw16.SelParts", spec := "selParts", inPlace := ["internal/bytealg.IndexByteString", "internal/bytealg.IndexString"], unfollowed := true, recurses := true, named := ["unicode/utf8.first", "unicode/utf8.acceptRanges", "internal/bytealg.MaxLen"], apart := false, laid := [("unicode/utf8.acceptRanges", laid_unicode_utf8_acceptRanges), ("unicode/utf8.first", laid_unicode_utf8_first)], narrowed := true }
def SelPartsUptoSaid : Prop := selPartsUptoRow.holds Tryd.pinned (OpenSpec.upto selPartsSpec)

/-- 'boathouselaw16.SelBoth', WHERE WHAT IT READS IS OF BULK AT MOST 1048576: true; the input reads as it did. -/
def selBothUptoRow : OpenClaim := { program := "ytcgpfllkbflbhaadoor", sum := "c295b0ac17878d0b7eb912969d6513ed8499b1799c40bbaef3092796b236f666", func := "boathouse/boathouselaw16.SelBoth", spec := "selBoth", inPlace := ["internal/bytealg.IndexByteString", "internal/bytealg.IndexString"], unfollowed := true, recurses := true, named := ["unicode/utf8.first", "unicode/utf8.acceptRanges", "internal/bytealg.MaxLen"], apart := false, laid := [("unicode/utf8.acceptRanges", laid_unicode_utf8_acceptRanges), ("unicode/utf8.first", laid_unicode_utf8_first)], narrowed := true }
def SelBothUptoSaid : Prop := selBothUptoRow.holds Tryd.pinned (OpenSpec.upto selBothSpec)

end Rows
end Go.Proofs.YtcgpfllkbflbhaaDoor
