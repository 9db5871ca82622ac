/-
  NARROWER THAN 'FOR EVERY INPUT', by the rows' own cells (each row's printed sentence says how): Sels: laid · SelSorts: laid · SelParts: laid · SelBoth: laid · SelOne: laid · PruneSound: laid.
  DERIVED. THE GIVEN ROWS OF THIS SEAT. 6 by the template 'for every input the law returns true; each argument reads behind the call as it read before'; 0 by the template 'total and deterministic' (their statements: YtafgfehjdbomfaaDoorTotals.lean).
  GIVEN WITH THE SEED: the statements are not yours to turn. If you find one false, say at which input.
  Laid BY PROGRAM, IN A SANDBOX (cutbox-rows.mjs): the forced cells as the released guide's own fill.sh prints them over the translation def6f52cb132517d… (all of the seat's roots in one cut). By AI agents, Wed Nov 11 2026. No macro, syntax, notation, axiom, sorry.
-/
import Derived.Test.YtafgfehjdbomfaaDoorChecked
import GoSem.PinnedTables
import GoSem.Claim
import GoSem.ClaimJoined
import GoSem.ClaimMapViews
import Derived.JoinedTies
import Derived.KernelRfl
namespace Go.Proofs.YtafgfehjdbomfaaDoor
/- THE CELL 'sum', in the pinned program and in every row, IS THE sha256 OF THE DUMP (.gsa) THAT YtafgfehjdbomfaaDoorProg.lean LOADS. Nothing in Lean hashes anything: it is a label: what it is worth is what the hold of that sum in a sandbox is worth. -/
noncomputable def Tryd.pinned : Pinned := { name := "ytafgfehjdbomfaadoor", sum := "def6f52cb132517dc5c71a2ec3e74e4e63230b141ba9ddf7487a88fffac6ab10", checked := Tryd.checked }
namespace Rows
def none {H : Type} : Left H := { results := [], args := [] }

/- WHAT THE LISTED PACKAGE-LEVEL VARIABLES READ AS WHEN THE CALL BEGINS. Each datum BY PROGRAM (the guide's laid-datum.mjs) off the statement by which the dump's own 'gosem.cut.vars' lays the variable. In a bare row this is a premise. The card (YtafgfehjdbomfaaDoorCards.lean) ties it to the program's text. -/
def laid_unicode_utf8_acceptRanges {H : Type} : DataW H := .agg [.agg [.lit (.int .u8 128), .lit (.int .u8 191)], .agg [.lit (.int .u8 160), .lit (.int .u8 191)], .agg [.lit (.int .u8 128), .lit (.int .u8 159)], .agg [.lit (.int .u8 144), .lit (.int .u8 191)], .agg [.lit (.int .u8 128), .lit (.int .u8 143)], .agg [.lit (.int .u8 0), .lit (.int .u8 0)], .agg [.lit (.int .u8 0), .lit (.int .u8 0)], .agg [.lit (.int .u8 0), .lit (.int .u8 0)], .agg [.lit (.int .u8 0), .lit (.int .u8 0)], .agg [.lit (.int .u8 0), .lit (.int .u8 0)], .agg [.lit (.int .u8 0), .lit (.int .u8 0)], .agg [.lit (.int .u8 0), .lit (.int .u8 0)], .agg [.lit (.int .u8 0), .lit (.int .u8 0)], .agg [.lit (.int .u8 0), .lit (.int .u8 0)], .agg [.lit (.int .u8 0), .lit (.int .u8 0)], .agg [.lit (.int .u8 0), .lit (.int .u8 0)]]
/-- One of Go's own tables, pinned by name: the form's constant. -/
def laid_unicode_utf8_first : DataW Unit := Go.Pinned.utf8First

/-- 'boathouselaw16.Sels': WHATEVER THE INPUT: true; the input reads as it did. -/
def selsSpec : ChangeSpec := { name := "sels", fn := fun _ => fun
  | [d1, d2, d3, d4, d5] => { results := [.lit (.bool true)], args := [d1, d2, d3, d4, d5] }
  | _ => none }
def selsRow : OpenClaim := { program := "ytafgfehjdbomfaadoor", sum := "def6f52cb132517dc5c71a2ec3e74e4e63230b141ba9ddf7487a88fffac6ab10", func := "boathouse/boathouselaw16.Sels", spec := "sels", inPlace := ["internal/bytealg.IndexByteString", "internal/bytealg.IndexString"], unfollowed := true, recurses := true, named := ["unicode/utf8.first", "unicode/utf8.acceptRanges", "internal/bytealg.MaxLen"], apart := false, laid := [("unicode/utf8.acceptRanges", laid_unicode_utf8_acceptRanges), ("unicode/utf8.first", laid_unicode_utf8_first)] }
def SelsSaid : Prop := selsRow.holds Tryd.pinned (OpenSpec.ofChange selsSpec)

/-- ITS FALSE NEIGHBOUR: 'it returns false'. Refute it at one input. -/
def selsWrong : ChangeSpec := { name := "sels", fn := fun _ => fun
  | [d1, d2, d3, d4, d5] => { results := [.lit (.bool false)], args := [d1, d2, d3, d4, d5] }
  | _ => none }
def SelsWrongFalsely : Prop := selsRow.holds Tryd.pinned (OpenSpec.ofChange selsWrong)

/-- 'boathouselaw16.SelSorts': WHATEVER THE INPUT: true; the input reads as it did. -/
def selSortsSpec : ChangeSpec := { name := "selSorts", fn := fun _ => fun
  | [d] => { results := [.lit (.bool true)], args := [d] }
  | _ => none }
def selSortsRow : OpenClaim := { program := "ytafgfehjdbomfaadoor", sum := "def6f52cb132517dc5c71a2ec3e74e4e63230b141ba9ddf7487a88fffac6ab10", func := "boathouse/boathouselaw16.SelSorts", spec := "selSorts", inPlace := ["internal/bytealg.IndexByteString", "internal/bytealg.IndexString"], unfollowed := true, recurses := true, named := ["unicode/utf8.first", "unicode/utf8.acceptRanges", "internal/bytealg.MaxLen"], apart := false, laid := [("unicode/utf8.acceptRanges", laid_unicode_utf8_acceptRanges), ("unicode/utf8.first", laid_unicode_utf8_first)] }
def SelSortsSaid : Prop := selSortsRow.holds Tryd.pinned (OpenSpec.ofChange selSortsSpec)

/-- ITS FALSE NEIGHBOUR: 'it returns false'. Refute it at one input. -/
def selSortsWrong : ChangeSpec := { name := "selSorts", fn := fun _ => fun
  | [d] => { results := [.lit (.bool false)], args := [d] }
  | _ => none }
def SelSortsWrongFalsely : Prop := selSortsRow.holds Tryd.pinned (OpenSpec.ofChange selSortsWrong)

/-- 'boathouselaw16.SelParts': WHATEVER THE INPUT: true; the input reads as it did. -/
def selPartsSpec : ChangeSpec := { name := "selParts", fn := fun _ => fun
  | [d1, d2, d3] => { results := [.lit (.bool true)], args := [d1, d2, d3] }
  | _ => none }
def selPartsRow : OpenClaim := { program := "ytafgfehjdbomfaadoor", sum := "def6f52cb132517dc5c71a2ec3e74e4e63230b141ba9ddf7487a88fffac6ab10", func := "boathouse/boathouselaw16.SelParts", spec := "selParts", inPlace := ["internal/bytealg.IndexByteString", "internal/bytealg.IndexString"], unfollowed := true, recurses := true, named := ["unicode/utf8.first", "unicode/utf8.acceptRanges", "internal/bytealg.MaxLen"], apart := false, laid := [("unicode/utf8.acceptRanges", laid_unicode_utf8_acceptRanges), ("unicode/utf8.first", laid_unicode_utf8_first)] }
def SelPartsSaid : Prop := selPartsRow.holds Tryd.pinned (OpenSpec.ofChange selPartsSpec)

/-- ITS FALSE NEIGHBOUR: 'it returns false'. Refute it at one input. -/
def selPartsWrong : ChangeSpec := { name := "selParts", fn := fun _ => fun
  | [d1, d2, d3] => { results := [.lit (.bool false)], args := [d1, d2, d3] }
  | _ => none }
def SelPartsWrongFalsely : Prop := selPartsRow.holds Tryd.pinned (OpenSpec.ofChange selPartsWrong)

/-- 'boathouselaw16.SelBoth': WHATEVER THE INPUT: true; the input reads as it did. -/
def selBothSpec : ChangeSpec := { name := "selBoth", fn := fun _ => fun
  | [d1, d2, d3, d4] => { results := [.lit (.bool true)], args := [d1, d2, d3, d4] }
  | _ => none }
def selBothRow : OpenClaim := { program := "ytafgfehjdbomfaadoor", sum := "def6f52cb132517dc5c71a2ec3e74e4e63230b141ba9ddf7487a88fffac6ab10", func := "boathouse/boathouselaw16.SelBoth", spec := "selBoth", inPlace := ["internal/bytealg.IndexByteString", "internal/bytealg.IndexString"], unfollowed := true, recurses := true, named := ["unicode/utf8.first", "unicode/utf8.acceptRanges", "internal/bytealg.MaxLen"], apart := false, laid := [("unicode/utf8.acceptRanges", laid_unicode_utf8_acceptRanges), ("unicode/utf8.first", laid_unicode_utf8_first)] }
def SelBothSaid : Prop := selBothRow.holds Tryd.pinned (OpenSpec.ofChange selBothSpec)

/-- ITS FALSE NEIGHBOUR: 'it returns false'. Refute it at one input. -/
def selBothWrong : ChangeSpec := { name := "selBoth", fn := fun _ => fun
  | [d1, d2, d3, d4] => { results := [.lit (.bool false)], args := [d1, d2, d3, d4] }
  | _ => none }
def SelBothWrongFalsely : Prop := selBothRow.holds Tryd.pinned (OpenSpec.ofChange selBothWrong)

/-- 'boathouselaw16.SelOne': WHATEVER THE INPUT: true; the input reads as it did. -/
def selOneSpec : ChangeSpec := { name := "selOne", fn := fun _ => fun
  | [d1, d2] => { results := [.lit (.bool true)], args := [d1, d2] }
  | _ => none }
def selOneRow : OpenClaim := { program := "ytafgfehjdbomfaadoor", sum := "def6f52cb132517dc5c71a2ec3e74e4e63230b141ba9ddf7487a88fffac6ab10", func := "boathouse/boathouselaw16.SelOne", spec := "selOne", inPlace := ["internal/bytealg.IndexByteString", "internal/bytealg.IndexString"], unfollowed := true, recurses := true, named := ["unicode/utf8.first", "unicode/utf8.acceptRanges", "internal/bytealg.MaxLen"], apart := false, laid := [("unicode/utf8.acceptRanges", laid_unicode_utf8_acceptRanges), ("unicode/utf8.first", laid_unicode_utf8_first)] }
def SelOneSaid : Prop := selOneRow.holds Tryd.pinned (OpenSpec.ofChange selOneSpec)

/-- ITS FALSE NEIGHBOUR: 'it returns false'. Refute it at one input. -/
def selOneWrong : ChangeSpec := { name := "selOne", fn := fun _ => fun
  | [d1, d2] => { results := [.lit (.bool false)], args := [d1, d2] }
  | _ => none }
def SelOneWrongFalsely : Prop := selOneRow.holds Tryd.pinned (OpenSpec.ofChange selOneWrong)

/-- 'boathouselaw18.PruneSound': WHATEVER THE INPUT: true; the input reads as it did. -/
def pruneSoundSpec : ChangeSpec := { name := "pruneSound", fn := fun _ => fun
  | [d1, d2, d3, d4] => { results := [.lit (.bool true)], args := [d1, d2, d3, d4] }
  | _ => none }
def pruneSoundRow : OpenClaim := { program := "ytafgfehjdbomfaadoor", sum := "def6f52cb132517dc5c71a2ec3e74e4e63230b141ba9ddf7487a88fffac6ab10", func := "boathouse/boathouselaw18.PruneSound", spec := "pruneSound", inPlace := ["internal/bytealg.IndexByteString", "internal/bytealg.IndexString"], unfollowed := true, recurses := true, named := ["unicode/utf8.first", "unicode/utf8.acceptRanges", "internal/bytealg.MaxLen"], apart := false, laid := [("unicode/utf8.acceptRanges", laid_unicode_utf8_acceptRanges), ("unicode/utf8.first", laid_unicode_utf8_first)] }
def PruneSoundSaid : Prop := pruneSoundRow.holds Tryd.pinned (OpenSpec.ofChange pruneSoundSpec)

/-- ITS FALSE NEIGHBOUR: 'it returns false'. Refute it at one input. -/
def pruneSoundWrong : ChangeSpec := { name := "pruneSound", fn := fun _ => fun
  | [d1, d2, d3, d4] => { results := [.lit (.bool false)], args := [d1, d2, d3, d4] }
  | _ => none }
def PruneSoundWrongFalsely : Prop := pruneSoundRow.holds Tryd.pinned (OpenSpec.ofChange pruneSoundWrong)

/- THE SECOND FORM. 'bulk': how many values and letters a reading holds, each counted each time it is reached (what is shared counts as often as it is met; a slice's spare places count too). A statement '..UptoSaid' is the law's where the arguments, and the package variables that the reading takes, are together of bulk at most 1048576: NARROWER than '..Said'. Prove '..Said' where nothing that the law and all that it calls make is longer than what came in: it says more and counts as full. Else prove '..UptoSaid'. A law counts once. -/
mutual
def uptoBulk {H : Type} : DataW H → Nat
  | .lit (.string bytes) => bytes.length + 1
  | .lit _ => 1
  | .nil => 1
  | .ptr d => uptoBulk d + 1
  | .slice elems spare => uptoBulkAll elems + uptoBulkAll spare + 1
  | .agg parts => uptoBulkAll parts + 1
  | .iface _ d => uptoBulk d + 1
  | .map entries => uptoBulkEntries entries + 1
  | .held _ => 1
def uptoBulkAll {H : Type} : List (DataW H) → Nat
  | [] => 0
  | d :: r => uptoBulk d + uptoBulkAll r
def uptoBulkEntries {H : Type} : List (Lit × DataW H) → Nat
  | [] => 0
  | x :: r => uptoBulkEntry x + uptoBulkEntries r
def uptoBulkEntry {H : Type} : Lit × DataW H → Nat
  | (.string bytes, d) => bytes.length + uptoBulk d + 1
  | (_, d) => uptoBulk d + 1
 end
def uptoSmall : (H : Type) → List (DataW H) → Bool := fun _ ds => decide (uptoBulkAll ds ≤ 1048576)
def OpenSpec.upto (s : _root_.Go.ChangeSpec) : _root_.Go.OpenSpec := { _root_.Go.OpenSpec.ofChange s with cond := some uptoSmall }

/-- 'boathouselaw16.Sels', WHERE WHAT IT READS IS OF BULK AT MOST 1048576: true; the input reads as it did. -/
def selsUptoRow : OpenClaim := { program := "ytafgfehjdbomfaadoor", sum := "def6f52cb132517dc5c71a2ec3e74e4e63230b141ba9ddf7487a88fffac6ab10", func := "boathouse/boathouselaw16.Sels", spec := "sels", inPlace := ["internal/bytealg.IndexByteString", "internal/bytealg.IndexString"], unfollowed := true, recurses := true, named := ["unicode/utf8.first", "unicode/utf8.acceptRanges", "internal/bytealg.MaxLen"], apart := false, laid := [("unicode/utf8.acceptRanges", laid_unicode_utf8_acceptRanges), ("unicode/utf8.first", laid_unicode_utf8_first)], narrowed := true }
def SelsUptoSaid : Prop := selsUptoRow.holds Tryd.pinned (OpenSpec.upto selsSpec)

/-- 'boathouselaw16.SelSorts', WHERE WHAT IT READS IS OF BULK AT MOST 1048576: true; the input reads as it did. -/
def selSortsUptoRow : OpenClaim := { program := "ytafgfehjdbomfaadoor", sum := "def6f52cb132517dc5c71a2ec3e74e4e63230b141ba9ddf7487a88fffac6ab10", func := "boathouse/boathouselaw16.SelSorts", spec := "selSorts", inPlace := ["internal/bytealg.IndexByteString", "internal/bytealg.IndexString"], unfollowed := true, recurses := true, named := ["unicode/utf8.first", "unicode/utf8.acceptRanges", "internal/bytealg.MaxLen"], apart := false, laid := [("unicode/utf8.acceptRanges", laid_unicode_utf8_acceptRanges), ("unicode/utf8.first", laid_unicode_utf8_first)], narrowed := true }
def SelSortsUptoSaid : Prop := selSortsUptoRow.holds Tryd.pinned (OpenSpec.upto selSortsSpec)

/-- 'boathouselaw16.SelParts', WHERE WHAT IT READS IS OF BULK AT MOST 1048576: true; the input reads as it did. -/
def selPartsUptoRow : OpenClaim := { program := "ytafgfehjdbomfaadoor", sum := "def6f52cb132517dc5c71a2ec3e74e4e63230b141ba9ddf7487a88fffac6ab10", func := "boathouse/boathouselaw16.SelParts", spec := "selParts", inPlace := ["internal/bytealg.IndexByteString", "internal/bytealg.IndexString"], unfollowed := true, recurses := true, named := ["unicode/utf8.first", "unicode/utf8.acceptRanges", "internal/bytealg.MaxLen"], apart := false, laid := [("unicode/utf8.acceptRanges", laid_unicode_utf8_acceptRanges), ("unicode/utf8.first", laid_unicode_utf8_first)], narrowed := true }
def SelPartsUptoSaid : Prop := selPartsUptoRow.holds Tryd.pinned (OpenSpec.upto selPartsSpec)

/-- 'boathouselaw16.SelBoth', WHERE WHAT IT READS IS OF BULK AT MOST 1048576: true; the input reads as it did. -/
def selBothUptoRow : OpenClaim := { program := "ytafgfehjdbomfaadoor", sum := "def6f52cb132517dc5c71a2ec3e74e4e63230b141ba9ddf7487a88fffac6ab10", func := "boathouse/boathouselaw16.SelBoth", spec := "selBoth", inPlace := ["internal/bytealg.IndexByteString", "internal/bytealg.IndexString"], unfollowed := true, recurses := true, named := ["unicode/utf8.first", "unicode/utf8.acceptRanges", "internal/bytealg.MaxLen"], apart := false, laid := [("unicode/utf8.acceptRanges", laid_unicode_utf8_acceptRanges), ("unicode/utf8.first", laid_unicode_utf8_first)], narrowed := true }
def SelBothUptoSaid : Prop := selBothUptoRow.holds Tryd.pinned (OpenSpec.upto selBothSpec)

/-- 'boathouselaw16.SelOne', WHERE WHAT IT READS IS OF BULK AT MOST 1048576: true; the input reads as it did. -/
def selOneUptoRow : OpenClaim := { program := "ytafgfehjdbomfaadoor", sum := "def6f52cb132517dc5c71a2ec3e74e4e63230b141ba9ddf7487a88fffac6ab10", func := "boathouse/boathouselaw16.SelOne", spec := "selOne", inPlace := ["internal/bytealg.IndexByteString", "internal/bytealg.IndexString"], unfollowed := true, recurses := true, named := ["unicode/utf8.first", "unicode/utf8.acceptRanges", "internal/bytealg.MaxLen"], apart := false, laid := [("unicode/utf8.acceptRanges", laid_unicode_utf8_acceptRanges), ("unicode/utf8.first", laid_unicode_utf8_first)], narrowed := true }
def SelOneUptoSaid : Prop := selOneUptoRow.holds Tryd.pinned (OpenSpec.upto selOneSpec)

/-- 'boathouselaw18.PruneSound', WHERE WHAT IT READS IS OF BULK AT MOST 1048576: true; the input reads as it did. -/
def pruneSoundUptoRow : OpenClaim := { program := "ytafgfehjdbomfaadoor", sum := "def6f52cb132517dc5c71a2ec3e74e4e63230b141ba9ddf7487a88fffac6ab10", func := "boathouse/boathouselaw18.PruneSound", spec := "pruneSound", inPlace := ["internal/bytealg.IndexByteString", "internal/bytealg.IndexString"], unfollowed := true, recurses := true, named := ["unicode/utf8.first", "unicode/utf8.acceptRanges", "internal/bytealg.MaxLen"], apart := false, laid := [("unicode/utf8.acceptRanges", laid_unicode_utf8_acceptRanges), ("unicode/utf8.first", laid_unicode_utf8_first)], narrowed := true }
def PruneSoundUptoSaid : Prop := pruneSoundUptoRow.holds Tryd.pinned (OpenSpec.upto pruneSoundSpec)

end Rows
end Go.Proofs.YtafgfehjdbomfaaDoor
