/-
  NARROWER THAN 'FOR EVERY INPUT', by the rows' own cells (each row's printed sentence says how): JsonParses: laid · JsonPrints: loops, laid · JsonBack: loops, laid · JsonNumbers: laid · JsonDepths: laid · JsonKeys: laid · JsonWhite: loops, laid.
  DERIVED. THE GIVEN ROWS OF THIS SEAT. 7 by the template 'for every input the law returns true; each argument reads behind the call as it read before'; 0 by the template 'total and deterministic' (their statements: YtoibfefalflooaaDoorTotals.lean).
  GIVEN WITH THE SEED: the statements are not yours to turn. If you find one false, say at which input.
  Laid BY PROGRAM, IN A SANDBOX (cutbox-rows.mjs): the forced cells as the released guide's own fill.sh prints them over the translation 0bc62af175b37866… (all of the seat's roots in one cut). By AI agents, Wed Nov 11 2026. No macro, syntax, notation, axiom, sorry.
-/
import Derived.Test.YtoibfefalflooaaDoorChecked
import GoSem.Claim
import GoSem.ClaimJoined
import GoSem.ClaimMapViews
import Derived.JoinedTies
import Derived.KernelRfl
namespace Go.Proofs.YtoibfefalflooaaDoor
/- THE CELL 'sum', in the pinned program and in every row, IS THE sha256 OF THE DUMP (.gsa) THAT YtoibfefalflooaaDoorProg.lean LOADS. Nothing in Lean hashes anything: it is a label: what it is worth is what the hold of that sum in a sandbox is worth. -/
noncomputable def Tryd.pinned : Pinned := { name := "ytoibfefalflooaadoor", sum := "0bc62af175b37866b7a75f7bf23984c97ce860f97b09c86cd9fdf19f41affecf", checked := Tryd.checked }
namespace Rows
def none {H : Type} : Left H := { results := [], args := [] }

/- WHAT THE LISTED PACKAGE-LEVEL VARIABLES READ AS WHEN THE CALL BEGINS. Each datum BY PROGRAM (the guide's laid-datum.mjs) off the statement by which the dump's own 'gosem.cut.vars' lays the variable. In a bare row this is a premise. The card (YtoibfefalflooaaDoorCards.lean) ties it to the program's text. -/
def laid_math_bits_deBruijn32tab {H : Type} : DataW H := .agg [.lit (.int .u8 0), .lit (.int .u8 1), .lit (.int .u8 28), .lit (.int .u8 2), .lit (.int .u8 29), .lit (.int .u8 14), .lit (.int .u8 24), .lit (.int .u8 3), .lit (.int .u8 30), .lit (.int .u8 22), .lit (.int .u8 20), .lit (.int .u8 15), .lit (.int .u8 25), .lit (.int .u8 17), .lit (.int .u8 4), .lit (.int .u8 8), .lit (.int .u8 31), .lit (.int .u8 27), .lit (.int .u8 13), .lit (.int .u8 23), .lit (.int .u8 21), .lit (.int .u8 19), .lit (.int .u8 16), .lit (.int .u8 7), .lit (.int .u8 26), .lit (.int .u8 12), .lit (.int .u8 18), .lit (.int .u8 6), .lit (.int .u8 11), .lit (.int .u8 5), .lit (.int .u8 10), .lit (.int .u8 9)]
def laid_math_bits_deBruijn64tab {H : Type} : DataW H := .agg [.lit (.int .u8 0), .lit (.int .u8 1), .lit (.int .u8 56), .lit (.int .u8 2), .lit (.int .u8 57), .lit (.int .u8 49), .lit (.int .u8 28), .lit (.int .u8 3), .lit (.int .u8 61), .lit (.int .u8 58), .lit (.int .u8 42), .lit (.int .u8 50), .lit (.int .u8 38), .lit (.int .u8 29), .lit (.int .u8 17), .lit (.int .u8 4), .lit (.int .u8 62), .lit (.int .u8 47), .lit (.int .u8 59), .lit (.int .u8 36), .lit (.int .u8 45), .lit (.int .u8 43), .lit (.int .u8 51), .lit (.int .u8 22), .lit (.int .u8 53), .lit (.int .u8 39), .lit (.int .u8 33), .lit (.int .u8 30), .lit (.int .u8 24), .lit (.int .u8 18), .lit (.int .u8 12), .lit (.int .u8 5), .lit (.int .u8 63), .lit (.int .u8 55), .lit (.int .u8 48), .lit (.int .u8 27), .lit (.int .u8 60), .lit (.int .u8 41), .lit (.int .u8 37), .lit (.int .u8 16), .lit (.int .u8 46), .lit (.int .u8 35), .lit (.int .u8 44), .lit (.int .u8 21), .lit (.int .u8 52), .lit (.int .u8 32), .lit (.int .u8 23), .lit (.int .u8 11), .lit (.int .u8 54), .lit (.int .u8 26), .lit (.int .u8 40), .lit (.int .u8 15), .lit (.int .u8 34), .lit (.int .u8 20), .lit (.int .u8 31), .lit (.int .u8 10), .lit (.int .u8 25), .lit (.int .u8 14), .lit (.int .u8 19), .lit (.int .u8 9), .lit (.int .u8 13), .lit (.int .u8 8), .lit (.int .u8 7), .lit (.int .u8 6)]
def laid_internal_strconv_uint64pow10 {H : Type} : DataW H := .agg [.lit (.int .u64 1), .lit (.int .u64 10), .lit (.int .u64 100), .lit (.int .u64 1000), .lit (.int .u64 10000), .lit (.int .u64 100000), .lit (.int .u64 1000000), .lit (.int .u64 10000000), .lit (.int .u64 100000000), .lit (.int .u64 1000000000), .lit (.int .u64 10000000000), .lit (.int .u64 100000000000), .lit (.int .u64 1000000000000), .lit (.int .u64 10000000000000), .lit (.int .u64 100000000000000), .lit (.int .u64 1000000000000000), .lit (.int .u64 10000000000000000), .lit (.int .u64 100000000000000000), .lit (.int .u64 1000000000000000000), .lit (.int .u64 10000000000000000000)]

/-- 'boathouselaw3.JsonParses': WHATEVER THE INPUT: true; the input reads as it did. -/
def jsonParsesSpec : ChangeSpec := { name := "jsonParses", fn := fun _ => fun
  | [d] => { results := [.lit (.bool true)], args := [d] }
  | _ => none }
def jsonParsesRow : OpenClaim := { program := "ytoibfefalflooaadoor", sum := "0bc62af175b37866b7a75f7bf23984c97ce860f97b09c86cd9fdf19f41affecf", func := "boathouse/boathouselaw3.JsonParses", spec := "jsonParses", unfollowed := true, recurses := true, named := ["internal/strconv.uint64pow10", "math/bits.deBruijn32tab", "math/bits.deBruijn64tab"], apart := false, laid := [("math/bits.deBruijn32tab", laid_math_bits_deBruijn32tab), ("math/bits.deBruijn64tab", laid_math_bits_deBruijn64tab), ("internal/strconv.uint64pow10", laid_internal_strconv_uint64pow10)] }
def JsonParsesSaid : Prop := jsonParsesRow.holds Tryd.pinned (OpenSpec.ofChange jsonParsesSpec)

/-- ITS FALSE NEIGHBOUR: 'it returns false'. Refute it at one input. -/
def jsonParsesWrong : ChangeSpec := { name := "jsonParses", fn := fun _ => fun
  | [d] => { results := [.lit (.bool false)], args := [d] }
  | _ => none }
def JsonParsesWrongFalsely : Prop := jsonParsesRow.holds Tryd.pinned (OpenSpec.ofChange jsonParsesWrong)

/-- 'boathouselaw3.JsonPrints': WHATEVER THE INPUT: true; the input reads as it did. -/
def jsonPrintsSpec : ChangeSpec := { name := "jsonPrints", fn := fun _ => fun
  | [d1, d2] => { results := [.lit (.bool true)], args := [d1, d2] }
  | _ => none }
def jsonPrintsRow : OpenClaim := { program := "ytoibfefalflooaadoor", sum := "0bc62af175b37866b7a75f7bf23984c97ce860f97b09c86cd9fdf19f41affecf", func := "boathouse/boathouselaw3.JsonPrints", spec := "jsonPrints", unfollowed := true, recurses := true, named := ["internal/strconv.uint64pow10", "math/bits.deBruijn32tab", "math/bits.deBruijn64tab"], loops := true, apart := false, laid := [("math/bits.deBruijn32tab", laid_math_bits_deBruijn32tab), ("math/bits.deBruijn64tab", laid_math_bits_deBruijn64tab), ("internal/strconv.uint64pow10", laid_internal_strconv_uint64pow10)] }
def JsonPrintsSaid : Prop := jsonPrintsRow.holds Tryd.pinned (OpenSpec.ofChange jsonPrintsSpec)

/-- ITS FALSE NEIGHBOUR: 'it returns false'. Refute it at one input. -/
def jsonPrintsWrong : ChangeSpec := { name := "jsonPrints", fn := fun _ => fun
  | [d1, d2] => { results := [.lit (.bool false)], args := [d1, d2] }
  | _ => none }
def JsonPrintsWrongFalsely : Prop := jsonPrintsRow.holds Tryd.pinned (OpenSpec.ofChange jsonPrintsWrong)

/-- 'boathouselaw3.JsonBack': WHATEVER THE INPUT: true; the input reads as it did. -/
def jsonBackSpec : ChangeSpec := { name := "jsonBack", fn := fun _ => fun
  | [d1, d2] => { results := [.lit (.bool true)], args := [d1, d2] }
  | _ => none }
def jsonBackRow : OpenClaim := { program := "ytoibfefalflooaadoor", sum := "0bc62af175b37866b7a75f7bf23984c97ce860f97b09c86cd9fdf19f41affecf", func := "boathouse/boathouselaw3.JsonBack", spec := "jsonBack", unfollowed := true, recurses := true, named := ["internal/strconv.uint64pow10", "math/bits.deBruijn32tab", "math/bits.deBruijn64tab"], loops := true, apart := false, laid := [("math/bits.deBruijn32tab", laid_math_bits_deBruijn32tab), ("math/bits.deBruijn64tab", laid_math_bits_deBruijn64tab), ("internal/strconv.uint64pow10", laid_internal_strconv_uint64pow10)] }
def JsonBackSaid : Prop := jsonBackRow.holds Tryd.pinned (OpenSpec.ofChange jsonBackSpec)

/-- ITS FALSE NEIGHBOUR: 'it returns false'. Refute it at one input. -/
def jsonBackWrong : ChangeSpec := { name := "jsonBack", fn := fun _ => fun
  | [d1, d2] => { results := [.lit (.bool false)], args := [d1, d2] }
  | _ => none }
def JsonBackWrongFalsely : Prop := jsonBackRow.holds Tryd.pinned (OpenSpec.ofChange jsonBackWrong)

/-- 'boathouselaw3.JsonNumbers': WHATEVER THE INPUT: true; the input reads as it did. -/
def jsonNumbersSpec : ChangeSpec := { name := "jsonNumbers", fn := fun _ => fun
  | [d1, d2] => { results := [.lit (.bool true)], args := [d1, d2] }
  | _ => none }
def jsonNumbersRow : OpenClaim := { program := "ytoibfefalflooaadoor", sum := "0bc62af175b37866b7a75f7bf23984c97ce860f97b09c86cd9fdf19f41affecf", func := "boathouse/boathouselaw3.JsonNumbers", spec := "jsonNumbers", unfollowed := true, recurses := true, named := ["internal/strconv.uint64pow10", "math/bits.deBruijn32tab", "math/bits.deBruijn64tab"], apart := false, laid := [("math/bits.deBruijn32tab", laid_math_bits_deBruijn32tab), ("math/bits.deBruijn64tab", laid_math_bits_deBruijn64tab), ("internal/strconv.uint64pow10", laid_internal_strconv_uint64pow10)] }
def JsonNumbersSaid : Prop := jsonNumbersRow.holds Tryd.pinned (OpenSpec.ofChange jsonNumbersSpec)

/-- ITS FALSE NEIGHBOUR: 'it returns false'. Refute it at one input. -/
def jsonNumbersWrong : ChangeSpec := { name := "jsonNumbers", fn := fun _ => fun
  | [d1, d2] => { results := [.lit (.bool false)], args := [d1, d2] }
  | _ => none }
def JsonNumbersWrongFalsely : Prop := jsonNumbersRow.holds Tryd.pinned (OpenSpec.ofChange jsonNumbersWrong)

/-- 'boathouselaw3.JsonDepths': WHATEVER THE INPUT: true; the input reads as it did. -/
def jsonDepthsSpec : ChangeSpec := { name := "jsonDepths", fn := fun _ => fun
  | [d1, d2] => { results := [.lit (.bool true)], args := [d1, d2] }
  | _ => none }
def jsonDepthsRow : OpenClaim := { program := "ytoibfefalflooaadoor", sum := "0bc62af175b37866b7a75f7bf23984c97ce860f97b09c86cd9fdf19f41affecf", func := "boathouse/boathouselaw3.JsonDepths", spec := "jsonDepths", unfollowed := true, recurses := true, named := ["internal/strconv.uint64pow10", "math/bits.deBruijn32tab", "math/bits.deBruijn64tab"], apart := false, laid := [("math/bits.deBruijn32tab", laid_math_bits_deBruijn32tab), ("math/bits.deBruijn64tab", laid_math_bits_deBruijn64tab), ("internal/strconv.uint64pow10", laid_internal_strconv_uint64pow10)] }
def JsonDepthsSaid : Prop := jsonDepthsRow.holds Tryd.pinned (OpenSpec.ofChange jsonDepthsSpec)

/-- ITS FALSE NEIGHBOUR: 'it returns false'. Refute it at one input. -/
def jsonDepthsWrong : ChangeSpec := { name := "jsonDepths", fn := fun _ => fun
  | [d1, d2] => { results := [.lit (.bool false)], args := [d1, d2] }
  | _ => none }
def JsonDepthsWrongFalsely : Prop := jsonDepthsRow.holds Tryd.pinned (OpenSpec.ofChange jsonDepthsWrong)

/-- 'boathouselaw3.JsonKeys': WHATEVER THE INPUT: true; the input reads as it did. -/
def jsonKeysSpec : ChangeSpec := { name := "jsonKeys", fn := fun _ => fun
  | [d1, d2, d3] => { results := [.lit (.bool true)], args := [d1, d2, d3] }
  | _ => none }
def jsonKeysRow : OpenClaim := { program := "ytoibfefalflooaadoor", sum := "0bc62af175b37866b7a75f7bf23984c97ce860f97b09c86cd9fdf19f41affecf", func := "boathouse/boathouselaw3.JsonKeys", spec := "jsonKeys", unfollowed := true, recurses := true, named := ["internal/strconv.uint64pow10", "math/bits.deBruijn32tab", "math/bits.deBruijn64tab"], apart := false, laid := [("math/bits.deBruijn32tab", laid_math_bits_deBruijn32tab), ("math/bits.deBruijn64tab", laid_math_bits_deBruijn64tab), ("internal/strconv.uint64pow10", laid_internal_strconv_uint64pow10)] }
def JsonKeysSaid : Prop := jsonKeysRow.holds Tryd.pinned (OpenSpec.ofChange jsonKeysSpec)

/-- ITS FALSE NEIGHBOUR: 'it returns false'. Refute it at one input. -/
def jsonKeysWrong : ChangeSpec := { name := "jsonKeys", fn := fun _ => fun
  | [d1, d2, d3] => { results := [.lit (.bool false)], args := [d1, d2, d3] }
  | _ => none }
def JsonKeysWrongFalsely : Prop := jsonKeysRow.holds Tryd.pinned (OpenSpec.ofChange jsonKeysWrong)

/-- 'boathouselaw3.JsonWhite': WHATEVER THE INPUT: true; the input reads as it did. -/
def jsonWhiteSpec : ChangeSpec := { name := "jsonWhite", fn := fun _ => fun
  | [d1, d2] => { results := [.lit (.bool true)], args := [d1, d2] }
  | _ => none }
def jsonWhiteRow : OpenClaim := { program := "ytoibfefalflooaadoor", sum := "0bc62af175b37866b7a75f7bf23984c97ce860f97b09c86cd9fdf19f41affecf", func := "boathouse/boathouselaw3.JsonWhite", spec := "jsonWhite", unfollowed := true, recurses := true, named := ["internal/strconv.uint64pow10", "math/bits.deBruijn32tab", "math/bits.deBruijn64tab"], loops := true, apart := false, laid := [("math/bits.deBruijn32tab", laid_math_bits_deBruijn32tab), ("math/bits.deBruijn64tab", laid_math_bits_deBruijn64tab), ("internal/strconv.uint64pow10", laid_internal_strconv_uint64pow10)] }
def JsonWhiteSaid : Prop := jsonWhiteRow.holds Tryd.pinned (OpenSpec.ofChange jsonWhiteSpec)

/-- ITS FALSE NEIGHBOUR: 'it returns false'. Refute it at one input. -/
def jsonWhiteWrong : ChangeSpec := { name := "jsonWhite", fn := fun _ => fun
  | [d1, d2] => { results := [.lit (.bool false)], args := [d1, d2] }
  | _ => none }
def JsonWhiteWrongFalsely : Prop := jsonWhiteRow.holds Tryd.pinned (OpenSpec.ofChange jsonWhiteWrong)

/- THE SECOND FORM. 'bulk': how many values and letters a reading holds, each counted each time it is reached (what is shared counts as often as it is met; a slice's spare places count too). A statement '..UptoSaid' is the law's where the arguments, and the package variables that the reading takes, are together of bulk at most 1048576: NARROWER than '..Said'. Prove '..Said' where nothing that the law and all that it calls make is longer than what came in: it says more and counts as full. Else prove '..UptoSaid'. A law counts once. -/
mutual
def uptoBulk {H : Type} : DataW H → Nat
  | .lit (.string bytes) => bytes.length + 1
  | .lit _ => 1
  | .nil => 1
  | .ptr d => uptoBulk d + 1
  | .slice elems spare => uptoBulkAll elems + uptoBulkAll spare + 1
  | .agg parts => uptoBulkAll parts + 1
  | .iface _ d => uptoBulk d + 1
  | .map entries => uptoBulkEntries entries + 1
  | .held _ => 1
def uptoBulkAll {H : Type} : List (DataW H) → Nat
  | [] => 0
  | d :: r => uptoBulk d + uptoBulkAll r
def uptoBulkEntries {H : Type} : List (Lit × DataW H) → Nat
  | [] => 0
  | x :: r => uptoBulkEntry x + uptoBulkEntries r
def uptoBulkEntry {H : Type} : Lit × DataW H → Nat
  | (.string bytes, d) => bytes.length + uptoBulk d + 1
  | (_, d) => uptoBulk d + 1
 end
def uptoSmall : (H : Type) → List (DataW H) → Bool := fun _ ds => decide (uptoBulkAll ds ≤ 1048576)
def OpenSpec.upto (s : _root_.Go.ChangeSpec) : _root_.Go.OpenSpec := { _root_.Go.OpenSpec.ofChange s with cond := some uptoSmall }

/-- 'boathouselaw3.JsonParses', WHERE WHAT IT READS IS OF BULK AT MOST 1048576: true; the input reads as it did. -/
def jsonParsesUptoRow : OpenClaim := { program := "ytoibfefalflooaadoor", sum := "0bc62af175b37866b7a75f7bf23984c97ce860f97b09c86cd9fdf19f41affecf", func := "boathouse/boathouselaw3.JsonParses", spec := "jsonParses", unfollowed := true, recurses := true, named := ["internal/strconv.uint64pow10", "math/bits.deBruijn32tab", "math/bits.deBruijn64tab"], apart := false, laid := [("math/bits.deBruijn32tab", laid_math_bits_deBruijn32tab), ("math/bits.deBruijn64tab", laid_math_bits_deBruijn64tab), ("internal/strconv.uint64pow10", laid_internal_strconv_uint64pow10)], narrowed := true }
def JsonParsesUptoSaid : Prop := jsonParsesUptoRow.holds Tryd.pinned (OpenSpec.upto jsonParsesSpec)

/-- 'boathouselaw3.JsonPrints', WHERE WHAT IT READS IS OF BULK AT MOST 1048576: true; the input reads as it did. -/
def jsonPrintsUptoRow : OpenClaim := { program := "ytoibfefalflooaadoor", sum := "0bc62af175b37866b7a75f7bf23984c97ce860f97b09c86cd9fdf19f41affecf", func := "boathouse/boathouselaw3.JsonPrints", spec := "jsonPrints", unfollowed := true, recurses := true, named := ["internal/strconv.uint64pow10", "math/bits.deBruijn32tab", "math/bits.deBruijn64tab"], loops := true, apart := false, laid := [("math/bits.deBruijn32tab", laid_math_bits_deBruijn32tab), ("math/bits.deBruijn64tab", laid_math_bits_deBruijn64tab), ("internal/strconv.uint64pow10", laid_internal_strconv_uint64pow10)], narrowed := true }
def JsonPrintsUptoSaid : Prop := jsonPrintsUptoRow.holds Tryd.pinned (OpenSpec.upto jsonPrintsSpec)

/-- 'boathouselaw3.JsonBack', WHERE WHAT IT READS IS OF BULK AT MOST 1048576: true; the input reads as it did. -/
def jsonBackUptoRow : OpenClaim := { program := "ytoibfefalflooaadoor", sum := "0bc62af175b37866b7a75f7bf23984c97ce860f97b09c86cd9fdf19f41affecf", func := "boathouse/boathouselaw3.JsonBack", spec := "jsonBack", unfollowed := true, recurses := true, named := ["internal/strconv.uint64pow10", "math/bits.deBruijn32tab", "math/bits.deBruijn64tab"], loops := true, apart := false, laid := [("math/bits.deBruijn32tab", laid_math_bits_deBruijn32tab), ("math/bits.deBruijn64tab", laid_math_bits_deBruijn64tab), ("internal/strconv.uint64pow10", laid_internal_strconv_uint64pow10)], narrowed := true }
def JsonBackUptoSaid : Prop := jsonBackUptoRow.holds Tryd.pinned (OpenSpec.upto jsonBackSpec)

/-- 'boathouselaw3.JsonNumbers', WHERE WHAT IT READS IS OF BULK AT MOST 1048576: true; the input reads as it did. -/
def jsonNumbersUptoRow : OpenClaim := { program := "ytoibfefalflooaadoor", sum := "0bc62af175b37866b7a75f7bf23984c97ce860f97b09c86cd9fdf19f41affecf", func := "boathouse/boathouselaw3.JsonNumbers", spec := "jsonNumbers", unfollowed := true, recurses := true, named := ["internal/strconv.uint64pow10", "math/bits.deBruijn32tab", "math/bits.deBruijn64tab"], apart := false, laid := [("math/bits.deBruijn32tab", laid_math_bits_deBruijn32tab), ("math/bits.deBruijn64tab", laid_math_bits_deBruijn64tab), ("internal/strconv.uint64pow10", laid_internal_strconv_uint64pow10)], narrowed := true }
def JsonNumbersUptoSaid : Prop := jsonNumbersUptoRow.holds Tryd.pinned (OpenSpec.upto jsonNumbersSpec)

/-- 'boathouselaw3.JsonDepths', WHERE WHAT IT READS IS OF BULK AT MOST 1048576: true; the input reads as it did. -/
def jsonDepthsUptoRow : OpenClaim := { program := "ytoibfefalflooaadoor", sum := "0bc62af175b37866b7a75f7bf23984c97ce860f97b09c86cd9fdf19f41affecf", func := "boathouse/boathouselaw3.JsonDepths", spec := "jsonDepths", unfollowed := true, recurses := true, named := ["internal/strconv.uint64pow10", "math/bits.deBruijn32tab", "math/bits.deBruijn64tab"], apart := false, laid := [("math/bits.deBruijn32tab", laid_math_bits_deBruijn32tab), ("math/bits.deBruijn64tab", laid_math_bits_deBruijn64tab), ("internal/strconv.uint64pow10", laid_internal_strconv_uint64pow10)], narrowed := true }
def JsonDepthsUptoSaid : Prop := jsonDepthsUptoRow.holds Tryd.pinned (OpenSpec.upto jsonDepthsSpec)

/-- 'boathouselaw3.JsonKeys', WHERE WHAT IT READS IS OF BULK AT MOST 1048576: true; the input reads as it did. -/
def jsonKeysUptoRow : OpenClaim := { program := "ytoibfefalflooaadoor", sum := "0bc62af175b37866b7a75f7bf23984c97ce860f97b09c86cd9fdf19f41affecf", func := "boathouse/boathouselaw3.JsonKeys", spec := "jsonKeys", unfollowed := true, recurses := true, named := ["internal/strconv.uint64pow10", "math/bits.deBruijn32tab", "math/bits.deBruijn64tab"], apart := false, laid := [("math/bits.deBruijn32tab", laid_math_bits_deBruijn32tab), ("math/bits.deBruijn64tab", laid_math_bits_deBruijn64tab), ("internal/strconv.uint64pow10", laid_internal_strconv_uint64pow10)], narrowed := true }
def JsonKeysUptoSaid : Prop := jsonKeysUptoRow.holds Tryd.pinned (OpenSpec.upto jsonKeysSpec)

/-- 'boathouselaw3.JsonWhite', WHERE WHAT IT READS IS OF BULK AT MOST 1048576: true; the input reads as it did. -/
def jsonWhiteUptoRow : OpenClaim := { program := "ytoibfefalflooaadoor", sum := "0bc62af175b37866b7a75f7bf23984c97ce860f97b09c86cd9fdf19f41affecf", func := "boathouse/boathouselaw3.JsonWhite", spec := "jsonWhite", unfollowed := true, recurses := true, named := ["internal/strconv.uint64pow10", "math/bits.deBruijn32tab", "math/bits.deBruijn64tab"], loops := true, apart := false, laid := [("math/bits.deBruijn32tab", laid_math_bits_deBruijn32tab), ("math/bits.deBruijn64tab", laid_math_bits_deBruijn64tab), ("internal/strconv.uint64pow10", laid_internal_strconv_uint64pow10)], narrowed := true }
def JsonWhiteUptoSaid : Prop := jsonWhiteUptoRow.holds Tryd.pinned (OpenSpec.upto jsonWhiteSpec)

end Rows
end Go.Proofs.YtoibfefalflooaaDoor
