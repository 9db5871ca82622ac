/-
  DERIVED. GIVEN WITH THE SEED: THE CARDS: each row of YtcgpfllkbflbhaaDoorRows.lean that lists a variable, with what it lists TIED to the program's text (the seventh form; the later family's looks); each row that meets fmt, with fmt's text TOLD by the authors' own Lean function (tested against real Go, not proved from fmt's source: count such statements apart). THE CARD IS WHAT COUNTS. Prove the row's statement (the work); the ties are given (YtcgpfllkbflbhaaDoorTie.lean); close each card by the builder's one call (the guide's Derived/Test/ToyasCard.lean, 'card_holds'). Laid BY PROGRAM, IN A SANDBOX (cutbox-door.mjs). By AI agents, Wed Nov 11 2026. No macro, syntax, notation, axiom, sorry.
-/
import Derived.Test.YtcgpfllkbflbhaaDoorRows
import GoSem.ClaimSeven
namespace Go.Proofs.YtcgpfllkbflbhaaDoor
namespace Rows

/-- THE TIED CARD OF 'boathouselaw15.Preds'. -/
def predsCard : Claim7 := { stood := { row := predsRow, standIns := [], harness := (true, "6d2f7fa7fdcc19c3947fa1340c1fbda30f607ccf5c95a3f78b9e37656d887244"), looks := true }, kinds := [], alts := [], laidByText := true, laidKinds := [.data, .pinned], laidTests := true, laidLooks := .later }
def PredsCardSaid : Prop := Claim7.holds Tryd.pinned (.plain (OpenSpec.ofChange predsSpec)) predsCard

/-- THE TIED CARD OF 'boathouselaw15.PredRules'. -/
def predRulesCard : Claim7 := { stood := { row := predRulesRow, standIns := [], harness := (true, "6d2f7fa7fdcc19c3947fa1340c1fbda30f607ccf5c95a3f78b9e37656d887244"), looks := true }, kinds := [], alts := [], laidByText := true, laidKinds := [.data, .pinned], laidTests := true, laidLooks := .later }
def PredRulesCardSaid : Prop := Claim7.holds Tryd.pinned (.plain (OpenSpec.ofChange predRulesSpec)) predRulesCard

/-- THE TIED CARD OF 'boathouselaw15.PredCompares'. -/
def predComparesCard : Claim7 := { stood := { row := predComparesRow, standIns := [], harness := (true, "6d2f7fa7fdcc19c3947fa1340c1fbda30f607ccf5c95a3f78b9e37656d887244"), looks := true }, kinds := [], alts := [], laidByText := true, laidKinds := [.data, .pinned], laidTests := true, laidLooks := .later }
def PredComparesCardSaid : Prop := Claim7.holds Tryd.pinned (.plain (OpenSpec.ofChange predComparesSpec)) predComparesCard

/-- THE TIED CARD OF 'boathouselaw15.PredTruths'. -/
def predTruthsCard : Claim7 := { stood := { row := predTruthsRow, standIns := [], harness := (true, "6d2f7fa7fdcc19c3947fa1340c1fbda30f607ccf5c95a3f78b9e37656d887244"), looks := true }, kinds := [], alts := [], laidByText := true, laidKinds := [.data, .pinned], laidTests := true, laidLooks := .later }
def PredTruthsCardSaid : Prop := Claim7.holds Tryd.pinned (.plain (OpenSpec.ofChange predTruthsSpec)) predTruthsCard

/-- THE TIED CARD OF 'boathouselaw18.PruneSound'. -/
def pruneSoundCard : Claim7 := { stood := { row := pruneSoundRow, standIns := [], harness := (true, "6d2f7fa7fdcc19c3947fa1340c1fbda30f607ccf5c95a3f78b9e37656d887244"), looks := true }, kinds := [], alts := [], laidByText := true, laidKinds := [.data, .pinned], laidTests := true, laidLooks := .later }
def PruneSoundCardSaid : Prop := Claim7.holds Tryd.pinned (.plain (OpenSpec.ofChange pruneSoundSpec)) pruneSoundCard

/-- THE TIED CARD OF 'boathouselaw18.PruneOne'. -/
def pruneOneCard : Claim7 := { stood := { row := pruneOneRow, standIns := [], harness := (true, "6d2f7fa7fdcc19c3947fa1340c1fbda30f607ccf5c95a3f78b9e37656d887244"), looks := true }, kinds := [], alts := [], laidByText := true, laidKinds := [.data, .pinned], laidTests := true, laidLooks := .later }
def PruneOneCardSaid : Prop := Claim7.holds Tryd.pinned (.plain (OpenSpec.ofChange pruneOneSpec)) pruneOneCard

/-- THE TIED CARD OF 'boathouselaw18.PruneBounds'. -/
def pruneBoundsCard : Claim7 := { stood := { row := pruneBoundsRow, standIns := [], harness := (true, "6d2f7fa7fdcc19c3947fa1340c1fbda30f607ccf5c95a3f78b9e37656d887244"), looks := true }, kinds := [], alts := [], laidByText := true, laidKinds := [.data, .pinned], laidTests := true, laidLooks := .later }
def PruneBoundsCardSaid : Prop := Claim7.holds Tryd.pinned (.plain (OpenSpec.ofChange pruneBoundsSpec)) pruneBoundsCard

/-- THE TIED CARD OF 'boathouselaw18.PruneTrue'. -/
def pruneTrueCard : Claim7 := { stood := { row := pruneTrueRow, standIns := [], harness := (true, "6d2f7fa7fdcc19c3947fa1340c1fbda30f607ccf5c95a3f78b9e37656d887244"), looks := true }, kinds := [], alts := [], laidByText := true, laidKinds := [.data, .pinned], laidTests := true, laidLooks := .later }
def PruneTrueCardSaid : Prop := Claim7.holds Tryd.pinned (.plain (OpenSpec.ofChange pruneTrueSpec)) pruneTrueCard

/-- THE TIED CARD OF 'boathouselaw16.Sels'. -/
def selsCard : Claim7 := { stood := { row := selsRow, standIns := [], harness := (true, "6d2f7fa7fdcc19c3947fa1340c1fbda30f607ccf5c95a3f78b9e37656d887244"), looks := true }, kinds := [], alts := [], laidByText := true, laidKinds := [.data, .pinned], laidTests := true, laidLooks := .later }
def SelsCardSaid : Prop := Claim7.holds Tryd.pinned (.plain (OpenSpec.ofChange selsSpec)) selsCard

/-- THE TIED CARD OF 'boathouselaw16.SelParts'. -/
def selPartsCard : Claim7 := { stood := { row := selPartsRow, standIns := [], harness := (true, "6d2f7fa7fdcc19c3947fa1340c1fbda30f607ccf5c95a3f78b9e37656d887244"), looks := true }, kinds := [], alts := [], laidByText := true, laidKinds := [.data, .pinned], laidTests := true, laidLooks := .later }
def SelPartsCardSaid : Prop := Claim7.holds Tryd.pinned (.plain (OpenSpec.ofChange selPartsSpec)) selPartsCard

/-- THE TIED CARD OF 'boathouselaw16.SelBoth'. -/
def selBothCard : Claim7 := { stood := { row := selBothRow, standIns := [], harness := (true, "6d2f7fa7fdcc19c3947fa1340c1fbda30f607ccf5c95a3f78b9e37656d887244"), looks := true }, kinds := [], alts := [], laidByText := true, laidKinds := [.data, .pinned], laidTests := true, laidLooks := .later }
def SelBothCardSaid : Prop := Claim7.holds Tryd.pinned (.plain (OpenSpec.ofChange selBothSpec)) selBothCard

/-- THE SECOND FORM's CARD OF 'boathouselaw15.Preds'. -/
def predsUptoCard : Claim7 := { stood := { row := predsUptoRow, standIns := [], harness := (true, "6d2f7fa7fdcc19c3947fa1340c1fbda30f607ccf5c95a3f78b9e37656d887244"), looks := true }, kinds := [], alts := [], laidByText := true, laidKinds := [.data, .pinned], laidTests := true, laidLooks := .later }
def PredsUptoCardSaid : Prop := Claim7.holds Tryd.pinned (.plain (OpenSpec.upto predsSpec)) predsUptoCard

/-- THE SECOND FORM's CARD OF 'boathouselaw15.PredRules'. -/
def predRulesUptoCard : Claim7 := { stood := { row := predRulesUptoRow, standIns := [], harness := (true, "6d2f7fa7fdcc19c3947fa1340c1fbda30f607ccf5c95a3f78b9e37656d887244"), looks := true }, kinds := [], alts := [], laidByText := true, laidKinds := [.data, .pinned], laidTests := true, laidLooks := .later }
def PredRulesUptoCardSaid : Prop := Claim7.holds Tryd.pinned (.plain (OpenSpec.upto predRulesSpec)) predRulesUptoCard

/-- THE SECOND FORM's CARD OF 'boathouselaw15.PredCompares'. -/
def predComparesUptoCard : Claim7 := { stood := { row := predComparesUptoRow, standIns := [], harness := (true, "6d2f7fa7fdcc19c3947fa1340c1fbda30f607ccf5c95a3f78b9e37656d887244"), looks := true }, kinds := [], alts := [], laidByText := true, laidKinds := [.data, .pinned], laidTests := true, laidLooks := .later }
def PredComparesUptoCardSaid : Prop := Claim7.holds Tryd.pinned (.plain (OpenSpec.upto predComparesSpec)) predComparesUptoCard

/-- THE SECOND FORM's CARD OF 'boathouselaw15.PredTruths'. -/
def predTruthsUptoCard : Claim7 := { stood := { row := predTruthsUptoRow, standIns := [], harness := (true, "6d2f7fa7fdcc19c3947fa1340c1fbda30f607ccf5c95a3f78b9e37656d887244"), looks := true }, kinds := [], alts := [], laidByText := true, laidKinds := [.data, .pinned], laidTests := true, laidLooks := .later }
def PredTruthsUptoCardSaid : Prop := Claim7.holds Tryd.pinned (.plain (OpenSpec.upto predTruthsSpec)) predTruthsUptoCard

/-- THE SECOND FORM's CARD OF 'boathouselaw18.PruneSound'. -/
def pruneSoundUptoCard : Claim7 := { stood := { row := pruneSoundUptoRow, standIns := [], harness := (true, "6d2f7fa7fdcc19c3947fa1340c1fbda30f607ccf5c95a3f78b9e37656d887244"), looks := true }, kinds := [], alts := [], laidByText := true, laidKinds := [.data, .pinned], laidTests := true, laidLooks := .later }
def PruneSoundUptoCardSaid : Prop := Claim7.holds Tryd.pinned (.plain (OpenSpec.upto pruneSoundSpec)) pruneSoundUptoCard

/-- THE SECOND FORM's CARD OF 'boathouselaw18.PruneOne'. -/
def pruneOneUptoCard : Claim7 := { stood := { row := pruneOneUptoRow, standIns := [], harness := (true, "6d2f7fa7fdcc19c3947fa1340c1fbda30f607ccf5c95a3f78b9e37656d887244"), looks := true }, kinds := [], alts := [], laidByText := true, laidKinds := [.data, .pinned], laidTests := true, laidLooks := .later }
def PruneOneUptoCardSaid : Prop := Claim7.holds Tryd.pinned (.plain (OpenSpec.upto pruneOneSpec)) pruneOneUptoCard

/-- THE SECOND FORM's CARD OF 'boathouselaw18.PruneBounds'. -/
def pruneBoundsUptoCard : Claim7 := { stood := { row := pruneBoundsUptoRow, standIns := [], harness := (true, "6d2f7fa7fdcc19c3947fa1340c1fbda30f607ccf5c95a3f78b9e37656d887244"), looks := true }, kinds := [], alts := [], laidByText := true, laidKinds := [.data, .pinned], laidTests := true, laidLooks := .later }
def PruneBoundsUptoCardSaid : Prop := Claim7.holds Tryd.pinned (.plain (OpenSpec.upto pruneBoundsSpec)) pruneBoundsUptoCard

/-- THE SECOND FORM's CARD OF 'boathouselaw18.PruneTrue'. -/
def pruneTrueUptoCard : Claim7 := { stood := { row := pruneTrueUptoRow, standIns := [], harness := (true, "6d2f7fa7fdcc19c3947fa1340c1fbda30f607ccf5c95a3f78b9e37656d887244"), looks := true }, kinds := [], alts := [], laidByText := true, laidKinds := [.data, .pinned], laidTests := true, laidLooks := .later }
def PruneTrueUptoCardSaid : Prop := Claim7.holds Tryd.pinned (.plain (OpenSpec.upto pruneTrueSpec)) pruneTrueUptoCard

/-- THE SECOND FORM's CARD OF 'boathouselaw16.Sels'. -/
def selsUptoCard : Claim7 := { stood := { row := selsUptoRow, standIns := [], harness := (true, "6d2f7fa7fdcc19c3947fa1340c1fbda30f607ccf5c95a3f78b9e37656d887244"), looks := true }, kinds := [], alts := [], laidByText := true, laidKinds := [.data, .pinned], laidTests := true, laidLooks := .later }
def SelsUptoCardSaid : Prop := Claim7.holds Tryd.pinned (.plain (OpenSpec.upto selsSpec)) selsUptoCard

/-- THE SECOND FORM's CARD OF 'boathouselaw16.SelParts'. -/
def selPartsUptoCard : Claim7 := { stood := { row := selPartsUptoRow, standIns := [], harness := (true, "6d2f7fa7fdcc19c3947fa1340c1fbda30f607ccf5c95a3f78b9e37656d887244"), looks := true }, kinds := [], alts := [], laidByText := true, laidKinds := [.data, .pinned], laidTests := true, laidLooks := .later }
def SelPartsUptoCardSaid : Prop := Claim7.holds Tryd.pinned (.plain (OpenSpec.upto selPartsSpec)) selPartsUptoCard

/-- THE SECOND FORM's CARD OF 'boathouselaw16.SelBoth'. -/
def selBothUptoCard : Claim7 := { stood := { row := selBothUptoRow, standIns := [], harness := (true, "6d2f7fa7fdcc19c3947fa1340c1fbda30f607ccf5c95a3f78b9e37656d887244"), looks := true }, kinds := [], alts := [], laidByText := true, laidKinds := [.data, .pinned], laidTests := true, laidLooks := .later }
def SelBothUptoCardSaid : Prop := Claim7.holds Tryd.pinned (.plain (OpenSpec.upto selBothSpec)) selBothUptoCard
end Rows
end Go.Proofs.YtcgpfllkbflbhaaDoor
