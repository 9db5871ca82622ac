/-
  DERIVED. GIVEN WITH THE SEED: THE CARDS: each row of YtafgfehjdbomfaaDoorRows.lean that lists a variable, with what it lists TIED to the program's text (the seventh form; the later family's looks); each row that meets fmt, with fmt's text TOLD by the authors' own Lean function (tested against real Go, not proved from fmt's source: count such statements apart). THE CARD IS WHAT COUNTS. Prove the row's statement (the work); the ties are given (YtafgfehjdbomfaaDoorTie.lean); close each card by the builder's one call (the guide's Derived/Test/ToyasCard.lean, 'card_holds'). Laid BY PROGRAM, IN A SANDBOX (cutbox-door.mjs). By AI agents, Wed Nov 11 2026. No macro, syntax, notation, axiom, sorry.
-/
import Derived.Test.YtafgfehjdbomfaaDoorRows
import GoSem.ClaimSeven
namespace Go.Proofs.YtafgfehjdbomfaaDoor
namespace Rows

/-- THE TIED CARD OF 'boathouselaw16.Sels'. -/
def selsCard : Claim7 := { stood := { row := selsRow, standIns := [], harness := (true, "271de6f6475f29675f23f4fe13f84336c7f5b36848eaf6bb54af78ef4737bc98"), looks := true }, kinds := [], alts := [], laidByText := true, laidKinds := [.data, .pinned], laidTests := true, laidLooks := .later }
def SelsCardSaid : Prop := Claim7.holds Tryd.pinned (.plain (OpenSpec.ofChange selsSpec)) selsCard

/-- THE TIED CARD OF 'boathouselaw16.SelSorts'. -/
def selSortsCard : Claim7 := { stood := { row := selSortsRow, standIns := [], harness := (true, "271de6f6475f29675f23f4fe13f84336c7f5b36848eaf6bb54af78ef4737bc98"), looks := true }, kinds := [], alts := [], laidByText := true, laidKinds := [.data, .pinned], laidTests := true, laidLooks := .later }
def SelSortsCardSaid : Prop := Claim7.holds Tryd.pinned (.plain (OpenSpec.ofChange selSortsSpec)) selSortsCard

/-- THE TIED CARD OF 'boathouselaw16.SelParts'. -/
def selPartsCard : Claim7 := { stood := { row := selPartsRow, standIns := [], harness := (true, "271de6f6475f29675f23f4fe13f84336c7f5b36848eaf6bb54af78ef4737bc98"), looks := true }, kinds := [], alts := [], laidByText := true, laidKinds := [.data, .pinned], laidTests := true, laidLooks := .later }
def SelPartsCardSaid : Prop := Claim7.holds Tryd.pinned (.plain (OpenSpec.ofChange selPartsSpec)) selPartsCard

/-- THE TIED CARD OF 'boathouselaw16.SelBoth'. -/
def selBothCard : Claim7 := { stood := { row := selBothRow, standIns := [], harness := (true, "271de6f6475f29675f23f4fe13f84336c7f5b36848eaf6bb54af78ef4737bc98"), looks := true }, kinds := [], alts := [], laidByText := true, laidKinds := [.data, .pinned], laidTests := true, laidLooks := .later }
def SelBothCardSaid : Prop := Claim7.holds Tryd.pinned (.plain (OpenSpec.ofChange selBothSpec)) selBothCard

/-- THE TIED CARD OF 'boathouselaw16.SelOne'. -/
def selOneCard : Claim7 := { stood := { row := selOneRow, standIns := [], harness := (true, "271de6f6475f29675f23f4fe13f84336c7f5b36848eaf6bb54af78ef4737bc98"), looks := true }, kinds := [], alts := [], laidByText := true, laidKinds := [.data, .pinned], laidTests := true, laidLooks := .later }
def SelOneCardSaid : Prop := Claim7.holds Tryd.pinned (.plain (OpenSpec.ofChange selOneSpec)) selOneCard

/-- THE TIED CARD OF 'boathouselaw18.PruneSound'. -/
def pruneSoundCard : Claim7 := { stood := { row := pruneSoundRow, standIns := [], harness := (true, "271de6f6475f29675f23f4fe13f84336c7f5b36848eaf6bb54af78ef4737bc98"), looks := true }, kinds := [], alts := [], laidByText := true, laidKinds := [.data, .pinned], laidTests := true, laidLooks := .later }
def PruneSoundCardSaid : Prop := Claim7.holds Tryd.pinned (.plain (OpenSpec.ofChange pruneSoundSpec)) pruneSoundCard

/-- THE SECOND FORM's CARD OF 'boathouselaw16.Sels'. -/
def selsUptoCard : Claim7 := { stood := { row := selsUptoRow, standIns := [], harness := (true, "271de6f6475f29675f23f4fe13f84336c7f5b36848eaf6bb54af78ef4737bc98"), looks := true }, kinds := [], alts := [], laidByText := true, laidKinds := [.data, .pinned], laidTests := true, laidLooks := .later }
def SelsUptoCardSaid : Prop := Claim7.holds Tryd.pinned (.plain (OpenSpec.upto selsSpec)) selsUptoCard

/-- THE SECOND FORM's CARD OF 'boathouselaw16.SelSorts'. -/
def selSortsUptoCard : Claim7 := { stood := { row := selSortsUptoRow, standIns := [], harness := (true, "271de6f6475f29675f23f4fe13f84336c7f5b36848eaf6bb54af78ef4737bc98"), looks := true }, kinds := [], alts := [], laidByText := true, laidKinds := [.data, .pinned], laidTests := true, laidLooks := .later }
def SelSortsUptoCardSaid : Prop := Claim7.holds Tryd.pinned (.plain (OpenSpec.upto selSortsSpec)) selSortsUptoCard

/-- THE SECOND FORM's CARD OF 'boathouselaw16.SelParts'. -/
def selPartsUptoCard : Claim7 := { stood := { row := selPartsUptoRow, standIns := [], harness := (true, "271de6f6475f29675f23f4fe13f84336c7f5b36848eaf6bb54af78ef4737bc98"), looks := true }, kinds := [], alts := [], laidByText := true, laidKinds := [.data, .pinned], laidTests := true, laidLooks := .later }
def SelPartsUptoCardSaid : Prop := Claim7.holds Tryd.pinned (.plain (OpenSpec.upto selPartsSpec)) selPartsUptoCard

/-- THE SECOND FORM's CARD OF 'boathouselaw16.SelBoth'. -/
def selBothUptoCard : Claim7 := { stood := { row := selBothUptoRow, standIns := [], harness := (true, "271de6f6475f29675f23f4fe13f84336c7f5b36848eaf6bb54af78ef4737bc98"), looks := true }, kinds := [], alts := [], laidByText := true, laidKinds := [.data, .pinned], laidTests := true, laidLooks := .later }
def SelBothUptoCardSaid : Prop := Claim7.holds Tryd.pinned (.plain (OpenSpec.upto selBothSpec)) selBothUptoCard

/-- THE SECOND FORM's CARD OF 'boathouselaw16.SelOne'. -/
def selOneUptoCard : Claim7 := { stood := { row := selOneUptoRow, standIns := [], harness := (true, "271de6f6475f29675f23f4fe13f84336c7f5b36848eaf6bb54af78ef4737bc98"), looks := true }, kinds := [], alts := [], laidByText := true, laidKinds := [.data, .pinned], laidTests := true, laidLooks := .later }
def SelOneUptoCardSaid : Prop := Claim7.holds Tryd.pinned (.plain (OpenSpec.upto selOneSpec)) selOneUptoCard

/-- THE SECOND FORM's CARD OF 'boathouselaw18.PruneSound'. -/
def pruneSoundUptoCard : Claim7 := { stood := { row := pruneSoundUptoRow, standIns := [], harness := (true, "271de6f6475f29675f23f4fe13f84336c7f5b36848eaf6bb54af78ef4737bc98"), looks := true }, kinds := [], alts := [], laidByText := true, laidKinds := [.data, .pinned], laidTests := true, laidLooks := .later }
def PruneSoundUptoCardSaid : Prop := Claim7.holds Tryd.pinned (.plain (OpenSpec.upto pruneSoundSpec)) pruneSoundUptoCard
end Rows
end Go.Proofs.YtafgfehjdbomfaaDoor
