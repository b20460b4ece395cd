/-
  DERIVED. GIVEN WITH THE SEED: THE CARDS: each row of YtplioelpmfeabaaDoorRows.lean that lists a variable, with what it lists TIED to the program's text (the seventh form; the later family's looks); each row that meets fmt, with fmt's text TOLD by the authors' own Lean function (tested against real Go, not proved from fmt's source: count such statements apart). THE CARD IS WHAT COUNTS. Prove the row's statement (the work); the ties are given (YtplioelpmfeabaaDoorTie.lean); close each card by the builder's one call (the guide's Derived/Test/ToyasCard.lean, 'card_holds'). Laid BY PROGRAM, IN A SANDBOX (cutbox-door.mjs). By AI agents, Wed Nov 11 2026. No macro, syntax, notation, axiom, sorry.
-/
import Derived.Test.YtplioelpmfeabaaDoorRows
import GoSem.ClaimSeven
namespace Go.Proofs.YtplioelpmfeabaaDoor
namespace Rows

/-- THE TIED CARD OF 'laws.FnExactDecimal'. -/
def fnExactDecimalCard : Claim7 := { stood := { row := fnExactDecimalRow, standIns := [], harness := (true, "d5470bb5f7de74e66d295ad4cc98dbe0abaaf367d4cd7ac2645f4a32ff90d870"), looks := true }, kinds := [], alts := [], laidByText := true, laidKinds := [.data, .data, .data], laidTests := true, laidLooks := .later }
def FnExactDecimalCardSaid : Prop := Claim7.holds Tryd.pinned (.plain (OpenSpec.ofChange fnExactDecimalSpec)) fnExactDecimalCard

/-- THE TIED CARD OF 'laws.FnExactReadDecimal'. -/
def fnExactReadDecimalCard : Claim7 := { stood := { row := fnExactReadDecimalRow, standIns := [], harness := (true, "d5470bb5f7de74e66d295ad4cc98dbe0abaaf367d4cd7ac2645f4a32ff90d870"), looks := true }, kinds := [], alts := [], laidByText := true, laidKinds := [.data, .data, .data, .sentinel, .sentinel], laidTests := true, laidLooks := .later }
def FnExactReadDecimalCardSaid : Prop := Claim7.holds Tryd.pinned (.plain (OpenSpec.ofChange fnExactReadDecimalSpec)) fnExactReadDecimalCard

/-- THE TIED CARD OF 'laws.FnExactSplitWords'. -/
def fnExactSplitWordsCard : Claim7 := { stood := { row := fnExactSplitWordsRow, standIns := [], harness := (true, "d5470bb5f7de74e66d295ad4cc98dbe0abaaf367d4cd7ac2645f4a32ff90d870"), looks := true }, kinds := [], alts := [], laidByText := true, laidKinds := [.data, .pinned], laidTests := true, laidLooks := .later }
def FnExactSplitWordsCardSaid : Prop := Claim7.holds Tryd.pinned (.plain (OpenSpec.ofChange fnExactSplitWordsSpec)) fnExactSplitWordsCard

/-- THE TIED CARD OF 'laws.FnExactFracText'. -/
def fnExactFracTextCard : Claim7 := { stood := { row := fnExactFracTextRow, standIns := [], harness := (true, "d5470bb5f7de74e66d295ad4cc98dbe0abaaf367d4cd7ac2645f4a32ff90d870"), looks := true }, kinds := [], alts := [], laidByText := true, laidKinds := [.data, .data, .data], laidTests := true, laidLooks := .later }
def FnExactFracTextCardSaid : Prop := Claim7.holds Tryd.pinned (.plain (OpenSpec.ofChange fnExactFracTextSpec)) fnExactFracTextCard

/-- THE TIED CARD OF 'laws.FnExactReadFrac'. -/
def fnExactReadFracCard : Claim7 := { stood := { row := fnExactReadFracRow, standIns := [], harness := (true, "d5470bb5f7de74e66d295ad4cc98dbe0abaaf367d4cd7ac2645f4a32ff90d870"), looks := true }, kinds := [], alts := [], laidByText := true, laidKinds := [.data, .data, .data, .sentinel, .sentinel], laidTests := true, laidLooks := .later }
def FnExactReadFracCardSaid : Prop := Claim7.holds Tryd.pinned (.plain (OpenSpec.ofChange fnExactReadFracSpec)) fnExactReadFracCard

/-- THE TIED CARD OF 'laws.FnExactSignalText'. -/
def fnExactSignalTextCard : Claim7 := { stood := { row := fnExactSignalTextRow, standIns := [], harness := (true, "d5470bb5f7de74e66d295ad4cc98dbe0abaaf367d4cd7ac2645f4a32ff90d870"), looks := true }, kinds := [], alts := [], laidByText := true, laidKinds := [.data, .data, .data], laidTests := true, laidLooks := .later }
def FnExactSignalTextCardSaid : Prop := Claim7.holds Tryd.pinned (.plain (OpenSpec.ofChange fnExactSignalTextSpec)) fnExactSignalTextCard

/-- THE TIED CARD OF 'laws.FnExactReadSignal'. -/
def fnExactReadSignalCard : Claim7 := { stood := { row := fnExactReadSignalRow, standIns := [], harness := (true, "d5470bb5f7de74e66d295ad4cc98dbe0abaaf367d4cd7ac2645f4a32ff90d870"), looks := true }, kinds := [], alts := [], laidByText := true, laidKinds := [.data, .data, .data, .data, .sentinel, .sentinel, .pinned], laidTests := true, laidLooks := .later }
def FnExactReadSignalCardSaid : Prop := Claim7.holds Tryd.pinned (.plain (OpenSpec.ofChange fnExactReadSignalSpec)) fnExactReadSignalCard

/-- THE TIED CARD OF 'laws.FnExactTransferText'. -/
def fnExactTransferTextCard : Claim7 := { stood := { row := fnExactTransferTextRow, standIns := [], harness := (true, "d5470bb5f7de74e66d295ad4cc98dbe0abaaf367d4cd7ac2645f4a32ff90d870"), looks := true }, kinds := [], alts := [], laidByText := true, laidKinds := [.data, .data, .data], laidTests := true, laidLooks := .later }
def FnExactTransferTextCardSaid : Prop := Claim7.holds Tryd.pinned (.plain (OpenSpec.ofChange fnExactTransferTextSpec)) fnExactTransferTextCard

/-- THE TIED CARD OF 'laws.FnExactReadTransfer'. -/
def fnExactReadTransferCard : Claim7 := { stood := { row := fnExactReadTransferRow, standIns := [], harness := (true, "d5470bb5f7de74e66d295ad4cc98dbe0abaaf367d4cd7ac2645f4a32ff90d870"), looks := true }, kinds := [], alts := [], laidByText := true, laidKinds := [.data, .data, .data, .data, .sentinel, .sentinel, .pinned], laidTests := true, laidLooks := .later }
def FnExactReadTransferCardSaid : Prop := Claim7.holds Tryd.pinned (.plain (OpenSpec.ofChange fnExactReadTransferSpec)) fnExactReadTransferCard

/-- THE SECOND FORM's CARD OF 'laws.FnExactDecimal'. -/
def fnExactDecimalUptoCard : Claim7 := { stood := { row := fnExactDecimalUptoRow, standIns := [], harness := (true, "d5470bb5f7de74e66d295ad4cc98dbe0abaaf367d4cd7ac2645f4a32ff90d870"), looks := true }, kinds := [], alts := [], laidByText := true, laidKinds := [.data, .data, .data], laidTests := true, laidLooks := .later }
def FnExactDecimalUptoCardSaid : Prop := Claim7.holds Tryd.pinned (.plain (OpenSpec.upto fnExactDecimalSpec)) fnExactDecimalUptoCard

/-- THE SECOND FORM's CARD OF 'laws.FnExactReadDecimal'. -/
def fnExactReadDecimalUptoCard : Claim7 := { stood := { row := fnExactReadDecimalUptoRow, standIns := [], harness := (true, "d5470bb5f7de74e66d295ad4cc98dbe0abaaf367d4cd7ac2645f4a32ff90d870"), looks := true }, kinds := [], alts := [], laidByText := true, laidKinds := [.data, .data, .data, .sentinel, .sentinel], laidTests := true, laidLooks := .later }
def FnExactReadDecimalUptoCardSaid : Prop := Claim7.holds Tryd.pinned (.plain (OpenSpec.upto fnExactReadDecimalSpec)) fnExactReadDecimalUptoCard

/-- THE SECOND FORM's CARD OF 'laws.FnExactSplitWords'. -/
def fnExactSplitWordsUptoCard : Claim7 := { stood := { row := fnExactSplitWordsUptoRow, standIns := [], harness := (true, "d5470bb5f7de74e66d295ad4cc98dbe0abaaf367d4cd7ac2645f4a32ff90d870"), looks := true }, kinds := [], alts := [], laidByText := true, laidKinds := [.data, .pinned], laidTests := true, laidLooks := .later }
def FnExactSplitWordsUptoCardSaid : Prop := Claim7.holds Tryd.pinned (.plain (OpenSpec.upto fnExactSplitWordsSpec)) fnExactSplitWordsUptoCard

/-- THE SECOND FORM's CARD OF 'laws.FnExactFracText'. -/
def fnExactFracTextUptoCard : Claim7 := { stood := { row := fnExactFracTextUptoRow, standIns := [], harness := (true, "d5470bb5f7de74e66d295ad4cc98dbe0abaaf367d4cd7ac2645f4a32ff90d870"), looks := true }, kinds := [], alts := [], laidByText := true, laidKinds := [.data, .data, .data], laidTests := true, laidLooks := .later }
def FnExactFracTextUptoCardSaid : Prop := Claim7.holds Tryd.pinned (.plain (OpenSpec.upto fnExactFracTextSpec)) fnExactFracTextUptoCard

/-- THE SECOND FORM's CARD OF 'laws.FnExactReadFrac'. -/
def fnExactReadFracUptoCard : Claim7 := { stood := { row := fnExactReadFracUptoRow, standIns := [], harness := (true, "d5470bb5f7de74e66d295ad4cc98dbe0abaaf367d4cd7ac2645f4a32ff90d870"), looks := true }, kinds := [], alts := [], laidByText := true, laidKinds := [.data, .data, .data, .sentinel, .sentinel], laidTests := true, laidLooks := .later }
def FnExactReadFracUptoCardSaid : Prop := Claim7.holds Tryd.pinned (.plain (OpenSpec.upto fnExactReadFracSpec)) fnExactReadFracUptoCard

/-- THE SECOND FORM's CARD OF 'laws.FnExactSignalText'. -/
def fnExactSignalTextUptoCard : Claim7 := { stood := { row := fnExactSignalTextUptoRow, standIns := [], harness := (true, "d5470bb5f7de74e66d295ad4cc98dbe0abaaf367d4cd7ac2645f4a32ff90d870"), looks := true }, kinds := [], alts := [], laidByText := true, laidKinds := [.data, .data, .data], laidTests := true, laidLooks := .later }
def FnExactSignalTextUptoCardSaid : Prop := Claim7.holds Tryd.pinned (.plain (OpenSpec.upto fnExactSignalTextSpec)) fnExactSignalTextUptoCard

/-- THE SECOND FORM's CARD OF 'laws.FnExactReadSignal'. -/
def fnExactReadSignalUptoCard : Claim7 := { stood := { row := fnExactReadSignalUptoRow, standIns := [], harness := (true, "d5470bb5f7de74e66d295ad4cc98dbe0abaaf367d4cd7ac2645f4a32ff90d870"), looks := true }, kinds := [], alts := [], laidByText := true, laidKinds := [.data, .data, .data, .data, .sentinel, .sentinel, .pinned], laidTests := true, laidLooks := .later }
def FnExactReadSignalUptoCardSaid : Prop := Claim7.holds Tryd.pinned (.plain (OpenSpec.upto fnExactReadSignalSpec)) fnExactReadSignalUptoCard

/-- THE SECOND FORM's CARD OF 'laws.FnExactTransferText'. -/
def fnExactTransferTextUptoCard : Claim7 := { stood := { row := fnExactTransferTextUptoRow, standIns := [], harness := (true, "d5470bb5f7de74e66d295ad4cc98dbe0abaaf367d4cd7ac2645f4a32ff90d870"), looks := true }, kinds := [], alts := [], laidByText := true, laidKinds := [.data, .data, .data], laidTests := true, laidLooks := .later }
def FnExactTransferTextUptoCardSaid : Prop := Claim7.holds Tryd.pinned (.plain (OpenSpec.upto fnExactTransferTextSpec)) fnExactTransferTextUptoCard

/-- THE SECOND FORM's CARD OF 'laws.FnExactReadTransfer'. -/
def fnExactReadTransferUptoCard : Claim7 := { stood := { row := fnExactReadTransferUptoRow, standIns := [], harness := (true, "d5470bb5f7de74e66d295ad4cc98dbe0abaaf367d4cd7ac2645f4a32ff90d870"), looks := true }, kinds := [], alts := [], laidByText := true, laidKinds := [.data, .data, .data, .data, .sentinel, .sentinel, .pinned], laidTests := true, laidLooks := .later }
def FnExactReadTransferUptoCardSaid : Prop := Claim7.holds Tryd.pinned (.plain (OpenSpec.upto fnExactReadTransferSpec)) fnExactReadTransferUptoCard
end Rows
end Go.Proofs.YtplioelpmfeabaaDoor
