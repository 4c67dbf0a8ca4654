/-
  DERIVED. GIVEN WITH THE SEED: THE CARDS: each row of YtdgnndlhnblenaaDoorRows.lean that lists a variable, with what it lists TIED to the program's text (the seventh form; the later family's looks); each row that meets fmt, with fmt's text TOLD by the authors' own Lean function (tested against real Go, not proved from fmt's source: count such statements apart). THE CARD IS WHAT COUNTS. Prove the row's statement (the work); the ties are given (YtdgnndlhnblenaaDoorTie.lean); close each card by the builder's one call (the guide's Derived/Test/ToyasCard.lean, 'card_holds'). Laid BY PROGRAM, IN A SANDBOX (cutbox-door.mjs). By AI agents, Wed Nov 11 2026. No macro, syntax, notation, axiom, sorry.
-/
import Derived.Test.YtdgnndlhnblenaaDoorRows
import GoSem.ClaimSeven
namespace Go.Proofs.YtdgnndlhnblenaaDoor
namespace Rows

/-- THE TIED CARD OF 'laws.FnDeedDo'. -/
def fnDeedDoCard : Claim7 := { stood := { row := fnDeedDoRow, standIns := [], harness := (true, "25af503fee6b4f390f85509c289067867cc5f504c2700c7543319495452f5162"), looks := true }, kinds := [], alts := [], laidByText := true, laidKinds := [.data, .data, .data], laidTests := true, laidLooks := .later }
def FnDeedDoCardSaid : Prop := Claim7.holds Tryd.pinned (.plain (OpenSpec.ofChange fnDeedDoSpec)) fnDeedDoCard

/-- THE TIED CARD OF 'laws.FnDeedBack'. -/
def fnDeedBackCard : Claim7 := { stood := { row := fnDeedBackRow, standIns := [], harness := (true, "25af503fee6b4f390f85509c289067867cc5f504c2700c7543319495452f5162"), looks := true }, kinds := [], alts := [], laidByText := true, laidKinds := [.data, .data, .data], laidTests := true, laidLooks := .later }
def FnDeedBackCardSaid : Prop := Claim7.holds Tryd.pinned (.plain (OpenSpec.ofChange fnDeedBackSpec)) fnDeedBackCard

/-- THE TIED CARD OF 'laws.FnDeedsRun'. -/
def fnDeedsRunCard : Claim7 := { stood := { row := fnDeedsRunRow, standIns := [], harness := (true, "25af503fee6b4f390f85509c289067867cc5f504c2700c7543319495452f5162"), looks := true }, kinds := [], alts := [], laidByText := true, laidKinds := [.data, .data, .data], laidTests := true, laidLooks := .later }
def FnDeedsRunCardSaid : Prop := Claim7.holds Tryd.pinned (.plain (OpenSpec.ofChange fnDeedsRunSpec)) fnDeedsRunCard

/-- THE TIED CARD OF 'laws.FnBookValid'. -/
def fnBookValidCard : Claim7 := { stood := { row := fnBookValidRow, standIns := [], harness := (true, "25af503fee6b4f390f85509c289067867cc5f504c2700c7543319495452f5162"), looks := true }, kinds := [], alts := [], laidByText := true, laidKinds := [.data, .data, .data], laidTests := true, laidLooks := .later }
def FnBookValidCardSaid : Prop := Claim7.holds Tryd.pinned (.plain (OpenSpec.ofChange fnBookValidSpec)) fnBookValidCard

/-- THE TIED CARD OF 'laws.FnBookNow'. -/
def fnBookNowCard : Claim7 := { stood := { row := fnBookNowRow, standIns := [], harness := (true, "25af503fee6b4f390f85509c289067867cc5f504c2700c7543319495452f5162"), looks := true }, kinds := [], alts := [], laidByText := true, laidKinds := [.data, .data, .data], laidTests := true, laidLooks := .later }
def FnBookNowCardSaid : Prop := Claim7.holds Tryd.pinned (.plain (OpenSpec.ofChange fnBookNowSpec)) fnBookNowCard

/-- THE TIED CARD OF 'laws.FnBookRedo'. -/
def fnBookRedoCard : Claim7 := { stood := { row := fnBookRedoRow, standIns := [], harness := (true, "25af503fee6b4f390f85509c289067867cc5f504c2700c7543319495452f5162"), looks := true }, kinds := [], alts := [], laidByText := true, laidKinds := [.data, .data, .data], laidTests := true, laidLooks := .later }
def FnBookRedoCardSaid : Prop := Claim7.holds Tryd.pinned (.plain (OpenSpec.ofChange fnBookRedoSpec)) fnBookRedoCard

/-- THE TIED CARD OF 'laws.FnBookDo'. -/
def fnBookDoCard : Claim7 := { stood := { row := fnBookDoRow, standIns := [], harness := (true, "25af503fee6b4f390f85509c289067867cc5f504c2700c7543319495452f5162"), looks := true }, kinds := [], alts := [], laidByText := true, laidKinds := [.data, .data, .data], laidTests := true, laidLooks := .later }
def FnBookDoCardSaid : Prop := Claim7.holds Tryd.pinned (.plain (OpenSpec.ofChange fnBookDoSpec)) fnBookDoCard

/-- THE TIED CARD OF 'laws.FnBookUndo'. -/
def fnBookUndoCard : Claim7 := { stood := { row := fnBookUndoRow, standIns := [], harness := (true, "25af503fee6b4f390f85509c289067867cc5f504c2700c7543319495452f5162"), looks := true }, kinds := [], alts := [], laidByText := true, laidKinds := [.data, .data, .data], laidTests := true, laidLooks := .later }
def FnBookUndoCardSaid : Prop := Claim7.holds Tryd.pinned (.plain (OpenSpec.ofChange fnBookUndoSpec)) fnBookUndoCard

/-- THE TIED CARD OF 'laws.FnSurveyText'. -/
def fnSurveyTextCard : Claim7 := { stood := { row := fnSurveyTextRow, standIns := [], harness := (true, "25af503fee6b4f390f85509c289067867cc5f504c2700c7543319495452f5162"), looks := true }, kinds := [], alts := [], laidByText := true, laidKinds := [.data, .data, .data, .data, .sentinel, .sentinel, .pinned], laidTests := true, laidLooks := .later }
def FnSurveyTextCardSaid : Prop := Claim7.holds Tryd.pinned (.plain (OpenSpec.ofChange fnSurveyTextSpec)) fnSurveyTextCard

/-- THE TIED CARD OF 'laws.FnDeedText'. -/
def fnDeedTextCard : Claim7 := { stood := { row := fnDeedTextRow, standIns := [], harness := (true, "25af503fee6b4f390f85509c289067867cc5f504c2700c7543319495452f5162"), looks := true }, kinds := [], alts := [], laidByText := true, laidKinds := [.data, .data, .data, .data, .sentinel, .sentinel, .pinned], laidTests := true, laidLooks := .later }
def FnDeedTextCardSaid : Prop := Claim7.holds Tryd.pinned (.plain (OpenSpec.ofChange fnDeedTextSpec)) fnDeedTextCard

/-- THE TIED CARD OF 'laws.FnReadSurvey'. -/
def fnReadSurveyCard : Claim7 := { stood := { row := fnReadSurveyRow, standIns := [], harness := (true, "25af503fee6b4f390f85509c289067867cc5f504c2700c7543319495452f5162"), looks := true }, kinds := [], alts := [], laidByText := true, laidKinds := [.data, .data, .data, .data, .sentinel, .sentinel, .pinned], laidTests := true, laidLooks := .later }
def FnReadSurveyCardSaid : Prop := Claim7.holds Tryd.pinned (.plain (OpenSpec.ofChange fnReadSurveySpec)) fnReadSurveyCard

/-- THE TIED CARD OF 'laws.FnReadDeed'. -/
def fnReadDeedCard : Claim7 := { stood := { row := fnReadDeedRow, standIns := [], harness := (true, "25af503fee6b4f390f85509c289067867cc5f504c2700c7543319495452f5162"), looks := true }, kinds := [], alts := [], laidByText := true, laidKinds := [.data, .data, .data, .data, .sentinel, .sentinel, .pinned], laidTests := true, laidLooks := .later }
def FnReadDeedCardSaid : Prop := Claim7.holds Tryd.pinned (.plain (OpenSpec.ofChange fnReadDeedSpec)) fnReadDeedCard

/-- THE SECOND FORM's CARD OF 'laws.FnDeedDo'. -/
def fnDeedDoUptoCard : Claim7 := { stood := { row := fnDeedDoUptoRow, standIns := [], harness := (true, "25af503fee6b4f390f85509c289067867cc5f504c2700c7543319495452f5162"), looks := true }, kinds := [], alts := [], laidByText := true, laidKinds := [.data, .data, .data], laidTests := true, laidLooks := .later }
def FnDeedDoUptoCardSaid : Prop := Claim7.holds Tryd.pinned (.plain (OpenSpec.upto fnDeedDoSpec)) fnDeedDoUptoCard

/-- THE SECOND FORM's CARD OF 'laws.FnDeedBack'. -/
def fnDeedBackUptoCard : Claim7 := { stood := { row := fnDeedBackUptoRow, standIns := [], harness := (true, "25af503fee6b4f390f85509c289067867cc5f504c2700c7543319495452f5162"), looks := true }, kinds := [], alts := [], laidByText := true, laidKinds := [.data, .data, .data], laidTests := true, laidLooks := .later }
def FnDeedBackUptoCardSaid : Prop := Claim7.holds Tryd.pinned (.plain (OpenSpec.upto fnDeedBackSpec)) fnDeedBackUptoCard

/-- THE SECOND FORM's CARD OF 'laws.FnDeedsRun'. -/
def fnDeedsRunUptoCard : Claim7 := { stood := { row := fnDeedsRunUptoRow, standIns := [], harness := (true, "25af503fee6b4f390f85509c289067867cc5f504c2700c7543319495452f5162"), looks := true }, kinds := [], alts := [], laidByText := true, laidKinds := [.data, .data, .data], laidTests := true, laidLooks := .later }
def FnDeedsRunUptoCardSaid : Prop := Claim7.holds Tryd.pinned (.plain (OpenSpec.upto fnDeedsRunSpec)) fnDeedsRunUptoCard

/-- THE SECOND FORM's CARD OF 'laws.FnBookValid'. -/
def fnBookValidUptoCard : Claim7 := { stood := { row := fnBookValidUptoRow, standIns := [], harness := (true, "25af503fee6b4f390f85509c289067867cc5f504c2700c7543319495452f5162"), looks := true }, kinds := [], alts := [], laidByText := true, laidKinds := [.data, .data, .data], laidTests := true, laidLooks := .later }
def FnBookValidUptoCardSaid : Prop := Claim7.holds Tryd.pinned (.plain (OpenSpec.upto fnBookValidSpec)) fnBookValidUptoCard

/-- THE SECOND FORM's CARD OF 'laws.FnBookNow'. -/
def fnBookNowUptoCard : Claim7 := { stood := { row := fnBookNowUptoRow, standIns := [], harness := (true, "25af503fee6b4f390f85509c289067867cc5f504c2700c7543319495452f5162"), looks := true }, kinds := [], alts := [], laidByText := true, laidKinds := [.data, .data, .data], laidTests := true, laidLooks := .later }
def FnBookNowUptoCardSaid : Prop := Claim7.holds Tryd.pinned (.plain (OpenSpec.upto fnBookNowSpec)) fnBookNowUptoCard

/-- THE SECOND FORM's CARD OF 'laws.FnBookRedo'. -/
def fnBookRedoUptoCard : Claim7 := { stood := { row := fnBookRedoUptoRow, standIns := [], harness := (true, "25af503fee6b4f390f85509c289067867cc5f504c2700c7543319495452f5162"), looks := true }, kinds := [], alts := [], laidByText := true, laidKinds := [.data, .data, .data], laidTests := true, laidLooks := .later }
def FnBookRedoUptoCardSaid : Prop := Claim7.holds Tryd.pinned (.plain (OpenSpec.upto fnBookRedoSpec)) fnBookRedoUptoCard

/-- THE SECOND FORM's CARD OF 'laws.FnBookDo'. -/
def fnBookDoUptoCard : Claim7 := { stood := { row := fnBookDoUptoRow, standIns := [], harness := (true, "25af503fee6b4f390f85509c289067867cc5f504c2700c7543319495452f5162"), looks := true }, kinds := [], alts := [], laidByText := true, laidKinds := [.data, .data, .data], laidTests := true, laidLooks := .later }
def FnBookDoUptoCardSaid : Prop := Claim7.holds Tryd.pinned (.plain (OpenSpec.upto fnBookDoSpec)) fnBookDoUptoCard

/-- THE SECOND FORM's CARD OF 'laws.FnBookUndo'. -/
def fnBookUndoUptoCard : Claim7 := { stood := { row := fnBookUndoUptoRow, standIns := [], harness := (true, "25af503fee6b4f390f85509c289067867cc5f504c2700c7543319495452f5162"), looks := true }, kinds := [], alts := [], laidByText := true, laidKinds := [.data, .data, .data], laidTests := true, laidLooks := .later }
def FnBookUndoUptoCardSaid : Prop := Claim7.holds Tryd.pinned (.plain (OpenSpec.upto fnBookUndoSpec)) fnBookUndoUptoCard

/-- THE SECOND FORM's CARD OF 'laws.FnSurveyText'. -/
def fnSurveyTextUptoCard : Claim7 := { stood := { row := fnSurveyTextUptoRow, standIns := [], harness := (true, "25af503fee6b4f390f85509c289067867cc5f504c2700c7543319495452f5162"), looks := true }, kinds := [], alts := [], laidByText := true, laidKinds := [.data, .data, .data, .data, .sentinel, .sentinel, .pinned], laidTests := true, laidLooks := .later }
def FnSurveyTextUptoCardSaid : Prop := Claim7.holds Tryd.pinned (.plain (OpenSpec.upto fnSurveyTextSpec)) fnSurveyTextUptoCard

/-- THE SECOND FORM's CARD OF 'laws.FnDeedText'. -/
def fnDeedTextUptoCard : Claim7 := { stood := { row := fnDeedTextUptoRow, standIns := [], harness := (true, "25af503fee6b4f390f85509c289067867cc5f504c2700c7543319495452f5162"), looks := true }, kinds := [], alts := [], laidByText := true, laidKinds := [.data, .data, .data, .data, .sentinel, .sentinel, .pinned], laidTests := true, laidLooks := .later }
def FnDeedTextUptoCardSaid : Prop := Claim7.holds Tryd.pinned (.plain (OpenSpec.upto fnDeedTextSpec)) fnDeedTextUptoCard

/-- THE SECOND FORM's CARD OF 'laws.FnReadSurvey'. -/
def fnReadSurveyUptoCard : Claim7 := { stood := { row := fnReadSurveyUptoRow, standIns := [], harness := (true, "25af503fee6b4f390f85509c289067867cc5f504c2700c7543319495452f5162"), looks := true }, kinds := [], alts := [], laidByText := true, laidKinds := [.data, .data, .data, .data, .sentinel, .sentinel, .pinned], laidTests := true, laidLooks := .later }
def FnReadSurveyUptoCardSaid : Prop := Claim7.holds Tryd.pinned (.plain (OpenSpec.upto fnReadSurveySpec)) fnReadSurveyUptoCard

/-- THE SECOND FORM's CARD OF 'laws.FnReadDeed'. -/
def fnReadDeedUptoCard : Claim7 := { stood := { row := fnReadDeedUptoRow, standIns := [], harness := (true, "25af503fee6b4f390f85509c289067867cc5f504c2700c7543319495452f5162"), looks := true }, kinds := [], alts := [], laidByText := true, laidKinds := [.data, .data, .data, .data, .sentinel, .sentinel, .pinned], laidTests := true, laidLooks := .later }
def FnReadDeedUptoCardSaid : Prop := Claim7.holds Tryd.pinned (.plain (OpenSpec.upto fnReadDeedSpec)) fnReadDeedUptoCard
end Rows
end Go.Proofs.YtdgnndlhnblenaaDoor
