/-
  DERIVED. GIVEN WITH THE SEED: THE CARDS: each row of YtgggbapcpjfljaaDoorRows.lean that lists a variable, with what it lists TIED to the program's text (the seventh form; the later family's looks); each row that meets fmt, with fmt's text TOLD by the authors' own Lean function (tested against real Go, not proved from fmt's source: count such statements apart). THE CARD IS WHAT COUNTS. Prove the row's statement (the work); the ties are given (YtgggbapcpjfljaaDoorTie.lean); close each card by the builder's one call (the guide's Derived/Test/ToyasCard.lean, 'card_holds'). Laid BY PROGRAM, IN A SANDBOX (cutbox-door.mjs). By AI agents, Wed Nov 11 2026. No macro, syntax, notation, axiom, sorry.
-/
import Derived.Test.YtgggbapcpjfljaaDoorRows
import GoSem.ClaimSeven
namespace Go.Proofs.YtgggbapcpjfljaaDoor
namespace Rows

/-- THE TIED CARD OF 'laws.FnExactDeedText'. -/
def fnExactDeedTextCard : Claim7 := { stood := { row := fnExactDeedTextRow, standIns := [], harness := (true, "0e9711d8ed14dec69772aa30392d35d776e4937425b56ab8fff5fbf9d753240a"), looks := true }, kinds := [], alts := [], laidByText := true, laidKinds := [.data, .data, .data], laidTests := true, laidLooks := .later }
def FnExactDeedTextCardSaid : Prop := Claim7.holds Tryd.pinned (.plain (OpenSpec.ofChange fnExactDeedTextSpec)) fnExactDeedTextCard

/-- THE TIED CARD OF 'laws.FnExactSurveyText'. -/
def fnExactSurveyTextCard : Claim7 := { stood := { row := fnExactSurveyTextRow, standIns := [], harness := (true, "0e9711d8ed14dec69772aa30392d35d776e4937425b56ab8fff5fbf9d753240a"), looks := true }, kinds := [], alts := [], laidByText := true, laidKinds := [.data, .data, .data], laidTests := true, laidLooks := .later }
def FnExactSurveyTextCardSaid : Prop := Claim7.holds Tryd.pinned (.plain (OpenSpec.ofChange fnExactSurveyTextSpec)) fnExactSurveyTextCard

/-- THE TIED CARD OF 'laws.FnExactBookText'. -/
def fnExactBookTextCard : Claim7 := { stood := { row := fnExactBookTextRow, standIns := [], harness := (true, "0e9711d8ed14dec69772aa30392d35d776e4937425b56ab8fff5fbf9d753240a"), looks := true }, kinds := [], alts := [], laidByText := true, laidKinds := [.data, .data, .data], laidTests := true, laidLooks := .later }
def FnExactBookTextCardSaid : Prop := Claim7.holds Tryd.pinned (.plain (OpenSpec.ofChange fnExactBookTextSpec)) fnExactBookTextCard

/-- THE TIED CARD OF 'laws.FnExactReadDeed'. -/
def fnExactReadDeedCard : Claim7 := { stood := { row := fnExactReadDeedRow, standIns := [], harness := (true, "0e9711d8ed14dec69772aa30392d35d776e4937425b56ab8fff5fbf9d753240a"), looks := true }, kinds := [], alts := [], laidByText := true, laidKinds := [.data, .data, .data, .data, .sentinel, .sentinel, .pinned], laidTests := true, laidLooks := .later }
def FnExactReadDeedCardSaid : Prop := Claim7.holds Tryd.pinned (.plain (OpenSpec.ofChange fnExactReadDeedSpec)) fnExactReadDeedCard

/-- THE TIED CARD OF 'laws.FnExactReadSurvey'. -/
def fnExactReadSurveyCard : Claim7 := { stood := { row := fnExactReadSurveyRow, standIns := [], harness := (true, "0e9711d8ed14dec69772aa30392d35d776e4937425b56ab8fff5fbf9d753240a"), looks := true }, kinds := [], alts := [], laidByText := true, laidKinds := [.data, .data, .data, .data, .sentinel, .sentinel, .pinned], laidTests := true, laidLooks := .later }
def FnExactReadSurveyCardSaid : Prop := Claim7.holds Tryd.pinned (.plain (OpenSpec.ofChange fnExactReadSurveySpec)) fnExactReadSurveyCard

/-- THE SECOND FORM's CARD OF 'laws.FnExactDeedText'. -/
def fnExactDeedTextUptoCard : Claim7 := { stood := { row := fnExactDeedTextUptoRow, standIns := [], harness := (true, "0e9711d8ed14dec69772aa30392d35d776e4937425b56ab8fff5fbf9d753240a"), looks := true }, kinds := [], alts := [], laidByText := true, laidKinds := [.data, .data, .data], laidTests := true, laidLooks := .later }
def FnExactDeedTextUptoCardSaid : Prop := Claim7.holds Tryd.pinned (.plain (OpenSpec.upto fnExactDeedTextSpec)) fnExactDeedTextUptoCard

/-- THE SECOND FORM's CARD OF 'laws.FnExactSurveyText'. -/
def fnExactSurveyTextUptoCard : Claim7 := { stood := { row := fnExactSurveyTextUptoRow, standIns := [], harness := (true, "0e9711d8ed14dec69772aa30392d35d776e4937425b56ab8fff5fbf9d753240a"), looks := true }, kinds := [], alts := [], laidByText := true, laidKinds := [.data, .data, .data], laidTests := true, laidLooks := .later }
def FnExactSurveyTextUptoCardSaid : Prop := Claim7.holds Tryd.pinned (.plain (OpenSpec.upto fnExactSurveyTextSpec)) fnExactSurveyTextUptoCard

/-- THE SECOND FORM's CARD OF 'laws.FnExactBookText'. -/
def fnExactBookTextUptoCard : Claim7 := { stood := { row := fnExactBookTextUptoRow, standIns := [], harness := (true, "0e9711d8ed14dec69772aa30392d35d776e4937425b56ab8fff5fbf9d753240a"), looks := true }, kinds := [], alts := [], laidByText := true, laidKinds := [.data, .data, .data], laidTests := true, laidLooks := .later }
def FnExactBookTextUptoCardSaid : Prop := Claim7.holds Tryd.pinned (.plain (OpenSpec.upto fnExactBookTextSpec)) fnExactBookTextUptoCard

/-- THE SECOND FORM's CARD OF 'laws.FnExactReadDeed'. -/
def fnExactReadDeedUptoCard : Claim7 := { stood := { row := fnExactReadDeedUptoRow, standIns := [], harness := (true, "0e9711d8ed14dec69772aa30392d35d776e4937425b56ab8fff5fbf9d753240a"), looks := true }, kinds := [], alts := [], laidByText := true, laidKinds := [.data, .data, .data, .data, .sentinel, .sentinel, .pinned], laidTests := true, laidLooks := .later }
def FnExactReadDeedUptoCardSaid : Prop := Claim7.holds Tryd.pinned (.plain (OpenSpec.upto fnExactReadDeedSpec)) fnExactReadDeedUptoCard

/-- THE SECOND FORM's CARD OF 'laws.FnExactReadSurvey'. -/
def fnExactReadSurveyUptoCard : Claim7 := { stood := { row := fnExactReadSurveyUptoRow, standIns := [], harness := (true, "0e9711d8ed14dec69772aa30392d35d776e4937425b56ab8fff5fbf9d753240a"), looks := true }, kinds := [], alts := [], laidByText := true, laidKinds := [.data, .data, .data, .data, .sentinel, .sentinel, .pinned], laidTests := true, laidLooks := .later }
def FnExactReadSurveyUptoCardSaid : Prop := Claim7.holds Tryd.pinned (.plain (OpenSpec.upto fnExactReadSurveySpec)) fnExactReadSurveyUptoCard
end Rows
end Go.Proofs.YtgggbapcpjfljaaDoor
