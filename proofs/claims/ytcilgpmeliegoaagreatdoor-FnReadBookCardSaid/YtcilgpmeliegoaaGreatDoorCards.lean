/-
  DERIVED. GIVEN WITH THE SEED: THE CARDS: each row of YtcilgpmeliegoaaGreatDoorRows.lean that lists a variable, with what it lists TIED to the program's text (the seventh form; the later family's looks); each row that meets fmt, with fmt's text TOLD by the authors' own Lean function (tested against real Go, not proved from fmt's source: count such statements apart). THE CARD IS WHAT COUNTS. Prove the row's statement (the work); the ties are given (YtcilgpmeliegoaaGreatDoorTie.lean); close each card by the builder's one call (the guide's Derived/Test/ToyasCard.lean, 'card_holds'). Laid BY PROGRAM, IN A SANDBOX (cutbox-door.mjs). By AI agents, Wed Nov 11 2026. No macro, syntax, notation, axiom, sorry.
-/
import Derived.Test.YtcilgpmeliegoaaGreatDoorRows
import GoSem.ClaimSeven
namespace Go.Proofs.YtcilgpmeliegoaaGreatDoor
namespace Rows

/-- THE TIED CARD OF 'laws.FnBookText'. -/
def fnBookTextCard : Claim7 := { stood := { row := fnBookTextRow, standIns := [], harness := (true, "489936aaa42570519f6f747dbeeebfd34551d709046386401b87d448dafd38c6"), looks := true }, kinds := [], alts := [], laidByText := true, laidKinds := [.data, .data, .data, .data, .sentinel, .sentinel, .pinned], laidTests := true, laidLooks := .later }
def FnBookTextCardSaid : Prop := Claim7.holds Tryz.pinned (.plain (OpenSpec.ofChange fnBookTextSpec)) fnBookTextCard

/-- THE TIED CARD OF 'laws.FnReadBook'. -/
def fnReadBookCard : Claim7 := { stood := { row := fnReadBookRow, standIns := [], harness := (true, "489936aaa42570519f6f747dbeeebfd34551d709046386401b87d448dafd38c6"), looks := true }, kinds := [], alts := [], laidByText := true, laidKinds := [.data, .data, .data, .data, .sentinel, .sentinel, .pinned], laidTests := true, laidLooks := .later }
def FnReadBookCardSaid : Prop := Claim7.holds Tryz.pinned (.plain (OpenSpec.ofChange fnReadBookSpec)) fnReadBookCard

/-- THE SECOND FORM's CARD OF 'laws.FnBookText'. -/
def fnBookTextUptoCard : Claim7 := { stood := { row := fnBookTextUptoRow, standIns := [], harness := (true, "489936aaa42570519f6f747dbeeebfd34551d709046386401b87d448dafd38c6"), looks := true }, kinds := [], alts := [], laidByText := true, laidKinds := [.data, .data, .data, .data, .sentinel, .sentinel, .pinned], laidTests := true, laidLooks := .later }
def FnBookTextUptoCardSaid : Prop := Claim7.holds Tryz.pinned (.plain (OpenSpec.upto fnBookTextSpec)) fnBookTextUptoCard

/-- THE SECOND FORM's CARD OF 'laws.FnReadBook'. -/
def fnReadBookUptoCard : Claim7 := { stood := { row := fnReadBookUptoRow, standIns := [], harness := (true, "489936aaa42570519f6f747dbeeebfd34551d709046386401b87d448dafd38c6"), looks := true }, kinds := [], alts := [], laidByText := true, laidKinds := [.data, .data, .data, .data, .sentinel, .sentinel, .pinned], laidTests := true, laidLooks := .later }
def FnReadBookUptoCardSaid : Prop := Claim7.holds Tryz.pinned (.plain (OpenSpec.upto fnReadBookSpec)) fnReadBookUptoCard
end Rows
end Go.Proofs.YtcilgpmeliegoaaGreatDoor
