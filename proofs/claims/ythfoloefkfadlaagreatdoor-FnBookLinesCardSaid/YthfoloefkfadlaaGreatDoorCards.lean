/-
  DERIVED. GIVEN WITH THE SEED: THE CARDS: each row of YthfoloefkfadlaaGreatDoorRows.lean that lists a variable, with what it lists TIED to the program's text (the seventh form; the later family's looks); each row that meets fmt, with fmt's text TOLD by the authors' own Lean function (tested against real Go, not proved from fmt's source: count such statements apart). THE CARD IS WHAT COUNTS. Prove the row's statement (the work); the ties are given (YthfoloefkfadlaaGreatDoorTie.lean); close each card by the builder's one call (the guide's Derived/Test/ToyasCard.lean, 'card_holds'). Laid BY PROGRAM, IN A SANDBOX (cutbox-door.mjs). By AI agents, Wed Nov 11 2026. No macro, syntax, notation, axiom, sorry.
-/
import Derived.Test.YthfoloefkfadlaaGreatDoorRows
import GoSem.ClaimSeven
namespace Go.Proofs.YthfoloefkfadlaaGreatDoor
namespace Rows

/-- THE TIED CARD OF 'laws.FnBookLines'. -/
def fnBookLinesCard : Claim7 := { stood := { row := fnBookLinesRow, standIns := [], harness := (true, "d30634f12b198b43077a1f294d2b94f75c4b51e2f4afc36b9e177f7a4fa88ed7"), looks := true }, kinds := [], alts := [], laidByText := true, laidKinds := [.data, .data, .data, .data, .sentinel, .sentinel, .pinned], laidTests := true, laidLooks := .later }
def FnBookLinesCardSaid : Prop := Claim7.holds Tryz.pinned (.plain (OpenSpec.ofChange fnBookLinesSpec)) fnBookLinesCard

/-- THE TIED CARD OF 'laws.FnExactBookLine'. -/
def fnExactBookLineCard : Claim7 := { stood := { row := fnExactBookLineRow, standIns := [], harness := (true, "d30634f12b198b43077a1f294d2b94f75c4b51e2f4afc36b9e177f7a4fa88ed7"), looks := true }, kinds := [], alts := [], laidByText := true, laidKinds := [.data, .data, .data, .data, .sentinel, .sentinel, .pinned], laidTests := true, laidLooks := .later }
def FnExactBookLineCardSaid : Prop := Claim7.holds Tryz.pinned (.plain (OpenSpec.ofChange fnExactBookLineSpec)) fnExactBookLineCard

/-- THE TIED CARD OF 'laws.FnExactBookLines'. -/
def fnExactBookLinesCard : Claim7 := { stood := { row := fnExactBookLinesRow, standIns := [], harness := (true, "d30634f12b198b43077a1f294d2b94f75c4b51e2f4afc36b9e177f7a4fa88ed7"), looks := true }, kinds := [], alts := [], laidByText := true, laidKinds := [.data, .data, .data, .data, .sentinel, .sentinel, .pinned], laidTests := true, laidLooks := .later }
def FnExactBookLinesCardSaid : Prop := Claim7.holds Tryz.pinned (.plain (OpenSpec.ofChange fnExactBookLinesSpec)) fnExactBookLinesCard

/-- THE TIED CARD OF 'laws.FnBookLine'. -/
def fnBookLineCard : Claim7 := { stood := { row := fnBookLineRow, standIns := [], harness := (true, "d30634f12b198b43077a1f294d2b94f75c4b51e2f4afc36b9e177f7a4fa88ed7"), looks := true }, kinds := [], alts := [], laidByText := true, laidKinds := [.data, .data, .data, .data, .sentinel, .sentinel, .pinned], laidTests := true, laidLooks := .later }
def FnBookLineCardSaid : Prop := Claim7.holds Tryz.pinned (.plain (OpenSpec.ofChange fnBookLineSpec)) fnBookLineCard

/-- THE SECOND FORM's CARD OF 'laws.FnBookLines'. -/
def fnBookLinesUptoCard : Claim7 := { stood := { row := fnBookLinesUptoRow, standIns := [], harness := (true, "d30634f12b198b43077a1f294d2b94f75c4b51e2f4afc36b9e177f7a4fa88ed7"), looks := true }, kinds := [], alts := [], laidByText := true, laidKinds := [.data, .data, .data, .data, .sentinel, .sentinel, .pinned], laidTests := true, laidLooks := .later }
def FnBookLinesUptoCardSaid : Prop := Claim7.holds Tryz.pinned (.plain (OpenSpec.upto fnBookLinesSpec)) fnBookLinesUptoCard

/-- THE SECOND FORM's CARD OF 'laws.FnExactBookLine'. -/
def fnExactBookLineUptoCard : Claim7 := { stood := { row := fnExactBookLineUptoRow, standIns := [], harness := (true, "d30634f12b198b43077a1f294d2b94f75c4b51e2f4afc36b9e177f7a4fa88ed7"), looks := true }, kinds := [], alts := [], laidByText := true, laidKinds := [.data, .data, .data, .data, .sentinel, .sentinel, .pinned], laidTests := true, laidLooks := .later }
def FnExactBookLineUptoCardSaid : Prop := Claim7.holds Tryz.pinned (.plain (OpenSpec.upto fnExactBookLineSpec)) fnExactBookLineUptoCard

/-- THE SECOND FORM's CARD OF 'laws.FnExactBookLines'. -/
def fnExactBookLinesUptoCard : Claim7 := { stood := { row := fnExactBookLinesUptoRow, standIns := [], harness := (true, "d30634f12b198b43077a1f294d2b94f75c4b51e2f4afc36b9e177f7a4fa88ed7"), looks := true }, kinds := [], alts := [], laidByText := true, laidKinds := [.data, .data, .data, .data, .sentinel, .sentinel, .pinned], laidTests := true, laidLooks := .later }
def FnExactBookLinesUptoCardSaid : Prop := Claim7.holds Tryz.pinned (.plain (OpenSpec.upto fnExactBookLinesSpec)) fnExactBookLinesUptoCard

/-- THE SECOND FORM's CARD OF 'laws.FnBookLine'. -/
def fnBookLineUptoCard : Claim7 := { stood := { row := fnBookLineUptoRow, standIns := [], harness := (true, "d30634f12b198b43077a1f294d2b94f75c4b51e2f4afc36b9e177f7a4fa88ed7"), looks := true }, kinds := [], alts := [], laidByText := true, laidKinds := [.data, .data, .data, .data, .sentinel, .sentinel, .pinned], laidTests := true, laidLooks := .later }
def FnBookLineUptoCardSaid : Prop := Claim7.holds Tryz.pinned (.plain (OpenSpec.upto fnBookLineSpec)) fnBookLineUptoCard
end Rows
end Go.Proofs.YthfoloefkfadlaaGreatDoor
