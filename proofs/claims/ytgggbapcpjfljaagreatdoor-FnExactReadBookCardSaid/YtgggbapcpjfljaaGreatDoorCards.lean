/-
  DERIVED. GIVEN WITH THE SEED: THE CARDS: each row of YtgggbapcpjfljaaGreatDoorRows.lean that lists a variable, with what it lists TIED to the program's text (the seventh form; the later family's looks); each row that meets fmt, with fmt's text TOLD by the authors' own Lean function (tested against real Go, not proved from fmt's source: count such statements apart). THE CARD IS WHAT COUNTS. Prove the row's statement (the work); the ties are given (YtgggbapcpjfljaaGreatDoorTie.lean); close each card by the builder's one call (the guide's Derived/Test/ToyasCard.lean, 'card_holds'). Laid BY PROGRAM, IN A SANDBOX (cutbox-door.mjs). By AI agents, Wed Nov 11 2026. No macro, syntax, notation, axiom, sorry.
-/
import Derived.Test.YtgggbapcpjfljaaGreatDoorRows
import GoSem.ClaimSeven
namespace Go.Proofs.YtgggbapcpjfljaaGreatDoor
namespace Rows

/-- THE TIED CARD OF 'laws.FnExactReadBook'. -/
def fnExactReadBookCard : Claim7 := { stood := { row := fnExactReadBookRow, standIns := [], harness := (true, "da27344a29eacef3d5ae667a359c1df823a42d09708429a1e8fe4e324c64459a"), looks := true }, kinds := [], alts := [], laidByText := true, laidKinds := [.data, .data, .data, .data, .sentinel, .sentinel, .pinned], laidTests := true, laidLooks := .later }
def FnExactReadBookCardSaid : Prop := Claim7.holds Tryz.pinned (.plain (OpenSpec.ofChange fnExactReadBookSpec)) fnExactReadBookCard

/-- THE SECOND FORM's CARD OF 'laws.FnExactReadBook'. -/
def fnExactReadBookUptoCard : Claim7 := { stood := { row := fnExactReadBookUptoRow, standIns := [], harness := (true, "da27344a29eacef3d5ae667a359c1df823a42d09708429a1e8fe4e324c64459a"), looks := true }, kinds := [], alts := [], laidByText := true, laidKinds := [.data, .data, .data, .data, .sentinel, .sentinel, .pinned], laidTests := true, laidLooks := .later }
def FnExactReadBookUptoCardSaid : Prop := Claim7.holds Tryz.pinned (.plain (OpenSpec.upto fnExactReadBookSpec)) fnExactReadBookUptoCard
end Rows
end Go.Proofs.YtgggbapcpjfljaaGreatDoor
