/-
  DERIVED. GIVEN WITH THE SEED: THE CARDS: each row of YtnjpifaphmeepaaDoorRows.lean that lists a variable, with what it lists TIED to the program's text (the seventh form; the later family's looks); each row that meets fmt, with fmt's text TOLD by the authors' own Lean function (tested against real Go, not proved from fmt's source: count such statements apart). THE CARD IS WHAT COUNTS. Prove the row's statement (the work); the ties are given (YtnjpifaphmeepaaDoorTie.lean); close each card by the builder's one call (the guide's Derived/Test/ToyasCard.lean, 'card_holds'). Laid BY PROGRAM, IN A SANDBOX (cutbox-door.mjs). By AI agents, Wed Nov 11 2026. No macro, syntax, notation, axiom, sorry.
-/
import Derived.Test.YtnjpifaphmeepaaDoorRows
import GoSem.ClaimSeven
namespace Go.Proofs.YtnjpifaphmeepaaDoor
namespace Rows

/-- THE TIED CARD OF 'laws.FnPitValid'. -/
def fnPitValidCard : Claim7 := { stood := { row := fnPitValidRow, standIns := [], harness := (true, "e28c54409799b9ff8f10adc1971031b54e22106f4c06c8e9160e1f61d849e5a4"), looks := false }, kinds := [], alts := [], laidByText := true, laidKinds := [.data, .data, .data], laidTests := true, laidLooks := .later }
def FnPitValidCardSaid : Prop := Claim7.holds Tryd.pinned (.plain (OpenSpec.ofChange fnPitValidSpec)) fnPitValidCard

/-- THE TIED CARD OF 'laws.FnPitClose'. -/
def fnPitCloseCard : Claim7 := { stood := { row := fnPitCloseRow, standIns := [], harness := (true, "e28c54409799b9ff8f10adc1971031b54e22106f4c06c8e9160e1f61d849e5a4"), looks := false }, kinds := [], alts := [], laidByText := true, laidKinds := [.data, .data, .data], laidTests := true, laidLooks := .later }
def FnPitCloseCardSaid : Prop := Claim7.holds Tryd.pinned (.plain (OpenSpec.ofChange fnPitCloseSpec)) fnPitCloseCard

/-- THE TIED CARD OF 'laws.FnPitCut'. -/
def fnPitCutCard : Claim7 := { stood := { row := fnPitCutRow, standIns := [], harness := (true, "e28c54409799b9ff8f10adc1971031b54e22106f4c06c8e9160e1f61d849e5a4"), looks := false }, kinds := [], alts := [], laidByText := true, laidKinds := [.data, .data, .data], laidTests := true, laidLooks := .later }
def FnPitCutCardSaid : Prop := Claim7.holds Tryd.pinned (.plain (OpenSpec.ofChange fnPitCutSpec)) fnPitCutCard

/-- THE TIED CARD OF 'laws.FnPitOrder'. -/
def fnPitOrderCard : Claim7 := { stood := { row := fnPitOrderRow, standIns := [], harness := (true, "e28c54409799b9ff8f10adc1971031b54e22106f4c06c8e9160e1f61d849e5a4"), looks := false }, kinds := [], alts := [], laidByText := true, laidKinds := [.data, .data, .data], laidTests := true, laidLooks := .later }
def FnPitOrderCardSaid : Prop := Claim7.holds Tryd.pinned (.plain (OpenSpec.ofChange fnPitOrderSpec)) fnPitOrderCard

/-- THE TIED CARD OF 'laws.FnPitFull'. -/
def fnPitFullCard : Claim7 := { stood := { row := fnPitFullRow, standIns := [], harness := (true, "e28c54409799b9ff8f10adc1971031b54e22106f4c06c8e9160e1f61d849e5a4"), looks := false }, kinds := [], alts := [], laidByText := true, laidKinds := [.data, .data, .data], laidTests := true, laidLooks := .later }
def FnPitFullCardSaid : Prop := Claim7.holds Tryd.pinned (.plain (OpenSpec.ofChange fnPitFullSpec)) fnPitFullCard

/-- THE TIED CARD OF 'laws.FnPitMost'. -/
def fnPitMostCard : Claim7 := { stood := { row := fnPitMostRow, standIns := [], harness := (true, "e28c54409799b9ff8f10adc1971031b54e22106f4c06c8e9160e1f61d849e5a4"), looks := false }, kinds := [], alts := [], laidByText := true, laidKinds := [.data, .data, .data], laidTests := true, laidLooks := .later }
def FnPitMostCardSaid : Prop := Claim7.holds Tryd.pinned (.plain (OpenSpec.ofChange fnPitMostSpec)) fnPitMostCard

/-- THE TIED CARD OF 'laws.FnPayOk'. -/
def fnPayOkCard : Claim7 := { stood := { row := fnPayOkRow, standIns := [], harness := (true, "e28c54409799b9ff8f10adc1971031b54e22106f4c06c8e9160e1f61d849e5a4"), looks := false }, kinds := [], alts := [], laidByText := true, laidKinds := [.data, .data, .data], laidTests := true, laidLooks := .later }
def FnPayOkCardSaid : Prop := Claim7.holds Tryd.pinned (.plain (OpenSpec.ofChange fnPayOkSpec)) fnPayOkCard

/-- THE TIED CARD OF 'laws.FnPitMay'. -/
def fnPitMayCard : Claim7 := { stood := { row := fnPitMayRow, standIns := [], harness := (true, "e28c54409799b9ff8f10adc1971031b54e22106f4c06c8e9160e1f61d849e5a4"), looks := false }, kinds := [], alts := [], laidByText := true, laidKinds := [.data, .data, .data], laidTests := true, laidLooks := .later }
def FnPitMayCardSaid : Prop := Claim7.holds Tryd.pinned (.plain (OpenSpec.ofChange fnPitMaySpec)) fnPitMayCard

/-- THE TIED CARD OF 'laws.FnPitDirect'. -/
def fnPitDirectCard : Claim7 := { stood := { row := fnPitDirectRow, standIns := [], harness := (true, "e28c54409799b9ff8f10adc1971031b54e22106f4c06c8e9160e1f61d849e5a4"), looks := false }, kinds := [], alts := [], laidByText := true, laidKinds := [.data, .data, .data], laidTests := true, laidLooks := .later }
def FnPitDirectCardSaid : Prop := Claim7.holds Tryd.pinned (.plain (OpenSpec.ofChange fnPitDirectSpec)) fnPitDirectCard

/-- THE TIED CARD OF 'laws.FnPitBest'. -/
def fnPitBestCard : Claim7 := { stood := { row := fnPitBestRow, standIns := [], harness := (true, "e28c54409799b9ff8f10adc1971031b54e22106f4c06c8e9160e1f61d849e5a4"), looks := false }, kinds := [], alts := [], laidByText := true, laidKinds := [.data, .data, .data], laidTests := true, laidLooks := .later }
def FnPitBestCardSaid : Prop := Claim7.holds Tryd.pinned (.plain (OpenSpec.ofChange fnPitBestSpec)) fnPitBestCard

/-- THE TIED CARD OF 'laws.FnPitRaise'. -/
def fnPitRaiseCard : Claim7 := { stood := { row := fnPitRaiseRow, standIns := [], harness := (true, "e28c54409799b9ff8f10adc1971031b54e22106f4c06c8e9160e1f61d849e5a4"), looks := false }, kinds := [], alts := [], laidByText := true, laidKinds := [.data, .data, .data], laidTests := true, laidLooks := .later }
def FnPitRaiseCardSaid : Prop := Claim7.holds Tryd.pinned (.plain (OpenSpec.ofChange fnPitRaiseSpec)) fnPitRaiseCard

/-- THE TIED CARD OF 'laws.FnPitWorth'. -/
def fnPitWorthCard : Claim7 := { stood := { row := fnPitWorthRow, standIns := [], harness := (true, "e28c54409799b9ff8f10adc1971031b54e22106f4c06c8e9160e1f61d849e5a4"), looks := false }, kinds := [], alts := [], laidByText := true, laidKinds := [.data, .data, .data], laidTests := true, laidLooks := .later }
def FnPitWorthCardSaid : Prop := Claim7.holds Tryd.pinned (.plain (OpenSpec.ofChange fnPitWorthSpec)) fnPitWorthCard

/-- THE TIED CARD OF 'laws.FnPaySum'. -/
def fnPaySumCard : Claim7 := { stood := { row := fnPaySumRow, standIns := [], harness := (true, "e28c54409799b9ff8f10adc1971031b54e22106f4c06c8e9160e1f61d849e5a4"), looks := false }, kinds := [], alts := [], laidByText := true, laidKinds := [.data, .data, .data], laidTests := true, laidLooks := .later }
def FnPaySumCardSaid : Prop := Claim7.holds Tryd.pinned (.plain (OpenSpec.ofChange fnPaySumSpec)) fnPaySumCard

/-- THE TIED CARD OF 'laws.FnPayMost'. -/
def fnPayMostCard : Claim7 := { stood := { row := fnPayMostRow, standIns := [], harness := (true, "e28c54409799b9ff8f10adc1971031b54e22106f4c06c8e9160e1f61d849e5a4"), looks := false }, kinds := [], alts := [], laidByText := true, laidKinds := [.data, .data, .data], laidTests := true, laidLooks := .later }
def FnPayMostCardSaid : Prop := Claim7.holds Tryd.pinned (.plain (OpenSpec.ofChange fnPayMostSpec)) fnPayMostCard

/-- THE SECOND FORM's CARD OF 'laws.FnPitValid'. -/
def fnPitValidUptoCard : Claim7 := { stood := { row := fnPitValidUptoRow, standIns := [], harness := (true, "e28c54409799b9ff8f10adc1971031b54e22106f4c06c8e9160e1f61d849e5a4"), looks := false }, kinds := [], alts := [], laidByText := true, laidKinds := [.data, .data, .data], laidTests := true, laidLooks := .later }
def FnPitValidUptoCardSaid : Prop := Claim7.holds Tryd.pinned (.plain (OpenSpec.upto fnPitValidSpec)) fnPitValidUptoCard

/-- THE SECOND FORM's CARD OF 'laws.FnPitClose'. -/
def fnPitCloseUptoCard : Claim7 := { stood := { row := fnPitCloseUptoRow, standIns := [], harness := (true, "e28c54409799b9ff8f10adc1971031b54e22106f4c06c8e9160e1f61d849e5a4"), looks := false }, kinds := [], alts := [], laidByText := true, laidKinds := [.data, .data, .data], laidTests := true, laidLooks := .later }
def FnPitCloseUptoCardSaid : Prop := Claim7.holds Tryd.pinned (.plain (OpenSpec.upto fnPitCloseSpec)) fnPitCloseUptoCard

/-- THE SECOND FORM's CARD OF 'laws.FnPitCut'. -/
def fnPitCutUptoCard : Claim7 := { stood := { row := fnPitCutUptoRow, standIns := [], harness := (true, "e28c54409799b9ff8f10adc1971031b54e22106f4c06c8e9160e1f61d849e5a4"), looks := false }, kinds := [], alts := [], laidByText := true, laidKinds := [.data, .data, .data], laidTests := true, laidLooks := .later }
def FnPitCutUptoCardSaid : Prop := Claim7.holds Tryd.pinned (.plain (OpenSpec.upto fnPitCutSpec)) fnPitCutUptoCard

/-- THE SECOND FORM's CARD OF 'laws.FnPitOrder'. -/
def fnPitOrderUptoCard : Claim7 := { stood := { row := fnPitOrderUptoRow, standIns := [], harness := (true, "e28c54409799b9ff8f10adc1971031b54e22106f4c06c8e9160e1f61d849e5a4"), looks := false }, kinds := [], alts := [], laidByText := true, laidKinds := [.data, .data, .data], laidTests := true, laidLooks := .later }
def FnPitOrderUptoCardSaid : Prop := Claim7.holds Tryd.pinned (.plain (OpenSpec.upto fnPitOrderSpec)) fnPitOrderUptoCard

/-- THE SECOND FORM's CARD OF 'laws.FnPitFull'. -/
def fnPitFullUptoCard : Claim7 := { stood := { row := fnPitFullUptoRow, standIns := [], harness := (true, "e28c54409799b9ff8f10adc1971031b54e22106f4c06c8e9160e1f61d849e5a4"), looks := false }, kinds := [], alts := [], laidByText := true, laidKinds := [.data, .data, .data], laidTests := true, laidLooks := .later }
def FnPitFullUptoCardSaid : Prop := Claim7.holds Tryd.pinned (.plain (OpenSpec.upto fnPitFullSpec)) fnPitFullUptoCard

/-- THE SECOND FORM's CARD OF 'laws.FnPitMost'. -/
def fnPitMostUptoCard : Claim7 := { stood := { row := fnPitMostUptoRow, standIns := [], harness := (true, "e28c54409799b9ff8f10adc1971031b54e22106f4c06c8e9160e1f61d849e5a4"), looks := false }, kinds := [], alts := [], laidByText := true, laidKinds := [.data, .data, .data], laidTests := true, laidLooks := .later }
def FnPitMostUptoCardSaid : Prop := Claim7.holds Tryd.pinned (.plain (OpenSpec.upto fnPitMostSpec)) fnPitMostUptoCard

/-- THE SECOND FORM's CARD OF 'laws.FnPayOk'. -/
def fnPayOkUptoCard : Claim7 := { stood := { row := fnPayOkUptoRow, standIns := [], harness := (true, "e28c54409799b9ff8f10adc1971031b54e22106f4c06c8e9160e1f61d849e5a4"), looks := false }, kinds := [], alts := [], laidByText := true, laidKinds := [.data, .data, .data], laidTests := true, laidLooks := .later }
def FnPayOkUptoCardSaid : Prop := Claim7.holds Tryd.pinned (.plain (OpenSpec.upto fnPayOkSpec)) fnPayOkUptoCard

/-- THE SECOND FORM's CARD OF 'laws.FnPitMay'. -/
def fnPitMayUptoCard : Claim7 := { stood := { row := fnPitMayUptoRow, standIns := [], harness := (true, "e28c54409799b9ff8f10adc1971031b54e22106f4c06c8e9160e1f61d849e5a4"), looks := false }, kinds := [], alts := [], laidByText := true, laidKinds := [.data, .data, .data], laidTests := true, laidLooks := .later }
def FnPitMayUptoCardSaid : Prop := Claim7.holds Tryd.pinned (.plain (OpenSpec.upto fnPitMaySpec)) fnPitMayUptoCard

/-- THE SECOND FORM's CARD OF 'laws.FnPitDirect'. -/
def fnPitDirectUptoCard : Claim7 := { stood := { row := fnPitDirectUptoRow, standIns := [], harness := (true, "e28c54409799b9ff8f10adc1971031b54e22106f4c06c8e9160e1f61d849e5a4"), looks := false }, kinds := [], alts := [], laidByText := true, laidKinds := [.data, .data, .data], laidTests := true, laidLooks := .later }
def FnPitDirectUptoCardSaid : Prop := Claim7.holds Tryd.pinned (.plain (OpenSpec.upto fnPitDirectSpec)) fnPitDirectUptoCard

/-- THE SECOND FORM's CARD OF 'laws.FnPitBest'. -/
def fnPitBestUptoCard : Claim7 := { stood := { row := fnPitBestUptoRow, standIns := [], harness := (true, "e28c54409799b9ff8f10adc1971031b54e22106f4c06c8e9160e1f61d849e5a4"), looks := false }, kinds := [], alts := [], laidByText := true, laidKinds := [.data, .data, .data], laidTests := true, laidLooks := .later }
def FnPitBestUptoCardSaid : Prop := Claim7.holds Tryd.pinned (.plain (OpenSpec.upto fnPitBestSpec)) fnPitBestUptoCard

/-- THE SECOND FORM's CARD OF 'laws.FnPitRaise'. -/
def fnPitRaiseUptoCard : Claim7 := { stood := { row := fnPitRaiseUptoRow, standIns := [], harness := (true, "e28c54409799b9ff8f10adc1971031b54e22106f4c06c8e9160e1f61d849e5a4"), looks := false }, kinds := [], alts := [], laidByText := true, laidKinds := [.data, .data, .data], laidTests := true, laidLooks := .later }
def FnPitRaiseUptoCardSaid : Prop := Claim7.holds Tryd.pinned (.plain (OpenSpec.upto fnPitRaiseSpec)) fnPitRaiseUptoCard

/-- THE SECOND FORM's CARD OF 'laws.FnPitWorth'. -/
def fnPitWorthUptoCard : Claim7 := { stood := { row := fnPitWorthUptoRow, standIns := [], harness := (true, "e28c54409799b9ff8f10adc1971031b54e22106f4c06c8e9160e1f61d849e5a4"), looks := false }, kinds := [], alts := [], laidByText := true, laidKinds := [.data, .data, .data], laidTests := true, laidLooks := .later }
def FnPitWorthUptoCardSaid : Prop := Claim7.holds Tryd.pinned (.plain (OpenSpec.upto fnPitWorthSpec)) fnPitWorthUptoCard

/-- THE SECOND FORM's CARD OF 'laws.FnPaySum'. -/
def fnPaySumUptoCard : Claim7 := { stood := { row := fnPaySumUptoRow, standIns := [], harness := (true, "e28c54409799b9ff8f10adc1971031b54e22106f4c06c8e9160e1f61d849e5a4"), looks := false }, kinds := [], alts := [], laidByText := true, laidKinds := [.data, .data, .data], laidTests := true, laidLooks := .later }
def FnPaySumUptoCardSaid : Prop := Claim7.holds Tryd.pinned (.plain (OpenSpec.upto fnPaySumSpec)) fnPaySumUptoCard

/-- THE SECOND FORM's CARD OF 'laws.FnPayMost'. -/
def fnPayMostUptoCard : Claim7 := { stood := { row := fnPayMostUptoRow, standIns := [], harness := (true, "e28c54409799b9ff8f10adc1971031b54e22106f4c06c8e9160e1f61d849e5a4"), looks := false }, kinds := [], alts := [], laidByText := true, laidKinds := [.data, .data, .data], laidTests := true, laidLooks := .later }
def FnPayMostUptoCardSaid : Prop := Claim7.holds Tryd.pinned (.plain (OpenSpec.upto fnPayMostSpec)) fnPayMostUptoCard
end Rows
end Go.Proofs.YtnjpifaphmeepaaDoor
