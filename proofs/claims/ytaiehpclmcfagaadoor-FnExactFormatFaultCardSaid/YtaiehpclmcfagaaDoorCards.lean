/-
  DERIVED. GIVEN WITH THE SEED: THE CARDS: each row of YtaiehpclmcfagaaDoorRows.lean that lists a variable, with what it lists TIED to the program's text (the seventh form; the later family's looks); each row that meets fmt, with fmt's text TOLD by the authors' own Lean function (tested against real Go, not proved from fmt's source: count such statements apart). THE CARD IS WHAT COUNTS. Prove the row's statement (the work); the ties are given (YtaiehpclmcfagaaDoorTie.lean); close each card by the builder's one call (the guide's Derived/Test/ToyasCard.lean, 'card_holds'). Laid BY PROGRAM, IN A SANDBOX (cutbox-door.mjs). By AI agents, Wed Nov 11 2026. No macro, syntax, notation, axiom, sorry.
-/
import Derived.Test.YtaiehpclmcfagaaDoorRows
import GoSem.ClaimSeven
namespace Go.Proofs.YtaiehpclmcfagaaDoor
namespace Rows

/-- THE TIED CARD OF 'laws.FnExactFormatFault'. -/
def fnExactFormatFaultCard : Claim7 := { stood := { row := fnExactFormatFaultRow, standIns := [], harness := (true, "d22eadfc0ac05d1fb37bad3594d5f689c4d4f829292dd507a1ef7ce6e9d2a85d"), looks := false }, kinds := [], alts := [], laidByText := true, laidKinds := [.data, .data, .data, .data], laidTests := true, laidLooks := .later }
def FnExactFormatFaultCardSaid : Prop := Claim7.holds Tryd.pinned (.plain (OpenSpec.ofChange fnExactFormatFaultSpec)) fnExactFormatFaultCard

/-- THE TIED CARD OF 'laws.FnExactFormatClaim'. -/
def fnExactFormatClaimCard : Claim7 := { stood := { row := fnExactFormatClaimRow, standIns := [], harness := (true, "d22eadfc0ac05d1fb37bad3594d5f689c4d4f829292dd507a1ef7ce6e9d2a85d"), looks := false }, kinds := [], alts := [], laidByText := true, laidKinds := [.data, .data, .data], laidTests := true, laidLooks := .later }
def FnExactFormatClaimCardSaid : Prop := Claim7.holds Tryd.pinned (.plain (OpenSpec.ofChange fnExactFormatClaimSpec)) fnExactFormatClaimCard

/-- THE SECOND FORM's CARD OF 'laws.FnExactFormatFault'. -/
def fnExactFormatFaultUptoCard : Claim7 := { stood := { row := fnExactFormatFaultUptoRow, standIns := [], harness := (true, "d22eadfc0ac05d1fb37bad3594d5f689c4d4f829292dd507a1ef7ce6e9d2a85d"), looks := false }, kinds := [], alts := [], laidByText := true, laidKinds := [.data, .data, .data, .data], laidTests := true, laidLooks := .later }
def FnExactFormatFaultUptoCardSaid : Prop := Claim7.holds Tryd.pinned (.plain (OpenSpec.upto fnExactFormatFaultSpec)) fnExactFormatFaultUptoCard

/-- THE SECOND FORM's CARD OF 'laws.FnExactFormatClaim'. -/
def fnExactFormatClaimUptoCard : Claim7 := { stood := { row := fnExactFormatClaimUptoRow, standIns := [], harness := (true, "d22eadfc0ac05d1fb37bad3594d5f689c4d4f829292dd507a1ef7ce6e9d2a85d"), looks := false }, kinds := [], alts := [], laidByText := true, laidKinds := [.data, .data, .data], laidTests := true, laidLooks := .later }
def FnExactFormatClaimUptoCardSaid : Prop := Claim7.holds Tryd.pinned (.plain (OpenSpec.upto fnExactFormatClaimSpec)) fnExactFormatClaimUptoCard
end Rows
end Go.Proofs.YtaiehpclmcfagaaDoor
