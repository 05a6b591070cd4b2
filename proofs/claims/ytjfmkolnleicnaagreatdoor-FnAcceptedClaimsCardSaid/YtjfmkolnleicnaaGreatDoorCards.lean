/-
  DERIVED. GIVEN WITH THE SEED: THE CARDS: each row of YtjfmkolnleicnaaGreatDoorRows.lean that lists a variable, with what it lists TIED to the program's text (the seventh form; the later family's looks); each row that meets fmt, with fmt's text TOLD by the authors' own Lean function (tested against real Go, not proved from fmt's source: count such statements apart). THE CARD IS WHAT COUNTS. Prove the row's statement (the work); the ties are given (YtjfmkolnleicnaaGreatDoorTie.lean); close each card by the builder's one call (the guide's Derived/Test/ToyasCard.lean, 'card_holds'). Laid BY PROGRAM, IN A SANDBOX (cutbox-door.mjs). By AI agents, Wed Nov 11 2026. No macro, syntax, notation, axiom, sorry.
-/
import Derived.Test.YtjfmkolnleicnaaGreatDoorRows
import GoSem.ClaimSeven
namespace Go.Proofs.YtjfmkolnleicnaaGreatDoor
namespace Rows

/-- THE TIED CARD OF 'laws.FnAcceptedClaims'. -/
def fnAcceptedClaimsCard : Claim7 := { stood := { row := fnAcceptedClaimsRow, standIns := [], harness := (true, "9288c3dd8629bc2865351ec0c179dcaaf01fcc1017579248a2560fac4606a893"), looks := false }, kinds := [], alts := [], laidByText := true, laidKinds := [.data, .data, .data], laidTests := true, laidLooks := .later }
def FnAcceptedClaimsCardSaid : Prop := Claim7.holds Tryz.pinned (.plain (OpenSpec.ofChange fnAcceptedClaimsSpec)) fnAcceptedClaimsCard

/-- THE SECOND FORM's CARD OF 'laws.FnAcceptedClaims'. -/
def fnAcceptedClaimsUptoCard : Claim7 := { stood := { row := fnAcceptedClaimsUptoRow, standIns := [], harness := (true, "9288c3dd8629bc2865351ec0c179dcaaf01fcc1017579248a2560fac4606a893"), looks := false }, kinds := [], alts := [], laidByText := true, laidKinds := [.data, .data, .data], laidTests := true, laidLooks := .later }
def FnAcceptedClaimsUptoCardSaid : Prop := Claim7.holds Tryz.pinned (.plain (OpenSpec.upto fnAcceptedClaimsSpec)) fnAcceptedClaimsUptoCard
end Rows
end Go.Proofs.YtjfmkolnleicnaaGreatDoor
