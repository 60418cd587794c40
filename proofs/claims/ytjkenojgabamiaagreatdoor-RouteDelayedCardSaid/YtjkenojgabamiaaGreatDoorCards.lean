/-
  DERIVED. GIVEN WITH THE SEED: THE CARDS: each row of YtjkenojgabamiaaGreatDoorRows.lean that lists a variable, with what it lists TIED to the program's text (the seventh form; the later family's looks); each row that meets fmt, with fmt's text TOLD by the authors' own Lean function (tested against real Go, not proved from fmt's source: count such statements apart). THE CARD IS WHAT COUNTS. Prove the row's statement (the work); the ties are given (YtjkenojgabamiaaGreatDoorTie.lean); close each card by the builder's one call (the guide's Derived/Test/ToyasCard.lean, 'card_holds'). Laid BY PROGRAM, IN A SANDBOX (cutbox-door.mjs). By AI agents, Wed Nov 11 2026. No macro, syntax, notation, axiom, sorry.
-/
import Derived.Test.YtjkenojgabamiaaGreatDoorRows
import GoSem.ClaimSeven
namespace Go.Proofs.YtjkenojgabamiaaGreatDoor
namespace Rows

/-- THE TIED CARD OF 'baudotlaw04.RouteClaims'. -/
def routeClaimsCard : Claim7 := { stood := { row := routeClaimsRow, standIns := [], harness := (true, "1dbb8d4427cf75c7c3cc0861ab068c3be9d5ec99d0f6f21e675cad56a0433baf"), looks := false }, kinds := [], alts := [], goes := true, laidByText := true, laidKinds := [.funcs], laidTests := true, laidLooks := .later }
def RouteClaimsCardSaid : Prop := Claim7.holds Tryz.pinned (.plain (OpenSpec.ofChange routeClaimsSpec)) routeClaimsCard

/-- THE TIED CARD OF 'baudotlaw04.RouteFirst'. -/
def routeFirstCard : Claim7 := { stood := { row := routeFirstRow, standIns := [], harness := (true, "1dbb8d4427cf75c7c3cc0861ab068c3be9d5ec99d0f6f21e675cad56a0433baf"), looks := false }, kinds := [], alts := [], goes := true, laidByText := true, laidKinds := [.funcs], laidTests := true, laidLooks := .later }
def RouteFirstCardSaid : Prop := Claim7.holds Tryz.pinned (.plain (OpenSpec.ofChange routeFirstSpec)) routeFirstCard

/-- THE TIED CARD OF 'baudotlaw04.RouteLater'. -/
def routeLaterCard : Claim7 := { stood := { row := routeLaterRow, standIns := [], harness := (true, "1dbb8d4427cf75c7c3cc0861ab068c3be9d5ec99d0f6f21e675cad56a0433baf"), looks := false }, kinds := [], alts := [], goes := true, laidByText := true, laidKinds := [.funcs], laidTests := true, laidLooks := .later }
def RouteLaterCardSaid : Prop := Claim7.holds Tryz.pinned (.plain (OpenSpec.ofChange routeLaterSpec)) routeLaterCard

/-- THE TIED CARD OF 'baudotlaw04.RouteDelayed'. -/
def routeDelayedCard : Claim7 := { stood := { row := routeDelayedRow, standIns := [], harness := (true, "1dbb8d4427cf75c7c3cc0861ab068c3be9d5ec99d0f6f21e675cad56a0433baf"), looks := false }, kinds := [], alts := [], goes := true, laidByText := true, laidKinds := [.funcs], laidTests := true, laidLooks := .later }
def RouteDelayedCardSaid : Prop := Claim7.holds Tryz.pinned (.plain (OpenSpec.ofChange routeDelayedSpec)) routeDelayedCard

/-- THE SECOND FORM's CARD OF 'baudotlaw04.RouteClaims'. -/
def routeClaimsUptoCard : Claim7 := { stood := { row := routeClaimsUptoRow, standIns := [], harness := (true, "1dbb8d4427cf75c7c3cc0861ab068c3be9d5ec99d0f6f21e675cad56a0433baf"), looks := false }, kinds := [], alts := [], goes := true, laidByText := true, laidKinds := [.funcs], laidTests := true, laidLooks := .later }
def RouteClaimsUptoCardSaid : Prop := Claim7.holds Tryz.pinned (.plain (OpenSpec.upto routeClaimsSpec)) routeClaimsUptoCard

/-- THE SECOND FORM's CARD OF 'baudotlaw04.RouteFirst'. -/
def routeFirstUptoCard : Claim7 := { stood := { row := routeFirstUptoRow, standIns := [], harness := (true, "1dbb8d4427cf75c7c3cc0861ab068c3be9d5ec99d0f6f21e675cad56a0433baf"), looks := false }, kinds := [], alts := [], goes := true, laidByText := true, laidKinds := [.funcs], laidTests := true, laidLooks := .later }
def RouteFirstUptoCardSaid : Prop := Claim7.holds Tryz.pinned (.plain (OpenSpec.upto routeFirstSpec)) routeFirstUptoCard

/-- THE SECOND FORM's CARD OF 'baudotlaw04.RouteLater'. -/
def routeLaterUptoCard : Claim7 := { stood := { row := routeLaterUptoRow, standIns := [], harness := (true, "1dbb8d4427cf75c7c3cc0861ab068c3be9d5ec99d0f6f21e675cad56a0433baf"), looks := false }, kinds := [], alts := [], goes := true, laidByText := true, laidKinds := [.funcs], laidTests := true, laidLooks := .later }
def RouteLaterUptoCardSaid : Prop := Claim7.holds Tryz.pinned (.plain (OpenSpec.upto routeLaterSpec)) routeLaterUptoCard

/-- THE SECOND FORM's CARD OF 'baudotlaw04.RouteDelayed'. -/
def routeDelayedUptoCard : Claim7 := { stood := { row := routeDelayedUptoRow, standIns := [], harness := (true, "1dbb8d4427cf75c7c3cc0861ab068c3be9d5ec99d0f6f21e675cad56a0433baf"), looks := false }, kinds := [], alts := [], goes := true, laidByText := true, laidKinds := [.funcs], laidTests := true, laidLooks := .later }
def RouteDelayedUptoCardSaid : Prop := Claim7.holds Tryz.pinned (.plain (OpenSpec.upto routeDelayedSpec)) routeDelayedUptoCard
end Rows
end Go.Proofs.YtjkenojgabamiaaGreatDoor
