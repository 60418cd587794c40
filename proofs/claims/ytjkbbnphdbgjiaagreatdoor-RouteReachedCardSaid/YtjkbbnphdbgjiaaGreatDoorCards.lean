/-
  DERIVED. GIVEN WITH THE SEED: THE CARDS: each row of YtjkbbnphdbgjiaaGreatDoorRows.lean that lists a variable, with what it lists TIED to the program's text (the seventh form; the later family's looks); each row that meets fmt, with fmt's text TOLD by the authors' own Lean function (tested against real Go, not proved from fmt's source: count such statements apart). THE CARD IS WHAT COUNTS. Prove the row's statement (the work); the ties are given (YtjkbbnphdbgjiaaGreatDoorTie.lean); close each card by the builder's one call (the guide's Derived/Test/ToyasCard.lean, 'card_holds'). Laid BY PROGRAM, IN A SANDBOX (cutbox-door.mjs). By AI agents, Wed Nov 11 2026. No macro, syntax, notation, axiom, sorry.
-/
import Derived.Test.YtjkbbnphdbgjiaaGreatDoorRows
import GoSem.ClaimSeven
namespace Go.Proofs.YtjkbbnphdbgjiaaGreatDoor
namespace Rows

/-- THE TIED CARD OF 'baudotlaw04.RouteClaims'. -/
def routeClaimsCard : Claim7 := { stood := { row := routeClaimsRow, standIns := [], harness := (true, "2c8dd83a2f945dfa03265bc5cb74b84c93a6f6aa22da1d88524b1be5f2b437bb"), looks := false }, kinds := [], alts := [], goes := true, laidByText := true, laidKinds := [.funcs], laidTests := true, laidLooks := .later }
def RouteClaimsCardSaid : Prop := Claim7.holds Tryz.pinned (.plain (OpenSpec.ofChange routeClaimsSpec)) routeClaimsCard

/-- THE TIED CARD OF 'baudotlaw04.RouteMores'. -/
def routeMoresCard : Claim7 := { stood := { row := routeMoresRow, standIns := [], harness := (true, "2c8dd83a2f945dfa03265bc5cb74b84c93a6f6aa22da1d88524b1be5f2b437bb"), looks := false }, kinds := [], alts := [], goes := true, laidByText := true, laidKinds := [.funcs], laidTests := true, laidLooks := .later }
def RouteMoresCardSaid : Prop := Claim7.holds Tryz.pinned (.plain (OpenSpec.ofChange routeMoresSpec)) routeMoresCard

/-- THE TIED CARD OF 'baudotlaw04.RouteDays'. -/
def routeDaysCard : Claim7 := { stood := { row := routeDaysRow, standIns := [], harness := (true, "2c8dd83a2f945dfa03265bc5cb74b84c93a6f6aa22da1d88524b1be5f2b437bb"), looks := false }, kinds := [], alts := [], goes := true, laidByText := true, laidKinds := [.funcs], laidTests := true, laidLooks := .later }
def RouteDaysCardSaid : Prop := Claim7.holds Tryz.pinned (.plain (OpenSpec.ofChange routeDaysSpec)) routeDaysCard

/-- THE TIED CARD OF 'baudotlaw04.RouteReached'. -/
def routeReachedCard : Claim7 := { stood := { row := routeReachedRow, standIns := [], harness := (true, "2c8dd83a2f945dfa03265bc5cb74b84c93a6f6aa22da1d88524b1be5f2b437bb"), looks := false }, kinds := [], alts := [], goes := true, laidByText := true, laidKinds := [.funcs], laidTests := true, laidLooks := .later }
def RouteReachedCardSaid : Prop := Claim7.holds Tryz.pinned (.plain (OpenSpec.ofChange routeReachedSpec)) routeReachedCard

/-- THE SECOND FORM's CARD OF 'baudotlaw04.RouteClaims'. -/
def routeClaimsUptoCard : Claim7 := { stood := { row := routeClaimsUptoRow, standIns := [], harness := (true, "2c8dd83a2f945dfa03265bc5cb74b84c93a6f6aa22da1d88524b1be5f2b437bb"), looks := false }, kinds := [], alts := [], goes := true, laidByText := true, laidKinds := [.funcs], laidTests := true, laidLooks := .later }
def RouteClaimsUptoCardSaid : Prop := Claim7.holds Tryz.pinned (.plain (OpenSpec.upto routeClaimsSpec)) routeClaimsUptoCard

/-- THE SECOND FORM's CARD OF 'baudotlaw04.RouteMores'. -/
def routeMoresUptoCard : Claim7 := { stood := { row := routeMoresUptoRow, standIns := [], harness := (true, "2c8dd83a2f945dfa03265bc5cb74b84c93a6f6aa22da1d88524b1be5f2b437bb"), looks := false }, kinds := [], alts := [], goes := true, laidByText := true, laidKinds := [.funcs], laidTests := true, laidLooks := .later }
def RouteMoresUptoCardSaid : Prop := Claim7.holds Tryz.pinned (.plain (OpenSpec.upto routeMoresSpec)) routeMoresUptoCard

/-- THE SECOND FORM's CARD OF 'baudotlaw04.RouteDays'. -/
def routeDaysUptoCard : Claim7 := { stood := { row := routeDaysUptoRow, standIns := [], harness := (true, "2c8dd83a2f945dfa03265bc5cb74b84c93a6f6aa22da1d88524b1be5f2b437bb"), looks := false }, kinds := [], alts := [], goes := true, laidByText := true, laidKinds := [.funcs], laidTests := true, laidLooks := .later }
def RouteDaysUptoCardSaid : Prop := Claim7.holds Tryz.pinned (.plain (OpenSpec.upto routeDaysSpec)) routeDaysUptoCard

/-- THE SECOND FORM's CARD OF 'baudotlaw04.RouteReached'. -/
def routeReachedUptoCard : Claim7 := { stood := { row := routeReachedUptoRow, standIns := [], harness := (true, "2c8dd83a2f945dfa03265bc5cb74b84c93a6f6aa22da1d88524b1be5f2b437bb"), looks := false }, kinds := [], alts := [], goes := true, laidByText := true, laidKinds := [.funcs], laidTests := true, laidLooks := .later }
def RouteReachedUptoCardSaid : Prop := Claim7.holds Tryz.pinned (.plain (OpenSpec.upto routeReachedSpec)) routeReachedUptoCard
end Rows
end Go.Proofs.YtjkbbnphdbgjiaaGreatDoor
