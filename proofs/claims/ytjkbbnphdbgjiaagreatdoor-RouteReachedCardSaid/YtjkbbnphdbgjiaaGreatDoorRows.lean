/-
  NARROWER THAN 'FOR EVERY INPUT', by the rows' own cells (each row's printed sentence says how): RouteClaims: laid · RouteMores: laid · RouteDays: laid · RouteReached: laid.
  DERIVED. THE GIVEN ROWS OF THIS SEAT. 4 by the template 'for every input the law returns true; each argument reads behind the call as it read before'; 0 by the template 'total and deterministic' (their statements: YtjkbbnphdbgjiaaGreatDoorTotals.lean).
  GIVEN WITH THE SEED: the statements are not yours to turn. If you find one false, say at which input.
  Laid BY PROGRAM, IN A SANDBOX (cutbox-rows.mjs): the forced cells as the released guide's own fill.sh prints them over the translation b0a4bdbcdd40a6f1… (all of the seat's roots in one cut). By AI agents, Wed Nov 11 2026. No macro, syntax, notation, axiom, sorry.
-/
import Derived.Test.YtjkbbnphdbgjiaaGreatDoorChecked
import GoSem.Claim
import GoSem.ClaimJoined
import GoSem.ClaimMapViews
import Derived.JoinedTies
import Derived.KernelRfl
namespace Go.Proofs.YtjkbbnphdbgjiaaGreatDoor
/- THE CELL 'sum', in the pinned program and in every row, IS THE sha256 OF THE DUMP (.gsa) THAT YtjkbbnphdbgjiaaGreatDoorProg.lean LOADS. Nothing in Lean hashes anything: it is a label: what it is worth is what the hold of that sum in a sandbox is worth. -/
noncomputable def Tryz.pinned : Pinned := { name := "ytjkbbnphdbgjiaagreatdoor", sum := "b0a4bdbcdd40a6f1fce3dae9b3a3366123d6595863eb2778b77d3fadf05f1225", checked := Tryz.checked }
namespace Rows
def none {H : Type} : Left H := { results := [], args := [] }

/- WHAT THE LISTED PACKAGE-LEVEL VARIABLES READ AS WHEN THE CALL BEGINS. Each datum BY PROGRAM (the guide's laid-datum.mjs) off the statement by which the dump's own 'gosem.cut.vars' lays the variable. In a bare row this is a premise. The card (YtjkbbnphdbgjiaaGreatDoorCards.lean) ties it to the program's text. -/
def laid_baudot_route_checks {H : Type} : DataW H := .iface "func table" (.agg [.iface "func" (.lit (.string [40, 98, 97, 117, 100, 111, 116, 47, 114, 111, 117, 116, 101, 46, 100, 97, 121, 41, 46, 116, 111, 119, 110, 115])), .iface "func" (.lit (.string [40, 98, 97, 117, 100, 111, 116, 47, 114, 111, 117, 116, 101, 46, 100, 97, 121, 41, 46, 103, 114, 111, 117, 112, 115])), .iface "func" (.lit (.string [40, 98, 97, 117, 100, 111, 116, 47, 114, 111, 117, 116, 101, 46, 100, 97, 121, 41, 46, 111, 114, 100, 101, 114, 115])), .iface "func" (.lit (.string [40, 98, 97, 117, 100, 111, 116, 47, 114, 111, 117, 116, 101, 46, 100, 97, 121, 41, 46, 104, 111, 108, 100, 115])), .iface "func" (.lit (.string [40, 98, 97, 117, 100, 111, 116, 47, 114, 111, 117, 116, 101, 46, 100, 97, 121, 41, 46, 99, 97, 108, 108, 115]))])

/-- 'baudotlaw04.RouteClaims': WHATEVER THE INPUT: true; the input reads as it did. -/
def routeClaimsSpec : ChangeSpec := { name := "routeClaims", fn := fun _ => fun
  | [d1, d2, d3, d4] => { results := [.lit (.bool true)], args := [d1, d2, d3, d4] }
  | _ => none }
def routeClaimsRow : OpenClaim := { program := "ytjkbbnphdbgjiaagreatdoor", sum := "b0a4bdbcdd40a6f1fce3dae9b3a3366123d6595863eb2778b77d3fadf05f1225", func := "baudot/baudotlaw04.RouteClaims", spec := "routeClaims", unfollowed := true, recurses := true, named := ["baudot/route.checks"], plainKeys := false, leaving := true, apart := false, laid := [("baudot/route.checks", laid_baudot_route_checks)] }
def RouteClaimsSaid : Prop := routeClaimsRow.holds Tryz.pinned (OpenSpec.ofChange routeClaimsSpec)

/-- ITS FALSE NEIGHBOUR: 'it returns false'. Refute it at one input. -/
def routeClaimsWrong : ChangeSpec := { name := "routeClaims", fn := fun _ => fun
  | [d1, d2, d3, d4] => { results := [.lit (.bool false)], args := [d1, d2, d3, d4] }
  | _ => none }
def RouteClaimsWrongFalsely : Prop := routeClaimsRow.holds Tryz.pinned (OpenSpec.ofChange routeClaimsWrong)

/-- 'baudotlaw04.RouteMores': WHATEVER THE INPUT: true; the input reads as it did. -/
def routeMoresSpec : ChangeSpec := { name := "routeMores", fn := fun _ => fun
  | [d1, d2] => { results := [.lit (.bool true)], args := [d1, d2] }
  | _ => none }
def routeMoresRow : OpenClaim := { program := "ytjkbbnphdbgjiaagreatdoor", sum := "b0a4bdbcdd40a6f1fce3dae9b3a3366123d6595863eb2778b77d3fadf05f1225", func := "baudot/baudotlaw04.RouteMores", spec := "routeMores", unfollowed := true, recurses := true, named := ["baudot/route.checks"], plainKeys := false, leaving := true, apart := false, laid := [("baudot/route.checks", laid_baudot_route_checks)] }
def RouteMoresSaid : Prop := routeMoresRow.holds Tryz.pinned (OpenSpec.ofChange routeMoresSpec)

/-- ITS FALSE NEIGHBOUR: 'it returns false'. Refute it at one input. -/
def routeMoresWrong : ChangeSpec := { name := "routeMores", fn := fun _ => fun
  | [d1, d2] => { results := [.lit (.bool false)], args := [d1, d2] }
  | _ => none }
def RouteMoresWrongFalsely : Prop := routeMoresRow.holds Tryz.pinned (OpenSpec.ofChange routeMoresWrong)

/-- 'baudotlaw04.RouteDays': WHATEVER THE INPUT: true; the input reads as it did. -/
def routeDaysSpec : ChangeSpec := { name := "routeDays", fn := fun _ => fun
  | [d1, d2, d3] => { results := [.lit (.bool true)], args := [d1, d2, d3] }
  | _ => none }
def routeDaysRow : OpenClaim := { program := "ytjkbbnphdbgjiaagreatdoor", sum := "b0a4bdbcdd40a6f1fce3dae9b3a3366123d6595863eb2778b77d3fadf05f1225", func := "baudot/baudotlaw04.RouteDays", spec := "routeDays", unfollowed := true, recurses := true, named := ["baudot/route.checks"], plainKeys := false, leaving := true, apart := false, laid := [("baudot/route.checks", laid_baudot_route_checks)] }
def RouteDaysSaid : Prop := routeDaysRow.holds Tryz.pinned (OpenSpec.ofChange routeDaysSpec)

/-- ITS FALSE NEIGHBOUR: 'it returns false'. Refute it at one input. -/
def routeDaysWrong : ChangeSpec := { name := "routeDays", fn := fun _ => fun
  | [d1, d2, d3] => { results := [.lit (.bool false)], args := [d1, d2, d3] }
  | _ => none }
def RouteDaysWrongFalsely : Prop := routeDaysRow.holds Tryz.pinned (OpenSpec.ofChange routeDaysWrong)

/-- 'baudotlaw04.RouteReached': WHATEVER THE INPUT: true; the input reads as it did. -/
def routeReachedSpec : ChangeSpec := { name := "routeReached", fn := fun _ => fun
  | [d1, d2, d3, d4] => { results := [.lit (.bool true)], args := [d1, d2, d3, d4] }
  | _ => none }
def routeReachedRow : OpenClaim := { program := "ytjkbbnphdbgjiaagreatdoor", sum := "b0a4bdbcdd40a6f1fce3dae9b3a3366123d6595863eb2778b77d3fadf05f1225", func := "baudot/baudotlaw04.RouteReached", spec := "routeReached", unfollowed := true, recurses := true, named := ["baudot/route.checks"], plainKeys := false, leaving := true, apart := false, laid := [("baudot/route.checks", laid_baudot_route_checks)] }
def RouteReachedSaid : Prop := routeReachedRow.holds Tryz.pinned (OpenSpec.ofChange routeReachedSpec)

/-- ITS FALSE NEIGHBOUR: 'it returns false'. Refute it at one input. -/
def routeReachedWrong : ChangeSpec := { name := "routeReached", fn := fun _ => fun
  | [d1, d2, d3, d4] => { results := [.lit (.bool false)], args := [d1, d2, d3, d4] }
  | _ => none }
def RouteReachedWrongFalsely : Prop := routeReachedRow.holds Tryz.pinned (OpenSpec.ofChange routeReachedWrong)

/- THE SECOND FORM. 'bulk': how many values and letters a reading holds, each counted each time it is reached (what is shared counts as often as it is met; a slice's spare places count too). A statement '..UptoSaid' is the law's where the arguments, and the package variables that the reading takes, are together of bulk at most 1048576: NARROWER than '..Said'. Prove '..Said' where nothing that the law and all that it calls make is longer than what came in: it says more and counts as full. Else prove '..UptoSaid'. A law counts once. -/
mutual
def uptoBulk {H : Type} : DataW H → Nat
  | .lit (.string bytes) => bytes.length + 1
  | .lit _ => 1
  | .nil => 1
  | .ptr d => uptoBulk d + 1
  | .slice elems spare => uptoBulkAll elems + uptoBulkAll spare + 1
  | .agg parts => uptoBulkAll parts + 1
  | .iface _ d => uptoBulk d + 1
  | .map entries => uptoBulkEntries entries + 1
  | .held _ => 1
def uptoBulkAll {H : Type} : List (DataW H) → Nat
  | [] => 0
  | d :: r => uptoBulk d + uptoBulkAll r
def uptoBulkEntries {H : Type} : List (Lit × DataW H) → Nat
  | [] => 0
  | x :: r => uptoBulkEntry x + uptoBulkEntries r
def uptoBulkEntry {H : Type} : Lit × DataW H → Nat
  | (.string bytes, d) => bytes.length + uptoBulk d + 1
  | (_, d) => uptoBulk d + 1
 end
def uptoSmall : (H : Type) → List (DataW H) → Bool := fun _ ds => decide (uptoBulkAll ds ≤ 1048576)
def OpenSpec.upto (s : _root_.Go.ChangeSpec) : _root_.Go.OpenSpec := { _root_.Go.OpenSpec.ofChange s with cond := some uptoSmall }

/-- 'baudotlaw04.RouteClaims', WHERE WHAT IT READS IS OF BULK AT MOST 1048576: true; the input reads as it did. -/
def routeClaimsUptoRow : OpenClaim := { program := "ytjkbbnphdbgjiaagreatdoor", sum := "b0a4bdbcdd40a6f1fce3dae9b3a3366123d6595863eb2778b77d3fadf05f1225", func := "baudot/baudotlaw04.RouteClaims", spec := "routeClaims", unfollowed := true, recurses := true, named := ["baudot/route.checks"], plainKeys := false, leaving := true, apart := false, laid := [("baudot/route.checks", laid_baudot_route_checks)], narrowed := true }
def RouteClaimsUptoSaid : Prop := routeClaimsUptoRow.holds Tryz.pinned (OpenSpec.upto routeClaimsSpec)

/-- 'baudotlaw04.RouteMores', WHERE WHAT IT READS IS OF BULK AT MOST 1048576: true; the input reads as it did. -/
def routeMoresUptoRow : OpenClaim := { program := "ytjkbbnphdbgjiaagreatdoor", sum := "b0a4bdbcdd40a6f1fce3dae9b3a3366123d6595863eb2778b77d3fadf05f1225", func := "baudot/baudotlaw04.RouteMores", spec := "routeMores", unfollowed := true, recurses := true, named := ["baudot/route.checks"], plainKeys := false, leaving := true, apart := false, laid := [("baudot/route.checks", laid_baudot_route_checks)], narrowed := true }
def RouteMoresUptoSaid : Prop := routeMoresUptoRow.holds Tryz.pinned (OpenSpec.upto routeMoresSpec)

/-- 'baudotlaw04.RouteDays', WHERE WHAT IT READS IS OF BULK AT MOST 1048576: true; the input reads as it did. -/
def routeDaysUptoRow : OpenClaim := { program := "ytjkbbnphdbgjiaagreatdoor", sum := "b0a4bdbcdd40a6f1fce3dae9b3a3366123d6595863eb2778b77d3fadf05f1225", func := "baudot/baudotlaw04.RouteDays", spec := "routeDays", unfollowed := true, recurses := true, named := ["baudot/route.checks"], plainKeys := false, leaving := true, apart := false, laid := [("baudot/route.checks", laid_baudot_route_checks)], narrowed := true }
def RouteDaysUptoSaid : Prop := routeDaysUptoRow.holds Tryz.pinned (OpenSpec.upto routeDaysSpec)

/-- 'baudotlaw04.RouteReached', WHERE WHAT IT READS IS OF BULK AT MOST 1048576: true; the input reads as it did. -/
def routeReachedUptoRow : OpenClaim := { program := "ytjkbbnphdbgjiaagreatdoor", sum := "b0a4bdbcdd40a6f1fce3dae9b3a3366123d6595863eb2778b77d3fadf05f1225", func := "baudot/baudotlaw04.RouteReached", spec := "routeReached", unfollowed := true, recurses := true, named := ["baudot/route.checks"], plainKeys := false, leaving := true, apart := false, laid := [("baudot/route.checks", laid_baudot_route_checks)], narrowed := true }
def RouteReachedUptoSaid : Prop := routeReachedUptoRow.holds Tryz.pinned (OpenSpec.upto routeReachedSpec)

end Rows
end Go.Proofs.YtjkbbnphdbgjiaaGreatDoor
