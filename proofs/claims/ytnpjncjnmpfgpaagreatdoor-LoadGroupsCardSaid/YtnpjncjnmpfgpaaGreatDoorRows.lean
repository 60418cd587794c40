/-
  NARROWER THAN 'FOR EVERY INPUT', by the rows' own cells (each row's printed sentence says how): LoadGroups: laid · LoadYears: laid · LoadMore: laid.
  DERIVED. THE GIVEN ROWS OF THIS SEAT. 3 by the template 'for every input the law returns true; each argument reads behind the call as it read before'; 0 by the template 'total and deterministic' (their statements: YtnpjncjnmpfgpaaGreatDoorTotals.lean).
  GIVEN WITH THE SEED: the statements are not yours to turn. If you find one false, say at which input.
  Laid BY PROGRAM, IN A SANDBOX (cutbox-rows.mjs): the forced cells as the released guide's own fill.sh prints them over the translation 5274a9b3c6a98788… (all of the seat's roots in one cut). By AI agents, Wed Nov 11 2026. No macro, syntax, notation, axiom, sorry.
-/
import Derived.Test.YtnpjncjnmpfgpaaGreatDoorChecked
import GoSem.Claim
import GoSem.ClaimJoined
import GoSem.ClaimMapViews
import Derived.JoinedTies
import Derived.KernelRfl
namespace Go.Proofs.YtnpjncjnmpfgpaaGreatDoor
/- THE CELL 'sum', in the pinned program and in every row, IS THE sha256 OF THE DUMP (.gsa) THAT YtnpjncjnmpfgpaaGreatDoorProg.lean LOADS. Nothing in Lean hashes anything: it is a label: what it is worth is what the hold of that sum in a sandbox is worth. -/
noncomputable def Tryz.pinned : Pinned := { name := "ytnpjncjnmpfgpaagreatdoor", sum := "5274a9b3c6a98788482f676e211331d78ce6caedabe79e5e03477c1a034b1b1f", checked := Tryz.checked }
namespace Rows
def none {H : Type} : Left H := { results := [], args := [] }

/- WHAT THE LISTED PACKAGE-LEVEL VARIABLES READ AS WHEN THE CALL BEGINS. Each datum BY PROGRAM (the guide's laid-datum.mjs) off the statement by which the dump's own 'gosem.cut.vars' lays the variable. In a bare row this is a premise. The card (YtnpjncjnmpfgpaaGreatDoorCards.lean) ties it to the program's text. -/
def laid_baudot_load_checks {H : Type} : DataW H := .iface "func table" (.agg [.iface "func" (.lit (.string [40, 98, 97, 117, 100, 111, 116, 47, 108, 111, 97, 100, 46, 98, 111, 111, 107, 41, 46, 110, 117, 109, 98, 101, 114, 115])), .iface "func" (.lit (.string [40, 98, 97, 117, 100, 111, 116, 47, 108, 111, 97, 100, 46, 98, 111, 111, 107, 41, 46, 103, 114, 111, 117, 112, 115]))])
def laid_baudot_load_nothing {H : Type} : DataW H := .agg [.lit (.int .i64 0), .lit (.int .i64 1)]

/-- 'baudotlaw05.LoadGroups': WHATEVER THE INPUT: true; the input reads as it did. -/
def loadGroupsSpec : ChangeSpec := { name := "loadGroups", fn := fun _ => fun
  | [d1, d2] => { results := [.lit (.bool true)], args := [d1, d2] }
  | _ => none }
def loadGroupsRow : OpenClaim := { program := "ytnpjncjnmpfgpaagreatdoor", sum := "5274a9b3c6a98788482f676e211331d78ce6caedabe79e5e03477c1a034b1b1f", func := "baudot/baudotlaw05.LoadGroups", spec := "loadGroups", inPlace := ["(*sync.WaitGroup).Add", "internal/race.ReleaseMerge", "internal/race.Disable", "internal/race.Enable", "internal/synctest.IsInBubble", "internal/synctest.Associate[sync.WaitGroup]", "sync.fatal", "sync/atomic.OrUint64", "sync/atomic.AddUint64", "internal/race.Read", "sync/atomic.LoadUint64", "sync/atomic.StoreUint64", "internal/synctest.Disassociate[sync.WaitGroup]", "sync.runtime_Semrelease", "(*sync.WaitGroup).Done", "(*sync.WaitGroup).Wait", "internal/race.Acquire", "internal/synctest.IsAssociated[sync.WaitGroup]", "sync/atomic.CompareAndSwapUint64", "internal/race.Write", "sync.runtime_SemacquireWaitGroup"], unfollowed := true, recurses := true, named := ["baudot/load.checks", "baudot/load.nothing"], plainKeys := false, leaving := true, apart := false, laid := [("baudot/load.checks", laid_baudot_load_checks), ("baudot/load.nothing", laid_baudot_load_nothing)] }
def LoadGroupsSaid : Prop := loadGroupsRow.holds Tryz.pinned (OpenSpec.ofChange loadGroupsSpec)

/-- ITS FALSE NEIGHBOUR: 'it returns false'. Refute it at one input. -/
def loadGroupsWrong : ChangeSpec := { name := "loadGroups", fn := fun _ => fun
  | [d1, d2] => { results := [.lit (.bool false)], args := [d1, d2] }
  | _ => none }
def LoadGroupsWrongFalsely : Prop := loadGroupsRow.holds Tryz.pinned (OpenSpec.ofChange loadGroupsWrong)

/-- 'baudotlaw05.LoadYears': WHATEVER THE INPUT: true; the input reads as it did. -/
def loadYearsSpec : ChangeSpec := { name := "loadYears", fn := fun _ => fun
  | [d1, d2, d3, d4] => { results := [.lit (.bool true)], args := [d1, d2, d3, d4] }
  | _ => none }
def loadYearsRow : OpenClaim := { program := "ytnpjncjnmpfgpaagreatdoor", sum := "5274a9b3c6a98788482f676e211331d78ce6caedabe79e5e03477c1a034b1b1f", func := "baudot/baudotlaw05.LoadYears", spec := "loadYears", inPlace := ["(*sync.WaitGroup).Add", "internal/race.ReleaseMerge", "internal/race.Disable", "internal/race.Enable", "internal/synctest.IsInBubble", "internal/synctest.Associate[sync.WaitGroup]", "sync.fatal", "sync/atomic.OrUint64", "sync/atomic.AddUint64", "internal/race.Read", "sync/atomic.LoadUint64", "sync/atomic.StoreUint64", "internal/synctest.Disassociate[sync.WaitGroup]", "sync.runtime_Semrelease", "(*sync.WaitGroup).Done", "(*sync.WaitGroup).Wait", "internal/race.Acquire", "internal/synctest.IsAssociated[sync.WaitGroup]", "sync/atomic.CompareAndSwapUint64", "internal/race.Write", "sync.runtime_SemacquireWaitGroup"], unfollowed := true, recurses := true, named := ["baudot/load.checks", "baudot/load.nothing"], plainKeys := false, leaving := true, apart := false, laid := [("baudot/load.checks", laid_baudot_load_checks), ("baudot/load.nothing", laid_baudot_load_nothing)] }
def LoadYearsSaid : Prop := loadYearsRow.holds Tryz.pinned (OpenSpec.ofChange loadYearsSpec)

/-- ITS FALSE NEIGHBOUR: 'it returns false'. Refute it at one input. -/
def loadYearsWrong : ChangeSpec := { name := "loadYears", fn := fun _ => fun
  | [d1, d2, d3, d4] => { results := [.lit (.bool false)], args := [d1, d2, d3, d4] }
  | _ => none }
def LoadYearsWrongFalsely : Prop := loadYearsRow.holds Tryz.pinned (OpenSpec.ofChange loadYearsWrong)

/-- 'baudotlaw05.LoadMore': WHATEVER THE INPUT: true; the input reads as it did. -/
def loadMoreSpec : ChangeSpec := { name := "loadMore", fn := fun _ => fun
  | [d1, d2, d3, d4, d5] => { results := [.lit (.bool true)], args := [d1, d2, d3, d4, d5] }
  | _ => none }
def loadMoreRow : OpenClaim := { program := "ytnpjncjnmpfgpaagreatdoor", sum := "5274a9b3c6a98788482f676e211331d78ce6caedabe79e5e03477c1a034b1b1f", func := "baudot/baudotlaw05.LoadMore", spec := "loadMore", inPlace := ["(*sync.WaitGroup).Add", "internal/race.ReleaseMerge", "internal/race.Disable", "internal/race.Enable", "internal/synctest.IsInBubble", "internal/synctest.Associate[sync.WaitGroup]", "sync.fatal", "sync/atomic.OrUint64", "sync/atomic.AddUint64", "internal/race.Read", "sync/atomic.LoadUint64", "sync/atomic.StoreUint64", "internal/synctest.Disassociate[sync.WaitGroup]", "sync.runtime_Semrelease", "(*sync.WaitGroup).Done", "(*sync.WaitGroup).Wait", "internal/race.Acquire", "internal/synctest.IsAssociated[sync.WaitGroup]", "sync/atomic.CompareAndSwapUint64", "internal/race.Write", "sync.runtime_SemacquireWaitGroup"], unfollowed := true, recurses := true, named := ["baudot/load.checks", "baudot/load.nothing"], plainKeys := false, leaving := true, apart := false, laid := [("baudot/load.checks", laid_baudot_load_checks), ("baudot/load.nothing", laid_baudot_load_nothing)] }
def LoadMoreSaid : Prop := loadMoreRow.holds Tryz.pinned (OpenSpec.ofChange loadMoreSpec)

/-- ITS FALSE NEIGHBOUR: 'it returns false'. Refute it at one input. -/
def loadMoreWrong : ChangeSpec := { name := "loadMore", fn := fun _ => fun
  | [d1, d2, d3, d4, d5] => { results := [.lit (.bool false)], args := [d1, d2, d3, d4, d5] }
  | _ => none }
def LoadMoreWrongFalsely : Prop := loadMoreRow.holds Tryz.pinned (OpenSpec.ofChange loadMoreWrong)

/- THE SECOND FORM. 'bulk': how many values and letters a reading holds, each counted each time it is reached (what is shared counts as often as it is met; a slice's spare places count too). A statement '..UptoSaid' is the law's where the arguments, and the package variables that the reading takes, are together of bulk at most 1048576: NARROWER than '..Said'. Prove '..Said' where nothing that the law and all that it calls make is longer than what came in: it says more and counts as full. Else prove '..UptoSaid'. A law counts once. -/
mutual
def uptoBulk {H : Type} : DataW H → Nat
  | .lit (.string bytes) => bytes.length + 1
  | .lit _ => 1
  | .nil => 1
  | .ptr d => uptoBulk d + 1
  | .slice elems spare => uptoBulkAll elems + uptoBulkAll spare + 1
  | .agg parts => uptoBulkAll parts + 1
  | .iface _ d => uptoBulk d + 1
  | .map entries => uptoBulkEntries entries + 1
  | .held _ => 1
def uptoBulkAll {H : Type} : List (DataW H) → Nat
  | [] => 0
  | d :: r => uptoBulk d + uptoBulkAll r
def uptoBulkEntries {H : Type} : List (Lit × DataW H) → Nat
  | [] => 0
  | x :: r => uptoBulkEntry x + uptoBulkEntries r
def uptoBulkEntry {H : Type} : Lit × DataW H → Nat
  | (.string bytes, d) => bytes.length + uptoBulk d + 1
  | (_, d) => uptoBulk d + 1
 end
def uptoSmall : (H : Type) → List (DataW H) → Bool := fun _ ds => decide (uptoBulkAll ds ≤ 1048576)
def OpenSpec.upto (s : _root_.Go.ChangeSpec) : _root_.Go.OpenSpec := { _root_.Go.OpenSpec.ofChange s with cond := some uptoSmall }

/-- 'baudotlaw05.LoadGroups', WHERE WHAT IT READS IS OF BULK AT MOST 1048576: true; the input reads as it did. -/
def loadGroupsUptoRow : OpenClaim := { program := "ytnpjncjnmpfgpaagreatdoor", sum := "5274a9b3c6a98788482f676e211331d78ce6caedabe79e5e03477c1a034b1b1f", func := "baudot/baudotlaw05.LoadGroups", spec := "loadGroups", inPlace := ["(*sync.WaitGroup).Add", "internal/race.ReleaseMerge", "internal/race.Disable", "internal/race.Enable", "internal/synctest.IsInBubble", "internal/synctest.Associate[sync.WaitGroup]", "sync.fatal", "sync/atomic.OrUint64", "sync/atomic.AddUint64", "internal/race.Read", "sync/atomic.LoadUint64", "sync/atomic.StoreUint64", "internal/synctest.Disassociate[sync.WaitGroup]", "sync.runtime_Semrelease", "(*sync.WaitGroup).Done", "(*sync.WaitGroup).Wait", "internal/race.Acquire", "internal/synctest.IsAssociated[sync.WaitGroup]", "sync/atomic.CompareAndSwapUint64", "internal/race.Write", "sync.runtime_SemacquireWaitGroup"], unfollowed := true, recurses := true, named := ["baudot/load.checks", "baudot/load.nothing"], plainKeys := false, leaving := true, apart := false, laid := [("baudot/load.checks", laid_baudot_load_checks), ("baudot/load.nothing", laid_baudot_load_nothing)], narrowed := true }
def LoadGroupsUptoSaid : Prop := loadGroupsUptoRow.holds Tryz.pinned (OpenSpec.upto loadGroupsSpec)

/-- 'baudotlaw05.LoadYears', WHERE WHAT IT READS IS OF BULK AT MOST 1048576: true; the input reads as it did. -/
def loadYearsUptoRow : OpenClaim := { program := "ytnpjncjnmpfgpaagreatdoor", sum := "5274a9b3c6a98788482f676e211331d78ce6caedabe79e5e03477c1a034b1b1f", func := "baudot/baudotlaw05.LoadYears", spec := "loadYears", inPlace := ["(*sync.WaitGroup).Add", "internal/race.ReleaseMerge", "internal/race.Disable", "internal/race.Enable", "internal/synctest.IsInBubble", "internal/synctest.Associate[sync.WaitGroup]", "sync.fatal", "sync/atomic.OrUint64", "sync/atomic.AddUint64", "internal/race.Read", "sync/atomic.LoadUint64", "sync/atomic.StoreUint64", "internal/synctest.Disassociate[sync.WaitGroup]", "sync.runtime_Semrelease", "(*sync.WaitGroup).Done", "(*sync.WaitGroup).Wait", "internal/race.Acquire", "internal/synctest.IsAssociated[sync.WaitGroup]", "sync/atomic.CompareAndSwapUint64", "internal/race.Write", "sync.runtime_SemacquireWaitGroup"], unfollowed := true, recurses := true, named := ["baudot/load.checks", "baudot/load.nothing"], plainKeys := false, leaving := true, apart := false, laid := [("baudot/load.checks", laid_baudot_load_checks), ("baudot/load.nothing", laid_baudot_load_nothing)], narrowed := true }
def LoadYearsUptoSaid : Prop := loadYearsUptoRow.holds Tryz.pinned (OpenSpec.upto loadYearsSpec)

/-- 'baudotlaw05.LoadMore', WHERE WHAT IT READS IS OF BULK AT MOST 1048576: true; the input reads as it did. -/
def loadMoreUptoRow : OpenClaim := { program := "ytnpjncjnmpfgpaagreatdoor", sum := "5274a9b3c6a98788482f676e211331d78ce6caedabe79e5e03477c1a034b1b1f", func := "baudot/baudotlaw05.LoadMore", spec := "loadMore", inPlace := ["(*sync.WaitGroup).Add", "internal/race.ReleaseMerge", "internal/race.Disable", "internal/race.Enable", "internal/synctest.IsInBubble", "internal/synctest.Associate[sync.WaitGroup]", "sync.fatal", "sync/atomic.OrUint64", "sync/atomic.AddUint64", "internal/race.Read", "sync/atomic.LoadUint64", "sync/atomic.StoreUint64", "internal/synctest.Disassociate[sync.WaitGroup]", "sync.runtime_Semrelease", "(*sync.WaitGroup).Done", "(*sync.WaitGroup).Wait", "internal/race.Acquire", "internal/synctest.IsAssociated[sync.WaitGroup]", "sync/atomic.CompareAndSwapUint64", "internal/race.Write", "sync.runtime_SemacquireWaitGroup"], unfollowed := true, recurses := true, named := ["baudot/load.checks", "baudot/load.nothing"], plainKeys := false, leaving := true, apart := false, laid := [("baudot/load.checks", laid_baudot_load_checks), ("baudot/load.nothing", laid_baudot_load_nothing)], narrowed := true }
def LoadMoreUptoSaid : Prop := loadMoreUptoRow.holds Tryz.pinned (OpenSpec.upto loadMoreSpec)

end Rows
end Go.Proofs.YtnpjncjnmpfgpaaGreatDoor
