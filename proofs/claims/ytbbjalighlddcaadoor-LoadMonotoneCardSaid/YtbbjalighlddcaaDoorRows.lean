/-
  NARROWER THAN 'FOR EVERY INPUT', by the rows' own cells (each row's printed sentence says how): LoadRule: laid · LoadSum: laid · LoadMonotone: laid · LoadEnough: laid · LoadBears: laid · LoadCounts: laid.
  DERIVED. THE GIVEN ROWS OF THIS SEAT. 6 by the template 'for every input the law returns true; each argument reads behind the call as it read before'; 0 by the template 'total and deterministic' (their statements: YtbbjalighlddcaaDoorTotals.lean).
  GIVEN WITH THE SEED: the statements are not yours to turn. If you find one false, say at which input.
  Laid BY PROGRAM, IN A SANDBOX (cutbox-rows.mjs): the forced cells as the released guide's own fill.sh prints them over the translation ac1fc3f04b18fc4f… (all of the seat's roots in one cut). By AI agents, Wed Nov 11 2026. No macro, syntax, notation, axiom, sorry.
-/
import Derived.Test.YtbbjalighlddcaaDoorChecked
import GoSem.Claim
import GoSem.ClaimJoined
import GoSem.ClaimMapViews
import Derived.JoinedTies
import Derived.KernelRfl
namespace Go.Proofs.YtbbjalighlddcaaDoor
/- THE CELL 'sum', in the pinned program and in every row, IS THE sha256 OF THE DUMP (.gsa) THAT YtbbjalighlddcaaDoorProg.lean LOADS. Nothing in Lean hashes anything: it is a label: what it is worth is what the hold of that sum in a sandbox is worth. -/
noncomputable def Tryd.pinned : Pinned := { name := "ytbbjalighlddcaadoor", sum := "ac1fc3f04b18fc4f2449bc5108cbee7e17590847d3913fd9dfb205bc3a81d030", checked := Tryd.checked }
namespace Rows
def none {H : Type} : Left H := { results := [], args := [] }

/- WHAT THE LISTED PACKAGE-LEVEL VARIABLES READ AS WHEN THE CALL BEGINS. Each datum BY PROGRAM (the guide's laid-datum.mjs) off the statement by which the dump's own 'gosem.cut.vars' lays the variable. In a bare row this is a premise. The card (YtbbjalighlddcaaDoorCards.lean) ties it to the program's text. -/
def laid_baudot_load_checks {H : Type} : DataW H := .iface "func table" (.agg [.iface "func" (.lit (.string [40, 98, 97, 117, 100, 111, 116, 47, 108, 111, 97, 100, 46, 98, 111, 111, 107, 41, 46, 110, 117, 109, 98, 101, 114, 115])), .iface "func" (.lit (.string [40, 98, 97, 117, 100, 111, 116, 47, 108, 111, 97, 100, 46, 98, 111, 111, 107, 41, 46, 103, 114, 111, 117, 112, 115]))])
def laid_baudot_load_nothing {H : Type} : DataW H := .agg [.lit (.int .i64 0), .lit (.int .i64 1)]

/-- 'baudotlaw05.LoadRule': WHATEVER THE INPUT: true; the input reads as it did. -/
def loadRuleSpec : ChangeSpec := { name := "loadRule", fn := fun _ => fun
  | [d1, d2, d3] => { results := [.lit (.bool true)], args := [d1, d2, d3] }
  | _ => none }
def loadRuleRow : OpenClaim := { program := "ytbbjalighlddcaadoor", sum := "ac1fc3f04b18fc4f2449bc5108cbee7e17590847d3913fd9dfb205bc3a81d030", func := "baudot/baudotlaw05.LoadRule", spec := "loadRule", inPlace := ["(*sync.WaitGroup).Add", "internal/race.ReleaseMerge", "internal/race.Disable", "internal/race.Enable", "internal/synctest.IsInBubble", "internal/synctest.Associate[sync.WaitGroup]", "sync.fatal", "sync/atomic.OrUint64", "sync/atomic.AddUint64", "internal/race.Read", "sync/atomic.LoadUint64", "sync/atomic.StoreUint64", "internal/synctest.Disassociate[sync.WaitGroup]", "sync.runtime_Semrelease", "(*sync.WaitGroup).Done", "(*sync.WaitGroup).Wait", "internal/race.Acquire", "internal/synctest.IsAssociated[sync.WaitGroup]", "sync/atomic.CompareAndSwapUint64", "internal/race.Write", "sync.runtime_SemacquireWaitGroup"], unfollowed := true, recurses := true, named := ["baudot/load.checks", "baudot/load.nothing"], plainKeys := false, leaving := true, apart := false, laid := [("baudot/load.checks", laid_baudot_load_checks), ("baudot/load.nothing", laid_baudot_load_nothing)] }
def LoadRuleSaid : Prop := loadRuleRow.holds Tryd.pinned (OpenSpec.ofChange loadRuleSpec)

/-- ITS FALSE NEIGHBOUR: 'it returns false'. Refute it at one input. -/
def loadRuleWrong : ChangeSpec := { name := "loadRule", fn := fun _ => fun
  | [d1, d2, d3] => { results := [.lit (.bool false)], args := [d1, d2, d3] }
  | _ => none }
def LoadRuleWrongFalsely : Prop := loadRuleRow.holds Tryd.pinned (OpenSpec.ofChange loadRuleWrong)

/-- 'baudotlaw05.LoadSum': WHATEVER THE INPUT: true; the input reads as it did. -/
def loadSumSpec : ChangeSpec := { name := "loadSum", fn := fun _ => fun
  | [d1, d2, d3, d4] => { results := [.lit (.bool true)], args := [d1, d2, d3, d4] }
  | _ => none }
def loadSumRow : OpenClaim := { program := "ytbbjalighlddcaadoor", sum := "ac1fc3f04b18fc4f2449bc5108cbee7e17590847d3913fd9dfb205bc3a81d030", func := "baudot/baudotlaw05.LoadSum", spec := "loadSum", inPlace := ["(*sync.WaitGroup).Add", "internal/race.ReleaseMerge", "internal/race.Disable", "internal/race.Enable", "internal/synctest.IsInBubble", "internal/synctest.Associate[sync.WaitGroup]", "sync.fatal", "sync/atomic.OrUint64", "sync/atomic.AddUint64", "internal/race.Read", "sync/atomic.LoadUint64", "sync/atomic.StoreUint64", "internal/synctest.Disassociate[sync.WaitGroup]", "sync.runtime_Semrelease", "(*sync.WaitGroup).Done", "(*sync.WaitGroup).Wait", "internal/race.Acquire", "internal/synctest.IsAssociated[sync.WaitGroup]", "sync/atomic.CompareAndSwapUint64", "internal/race.Write", "sync.runtime_SemacquireWaitGroup"], unfollowed := true, recurses := true, named := ["baudot/load.checks", "baudot/load.nothing"], plainKeys := false, leaving := true, apart := false, laid := [("baudot/load.checks", laid_baudot_load_checks), ("baudot/load.nothing", laid_baudot_load_nothing)] }
def LoadSumSaid : Prop := loadSumRow.holds Tryd.pinned (OpenSpec.ofChange loadSumSpec)

/-- ITS FALSE NEIGHBOUR: 'it returns false'. Refute it at one input. -/
def loadSumWrong : ChangeSpec := { name := "loadSum", fn := fun _ => fun
  | [d1, d2, d3, d4] => { results := [.lit (.bool false)], args := [d1, d2, d3, d4] }
  | _ => none }
def LoadSumWrongFalsely : Prop := loadSumRow.holds Tryd.pinned (OpenSpec.ofChange loadSumWrong)

/-- 'baudotlaw05.LoadMonotone': WHATEVER THE INPUT: true; the input reads as it did. -/
def loadMonotoneSpec : ChangeSpec := { name := "loadMonotone", fn := fun _ => fun
  | [d1, d2, d3, d4] => { results := [.lit (.bool true)], args := [d1, d2, d3, d4] }
  | _ => none }
def loadMonotoneRow : OpenClaim := { program := "ytbbjalighlddcaadoor", sum := "ac1fc3f04b18fc4f2449bc5108cbee7e17590847d3913fd9dfb205bc3a81d030", func := "baudot/baudotlaw05.LoadMonotone", spec := "loadMonotone", inPlace := ["(*sync.WaitGroup).Add", "internal/race.ReleaseMerge", "internal/race.Disable", "internal/race.Enable", "internal/synctest.IsInBubble", "internal/synctest.Associate[sync.WaitGroup]", "sync.fatal", "sync/atomic.OrUint64", "sync/atomic.AddUint64", "internal/race.Read", "sync/atomic.LoadUint64", "sync/atomic.StoreUint64", "internal/synctest.Disassociate[sync.WaitGroup]", "sync.runtime_Semrelease", "(*sync.WaitGroup).Done", "(*sync.WaitGroup).Wait", "internal/race.Acquire", "internal/synctest.IsAssociated[sync.WaitGroup]", "sync/atomic.CompareAndSwapUint64", "internal/race.Write", "sync.runtime_SemacquireWaitGroup"], unfollowed := true, recurses := true, named := ["baudot/load.checks", "baudot/load.nothing"], plainKeys := false, leaving := true, apart := false, laid := [("baudot/load.checks", laid_baudot_load_checks), ("baudot/load.nothing", laid_baudot_load_nothing)] }
def LoadMonotoneSaid : Prop := loadMonotoneRow.holds Tryd.pinned (OpenSpec.ofChange loadMonotoneSpec)

/-- ITS FALSE NEIGHBOUR: 'it returns false'. Refute it at one input. -/
def loadMonotoneWrong : ChangeSpec := { name := "loadMonotone", fn := fun _ => fun
  | [d1, d2, d3, d4] => { results := [.lit (.bool false)], args := [d1, d2, d3, d4] }
  | _ => none }
def LoadMonotoneWrongFalsely : Prop := loadMonotoneRow.holds Tryd.pinned (OpenSpec.ofChange loadMonotoneWrong)

/-- 'baudotlaw05.LoadEnough': WHATEVER THE INPUT: true; the input reads as it did. -/
def loadEnoughSpec : ChangeSpec := { name := "loadEnough", fn := fun _ => fun
  | [d1, d2, d3, d4, d5] => { results := [.lit (.bool true)], args := [d1, d2, d3, d4, d5] }
  | _ => none }
def loadEnoughRow : OpenClaim := { program := "ytbbjalighlddcaadoor", sum := "ac1fc3f04b18fc4f2449bc5108cbee7e17590847d3913fd9dfb205bc3a81d030", func := "baudot/baudotlaw05.LoadEnough", spec := "loadEnough", inPlace := ["(*sync.WaitGroup).Add", "internal/race.ReleaseMerge", "internal/race.Disable", "internal/race.Enable", "internal/synctest.IsInBubble", "internal/synctest.Associate[sync.WaitGroup]", "sync.fatal", "sync/atomic.OrUint64", "sync/atomic.AddUint64", "internal/race.Read", "sync/atomic.LoadUint64", "sync/atomic.StoreUint64", "internal/synctest.Disassociate[sync.WaitGroup]", "sync.runtime_Semrelease", "(*sync.WaitGroup).Done", "(*sync.WaitGroup).Wait", "internal/race.Acquire", "internal/synctest.IsAssociated[sync.WaitGroup]", "sync/atomic.CompareAndSwapUint64", "internal/race.Write", "sync.runtime_SemacquireWaitGroup"], unfollowed := true, recurses := true, named := ["baudot/load.checks", "baudot/load.nothing"], plainKeys := false, leaving := true, apart := false, laid := [("baudot/load.checks", laid_baudot_load_checks), ("baudot/load.nothing", laid_baudot_load_nothing)] }
def LoadEnoughSaid : Prop := loadEnoughRow.holds Tryd.pinned (OpenSpec.ofChange loadEnoughSpec)

/-- ITS FALSE NEIGHBOUR: 'it returns false'. Refute it at one input. -/
def loadEnoughWrong : ChangeSpec := { name := "loadEnough", fn := fun _ => fun
  | [d1, d2, d3, d4, d5] => { results := [.lit (.bool false)], args := [d1, d2, d3, d4, d5] }
  | _ => none }
def LoadEnoughWrongFalsely : Prop := loadEnoughRow.holds Tryd.pinned (OpenSpec.ofChange loadEnoughWrong)

/-- 'baudotlaw05.LoadBears': WHATEVER THE INPUT: true; the input reads as it did. -/
def loadBearsSpec : ChangeSpec := { name := "loadBears", fn := fun _ => fun
  | [d1, d2, d3, d4, d5] => { results := [.lit (.bool true)], args := [d1, d2, d3, d4, d5] }
  | _ => none }
def loadBearsRow : OpenClaim := { program := "ytbbjalighlddcaadoor", sum := "ac1fc3f04b18fc4f2449bc5108cbee7e17590847d3913fd9dfb205bc3a81d030", func := "baudot/baudotlaw05.LoadBears", spec := "loadBears", inPlace := ["(*sync.WaitGroup).Add", "internal/race.ReleaseMerge", "internal/race.Disable", "internal/race.Enable", "internal/synctest.IsInBubble", "internal/synctest.Associate[sync.WaitGroup]", "sync.fatal", "sync/atomic.OrUint64", "sync/atomic.AddUint64", "internal/race.Read", "sync/atomic.LoadUint64", "sync/atomic.StoreUint64", "internal/synctest.Disassociate[sync.WaitGroup]", "sync.runtime_Semrelease", "(*sync.WaitGroup).Done", "(*sync.WaitGroup).Wait", "internal/race.Acquire", "internal/synctest.IsAssociated[sync.WaitGroup]", "sync/atomic.CompareAndSwapUint64", "internal/race.Write", "sync.runtime_SemacquireWaitGroup"], unfollowed := true, recurses := true, named := ["baudot/load.checks", "baudot/load.nothing"], plainKeys := false, leaving := true, apart := false, laid := [("baudot/load.checks", laid_baudot_load_checks), ("baudot/load.nothing", laid_baudot_load_nothing)] }
def LoadBearsSaid : Prop := loadBearsRow.holds Tryd.pinned (OpenSpec.ofChange loadBearsSpec)

/-- ITS FALSE NEIGHBOUR: 'it returns false'. Refute it at one input. -/
def loadBearsWrong : ChangeSpec := { name := "loadBears", fn := fun _ => fun
  | [d1, d2, d3, d4, d5] => { results := [.lit (.bool false)], args := [d1, d2, d3, d4, d5] }
  | _ => none }
def LoadBearsWrongFalsely : Prop := loadBearsRow.holds Tryd.pinned (OpenSpec.ofChange loadBearsWrong)

/-- 'baudotlaw05.LoadCounts': WHATEVER THE INPUT: true; the input reads as it did. -/
def loadCountsSpec : ChangeSpec := { name := "loadCounts", fn := fun _ => fun
  | [d1, d2, d3, d4] => { results := [.lit (.bool true)], args := [d1, d2, d3, d4] }
  | _ => none }
def loadCountsRow : OpenClaim := { program := "ytbbjalighlddcaadoor", sum := "ac1fc3f04b18fc4f2449bc5108cbee7e17590847d3913fd9dfb205bc3a81d030", func := "baudot/baudotlaw05.LoadCounts", spec := "loadCounts", inPlace := ["(*sync.WaitGroup).Add", "internal/race.ReleaseMerge", "internal/race.Disable", "internal/race.Enable", "internal/synctest.IsInBubble", "internal/synctest.Associate[sync.WaitGroup]", "sync.fatal", "sync/atomic.OrUint64", "sync/atomic.AddUint64", "internal/race.Read", "sync/atomic.LoadUint64", "sync/atomic.StoreUint64", "internal/synctest.Disassociate[sync.WaitGroup]", "sync.runtime_Semrelease", "(*sync.WaitGroup).Done", "(*sync.WaitGroup).Wait", "internal/race.Acquire", "internal/synctest.IsAssociated[sync.WaitGroup]", "sync/atomic.CompareAndSwapUint64", "internal/race.Write", "sync.runtime_SemacquireWaitGroup"], unfollowed := true, recurses := true, named := ["baudot/load.checks", "baudot/load.nothing"], plainKeys := false, leaving := true, apart := false, laid := [("baudot/load.checks", laid_baudot_load_checks), ("baudot/load.nothing", laid_baudot_load_nothing)] }
def LoadCountsSaid : Prop := loadCountsRow.holds Tryd.pinned (OpenSpec.ofChange loadCountsSpec)

/-- ITS FALSE NEIGHBOUR: 'it returns false'. Refute it at one input. -/
def loadCountsWrong : ChangeSpec := { name := "loadCounts", fn := fun _ => fun
  | [d1, d2, d3, d4] => { results := [.lit (.bool false)], args := [d1, d2, d3, d4] }
  | _ => none }
def LoadCountsWrongFalsely : Prop := loadCountsRow.holds Tryd.pinned (OpenSpec.ofChange loadCountsWrong)

/- THE SECOND FORM. 'bulk': how many values and letters a reading holds, each counted each time it is reached (what is shared counts as often as it is met; a slice's spare places count too). A statement '..UptoSaid' is the law's where the arguments, and the package variables that the reading takes, are together of bulk at most 1048576: NARROWER than '..Said'. Prove '..Said' where nothing that the law and all that it calls make is longer than what came in: it says more and counts as full. Else prove '..UptoSaid'. A law counts once. -/
mutual
def uptoBulk {H : Type} : DataW H → Nat
  | .lit (.string bytes) => bytes.length + 1
  | .lit _ => 1
  | .nil => 1
  | .ptr d => uptoBulk d + 1
  | .slice elems spare => uptoBulkAll elems + uptoBulkAll spare + 1
  | .agg parts => uptoBulkAll parts + 1
  | .iface _ d => uptoBulk d + 1
  | .map entries => uptoBulkEntries entries + 1
  | .held _ => 1
def uptoBulkAll {H : Type} : List (DataW H) → Nat
  | [] => 0
  | d :: r => uptoBulk d + uptoBulkAll r
def uptoBulkEntries {H : Type} : List (Lit × DataW H) → Nat
  | [] => 0
  | x :: r => uptoBulkEntry x + uptoBulkEntries r
def uptoBulkEntry {H : Type} : Lit × DataW H → Nat
  | (.string bytes, d) => bytes.length + uptoBulk d + 1
  | (_, d) => uptoBulk d + 1
 end
def uptoSmall : (H : Type) → List (DataW H) → Bool := fun _ ds => decide (uptoBulkAll ds ≤ 1048576)
def OpenSpec.upto (s : _root_.Go.ChangeSpec) : _root_.Go.OpenSpec := { _root_.Go.OpenSpec.ofChange s with cond := some uptoSmall }

/-- 'baudotlaw05.LoadRule', WHERE WHAT IT READS IS OF BULK AT MOST 1048576: true; the input reads as it did. -/
def loadRuleUptoRow : OpenClaim := { program := "ytbbjalighlddcaadoor", sum := "ac1fc3f04b18fc4f2449bc5108cbee7e17590847d3913fd9dfb205bc3a81d030", func := "baudot/baudotlaw05.LoadRule", spec := "loadRule", inPlace := ["(*sync.WaitGroup).Add", "internal/race.ReleaseMerge", "internal/race.Disable", "internal/race.Enable", "internal/synctest.IsInBubble", "internal/synctest.Associate[sync.WaitGroup]", "sync.fatal", "sync/atomic.OrUint64", "sync/atomic.AddUint64", "internal/race.Read", "sync/atomic.LoadUint64", "sync/atomic.StoreUint64", "internal/synctest.Disassociate[sync.WaitGroup]", "sync.runtime_Semrelease", "(*sync.WaitGroup).Done", "(*sync.WaitGroup).Wait", "internal/race.Acquire", "internal/synctest.IsAssociated[sync.WaitGroup]", "sync/atomic.CompareAndSwapUint64", "internal/race.Write", "sync.runtime_SemacquireWaitGroup"], unfollowed := true, recurses := true, named := ["baudot/load.checks", "baudot/load.nothing"], plainKeys := false, leaving := true, apart := false, laid := [("baudot/load.checks", laid_baudot_load_checks), ("baudot/load.nothing", laid_baudot_load_nothing)], narrowed := true }
def LoadRuleUptoSaid : Prop := loadRuleUptoRow.holds Tryd.pinned (OpenSpec.upto loadRuleSpec)

/-- 'baudotlaw05.LoadSum', WHERE WHAT IT READS IS OF BULK AT MOST 1048576: true; the input reads as it did. -/
def loadSumUptoRow : OpenClaim := { program := "ytbbjalighlddcaadoor", sum := "ac1fc3f04b18fc4f2449bc5108cbee7e17590847d3913fd9dfb205bc3a81d030", func := "baudot/baudotlaw05.LoadSum", spec := "loadSum", inPlace := ["(*sync.WaitGroup).Add", "internal/race.ReleaseMerge", "internal/race.Disable", "internal/race.Enable", "internal/synctest.IsInBubble", "internal/synctest.Associate[sync.WaitGroup]", "sync.fatal", "sync/atomic.OrUint64", "sync/atomic.AddUint64", "internal/race.Read", "sync/atomic.LoadUint64", "sync/atomic.StoreUint64", "internal/synctest.Disassociate[sync.WaitGroup]", "sync.runtime_Semrelease", "(*sync.WaitGroup).Done", "(*sync.WaitGroup).Wait", "internal/race.Acquire", "internal/synctest.IsAssociated[sync.WaitGroup]", "sync/atomic.CompareAndSwapUint64", "internal/race.Write", "sync.runtime_SemacquireWaitGroup"], unfollowed := true, recurses := true, named := ["baudot/load.checks", "baudot/load.nothing"], plainKeys := false, leaving := true, apart := false, laid := [("baudot/load.checks", laid_baudot_load_checks), ("baudot/load.nothing", laid_baudot_load_nothing)], narrowed := true }
def LoadSumUptoSaid : Prop := loadSumUptoRow.holds Tryd.pinned (OpenSpec.upto loadSumSpec)

/-- 'baudotlaw05.LoadMonotone', WHERE WHAT IT READS IS OF BULK AT MOST 1048576: true; the input reads as it did. -/
def loadMonotoneUptoRow : OpenClaim := { program := "ytbbjalighlddcaadoor", sum := "ac1fc3f04b18fc4f2449bc5108cbee7e17590847d3913fd9dfb205bc3a81d030", func := "baudot/baudotlaw05.LoadMonotone", spec := "loadMonotone", inPlace := ["(*sync.WaitGroup).Add", "internal/race.ReleaseMerge", "internal/race.Disable", "internal/race.Enable", "internal/synctest.IsInBubble", "internal/synctest.Associate[sync.WaitGroup]", "sync.fatal", "sync/atomic.OrUint64", "sync/atomic.AddUint64", "internal/race.Read", "sync/atomic.LoadUint64", "sync/atomic.StoreUint64", "internal/synctest.Disassociate[sync.WaitGroup]", "sync.runtime_Semrelease", "(*sync.WaitGroup).Done", "(*sync.WaitGroup).Wait", "internal/race.Acquire", "internal/synctest.IsAssociated[sync.WaitGroup]", "sync/atomic.CompareAndSwapUint64", "internal/race.Write", "sync.runtime_SemacquireWaitGroup"], unfollowed := true, recurses := true, named := ["baudot/load.checks", "baudot/load.nothing"], plainKeys := false, leaving := true, apart := false, laid := [("baudot/load.checks", laid_baudot_load_checks), ("baudot/load.nothing", laid_baudot_load_nothing)], narrowed := true }
def LoadMonotoneUptoSaid : Prop := loadMonotoneUptoRow.holds Tryd.pinned (OpenSpec.upto loadMonotoneSpec)

/-- 'baudotlaw05.LoadEnough', WHERE WHAT IT READS IS OF BULK AT MOST 1048576: true; the input reads as it did. -/
def loadEnoughUptoRow : OpenClaim := { program := "ytbbjalighlddcaadoor", sum := "ac1fc3f04b18fc4f2449bc5108cbee7e17590847d3913fd9dfb205bc3a81d030", func := "baudot/baudotlaw05.LoadEnough", spec := "loadEnough", inPlace := ["(*sync.WaitGroup).Add", "internal/race.ReleaseMerge", "internal/race.Disable", "internal/race.Enable", "internal/synctest.IsInBubble", "internal/synctest.Associate[sync.WaitGroup]", "sync.fatal", "sync/atomic.OrUint64", "sync/atomic.AddUint64", "internal/race.Read", "sync/atomic.LoadUint64", "sync/atomic.StoreUint64", "internal/synctest.Disassociate[sync.WaitGroup]", "sync.runtime_Semrelease", "(*sync.WaitGroup).Done", "(*sync.WaitGroup).Wait", "internal/race.Acquire", "internal/synctest.IsAssociated[sync.WaitGroup]", "sync/atomic.CompareAndSwapUint64", "internal/race.Write", "sync.runtime_SemacquireWaitGroup"], unfollowed := true, recurses := true, named := ["baudot/load.checks", "baudot/load.nothing"], plainKeys := false, leaving := true, apart := false, laid := [("baudot/load.checks", laid_baudot_load_checks), ("baudot/load.nothing", laid_baudot_load_nothing)], narrowed := true }
def LoadEnoughUptoSaid : Prop := loadEnoughUptoRow.holds Tryd.pinned (OpenSpec.upto loadEnoughSpec)

/-- 'baudotlaw05.LoadBears', WHERE WHAT IT READS IS OF BULK AT MOST 1048576: true; the input reads as it did. -/
def loadBearsUptoRow : OpenClaim := { program := "ytbbjalighlddcaadoor", sum := "ac1fc3f04b18fc4f2449bc5108cbee7e17590847d3913fd9dfb205bc3a81d030", func := "baudot/baudotlaw05.LoadBears", spec := "loadBears", inPlace := ["(*sync.WaitGroup).Add", "internal/race.ReleaseMerge", "internal/race.Disable", "internal/race.Enable", "internal/synctest.IsInBubble", "internal/synctest.Associate[sync.WaitGroup]", "sync.fatal", "sync/atomic.OrUint64", "sync/atomic.AddUint64", "internal/race.Read", "sync/atomic.LoadUint64", "sync/atomic.StoreUint64", "internal/synctest.Disassociate[sync.WaitGroup]", "sync.runtime_Semrelease", "(*sync.WaitGroup).Done", "(*sync.WaitGroup).Wait", "internal/race.Acquire", "internal/synctest.IsAssociated[sync.WaitGroup]", "sync/atomic.CompareAndSwapUint64", "internal/race.Write", "sync.runtime_SemacquireWaitGroup"], unfollowed := true, recurses := true, named := ["baudot/load.checks", "baudot/load.nothing"], plainKeys := false, leaving := true, apart := false, laid := [("baudot/load.checks", laid_baudot_load_checks), ("baudot/load.nothing", laid_baudot_load_nothing)], narrowed := true }
def LoadBearsUptoSaid : Prop := loadBearsUptoRow.holds Tryd.pinned (OpenSpec.upto loadBearsSpec)

/-- 'baudotlaw05.LoadCounts', WHERE WHAT IT READS IS OF BULK AT MOST 1048576: true; the input reads as it did. -/
def loadCountsUptoRow : OpenClaim := { program := "ytbbjalighlddcaadoor", sum := "ac1fc3f04b18fc4f2449bc5108cbee7e17590847d3913fd9dfb205bc3a81d030", func := "baudot/baudotlaw05.LoadCounts", spec := "loadCounts", inPlace := ["(*sync.WaitGroup).Add", "internal/race.ReleaseMerge", "internal/race.Disable", "internal/race.Enable", "internal/synctest.IsInBubble", "internal/synctest.Associate[sync.WaitGroup]", "sync.fatal", "sync/atomic.OrUint64", "sync/atomic.AddUint64", "internal/race.Read", "sync/atomic.LoadUint64", "sync/atomic.StoreUint64", "internal/synctest.Disassociate[sync.WaitGroup]", "sync.runtime_Semrelease", "(*sync.WaitGroup).Done", "(*sync.WaitGroup).Wait", "internal/race.Acquire", "internal/synctest.IsAssociated[sync.WaitGroup]", "sync/atomic.CompareAndSwapUint64", "internal/race.Write", "sync.runtime_SemacquireWaitGroup"], unfollowed := true, recurses := true, named := ["baudot/load.checks", "baudot/load.nothing"], plainKeys := false, leaving := true, apart := false, laid := [("baudot/load.checks", laid_baudot_load_checks), ("baudot/load.nothing", laid_baudot_load_nothing)], narrowed := true }
def LoadCountsUptoSaid : Prop := loadCountsUptoRow.holds Tryd.pinned (OpenSpec.upto loadCountsSpec)

end Rows
end Go.Proofs.YtbbjalighlddcaaDoor
