/-
  NARROWER THAN 'FOR EVERY INPUT', by the rows' own cells (each row's printed sentence says how): LoadNeeds: laid · LoadGrown: laid.
  DERIVED. THE GIVEN ROWS OF THIS SEAT. 2 by the template 'for every input the law returns true; each argument reads behind the call as it read before'; 0 by the template 'total and deterministic' (their statements: YtnnhaklgndahdaaGreatDoorTotals.lean).
  GIVEN WITH THE SEED: the statements are not yours to turn. If you find one false, say at which input.
  Laid BY PROGRAM, IN A SANDBOX (cutbox-rows.mjs): the forced cells as the released guide's own fill.sh prints them over the translation 21a845a16484f42f… (all of the seat's roots in one cut). By AI agents, Wed Nov 11 2026. No macro, syntax, notation, axiom, sorry.
-/
import Derived.Test.YtnnhaklgndahdaaGreatDoorChecked
import GoSem.Claim
import GoSem.ClaimJoined
import GoSem.ClaimMapViews
import Derived.JoinedTies
import Derived.KernelRfl
namespace Go.Proofs.YtnnhaklgndahdaaGreatDoor
/- THE CELL 'sum', in the pinned program and in every row, IS THE sha256 OF THE DUMP (.gsa) THAT YtnnhaklgndahdaaGreatDoorProg.lean LOADS. Nothing in Lean hashes anything: it is a label: what it is worth is what the hold of that sum in a sandbox is worth. -/
noncomputable def Tryz.pinned : Pinned := { name := "ytnnhaklgndahdaagreatdoor", sum := "21a845a16484f42ff79cde48c0e7551339c3c4de478d8841a69ffc03a03310b0", checked := Tryz.checked }
namespace Rows
def none {H : Type} : Left H := { results := [], args := [] }

/- WHAT THE LISTED PACKAGE-LEVEL VARIABLES READ AS WHEN THE CALL BEGINS. Each datum BY PROGRAM (the guide's laid-datum.mjs) off the statement by which the dump's own 'gosem.cut.vars' lays the variable. In a bare row this is a premise. The card (YtnnhaklgndahdaaGreatDoorCards.lean) ties it to the program's text. -/
def laid_baudot_load_checks {H : Type} : DataW H := .iface "func table" (.agg [.iface "func" (.lit (.string [40, 98, 97, 117, 100, 111, 116, 47, 108, 111, 97, 100, 46, 98, 111, 111, 107, 41, 46, 110, 117, 109, 98, 101, 114, 115])), .iface "func" (.lit (.string [40, 98, 97, 117, 100, 111, 116, 47, 108, 111, 97, 100, 46, 98, 111, 111, 107, 41, 46, 103, 114, 111, 117, 112, 115]))])
def laid_baudot_load_nothing {H : Type} : DataW H := .agg [.lit (.int .i64 0), .lit (.int .i64 1)]

/-- 'baudotlaw05.LoadNeeds': WHATEVER THE INPUT: true; the input reads as it did. -/
def loadNeedsSpec : ChangeSpec := { name := "loadNeeds", fn := fun _ => fun
  | [d1, d2, d3] => { results := [.lit (.bool true)], args := [d1, d2, d3] }
  | _ => none }
def loadNeedsRow : OpenClaim := { program := "ytnnhaklgndahdaagreatdoor", sum := "21a845a16484f42ff79cde48c0e7551339c3c4de478d8841a69ffc03a03310b0", func := "baudot/baudotlaw05.LoadNeeds", spec := "loadNeeds", inPlace := ["(*sync.WaitGroup).Add", "internal/race.ReleaseMerge", "internal/race.Disable", "internal/race.Enable", "internal/synctest.IsInBubble", "internal/synctest.Associate[sync.WaitGroup]", "sync.fatal", "sync/atomic.OrUint64", "sync/atomic.AddUint64", "internal/race.Read", "sync/atomic.LoadUint64", "sync/atomic.StoreUint64", "internal/synctest.Disassociate[sync.WaitGroup]", "sync.runtime_Semrelease", "(*sync.WaitGroup).Done", "(*sync.WaitGroup).Wait", "internal/race.Acquire", "internal/synctest.IsAssociated[sync.WaitGroup]", "sync/atomic.CompareAndSwapUint64", "internal/race.Write", "sync.runtime_SemacquireWaitGroup"], unfollowed := true, recurses := true, named := ["baudot/load.checks", "baudot/load.nothing"], plainKeys := false, leaving := true, apart := false, laid := [("baudot/load.checks", laid_baudot_load_checks), ("baudot/load.nothing", laid_baudot_load_nothing)] }
def LoadNeedsSaid : Prop := loadNeedsRow.holds Tryz.pinned (OpenSpec.ofChange loadNeedsSpec)

/-- ITS FALSE NEIGHBOUR: 'it returns false'. Refute it at one input. -/
def loadNeedsWrong : ChangeSpec := { name := "loadNeeds", fn := fun _ => fun
  | [d1, d2, d3] => { results := [.lit (.bool false)], args := [d1, d2, d3] }
  | _ => none }
def LoadNeedsWrongFalsely : Prop := loadNeedsRow.holds Tryz.pinned (OpenSpec.ofChange loadNeedsWrong)

/-- 'baudotlaw05.LoadGrown': WHATEVER THE INPUT: true; the input reads as it did. -/
def loadGrownSpec : ChangeSpec := { name := "loadGrown", fn := fun _ => fun
  | [d1, d2, d3] => { results := [.lit (.bool true)], args := [d1, d2, d3] }
  | _ => none }
def loadGrownRow : OpenClaim := { program := "ytnnhaklgndahdaagreatdoor", sum := "21a845a16484f42ff79cde48c0e7551339c3c4de478d8841a69ffc03a03310b0", func := "baudot/baudotlaw05.LoadGrown", spec := "loadGrown", inPlace := ["(*sync.WaitGroup).Add", "internal/race.ReleaseMerge", "internal/race.Disable", "internal/race.Enable", "internal/synctest.IsInBubble", "internal/synctest.Associate[sync.WaitGroup]", "sync.fatal", "sync/atomic.OrUint64", "sync/atomic.AddUint64", "internal/race.Read", "sync/atomic.LoadUint64", "sync/atomic.StoreUint64", "internal/synctest.Disassociate[sync.WaitGroup]", "sync.runtime_Semrelease", "(*sync.WaitGroup).Done", "(*sync.WaitGroup).Wait", "internal/race.Acquire", "internal/synctest.IsAssociated[sync.WaitGroup]", "sync/atomic.CompareAndSwapUint64", "internal/race.Write", "sync.runtime_SemacquireWaitGroup"], unfollowed := true, recurses := true, named := ["baudot/load.checks", "baudot/load.nothing"], plainKeys := false, leaving := true, apart := false, laid := [("baudot/load.checks", laid_baudot_load_checks), ("baudot/load.nothing", laid_baudot_load_nothing)] }
def LoadGrownSaid : Prop := loadGrownRow.holds Tryz.pinned (OpenSpec.ofChange loadGrownSpec)

/-- ITS FALSE NEIGHBOUR: 'it returns false'. Refute it at one input. -/
def loadGrownWrong : ChangeSpec := { name := "loadGrown", fn := fun _ => fun
  | [d1, d2, d3] => { results := [.lit (.bool false)], args := [d1, d2, d3] }
  | _ => none }
def LoadGrownWrongFalsely : Prop := loadGrownRow.holds Tryz.pinned (OpenSpec.ofChange loadGrownWrong)

/- THE SECOND FORM. 'bulk': how many values and letters a reading holds, each counted each time it is reached (what is shared counts as often as it is met; a slice's spare places count too). A statement '..UptoSaid' is the law's where the arguments, and the package variables that the reading takes, are together of bulk at most 1048576: NARROWER than '..Said'. Prove '..Said' where nothing that the law and all that it calls make is longer than what came in: it says more and counts as full. Else prove '..UptoSaid'. A law counts once. -/
mutual
def uptoBulk {H : Type} : DataW H → Nat
  | .lit (.string bytes) => bytes.length + 1
  | .lit _ => 1
  | .nil => 1
  | .ptr d => uptoBulk d + 1
  | .slice elems spare => uptoBulkAll elems + uptoBulkAll spare + 1
  | .agg parts => uptoBulkAll parts + 1
  | .iface _ d => uptoBulk d + 1
  | .map entries => uptoBulkEntries entries + 1
  | .held _ => 1
def uptoBulkAll {H : Type} : List (DataW H) → Nat
  | [] => 0
  | d :: r => uptoBulk d + uptoBulkAll r
def uptoBulkEntries {H : Type} : List (Lit × DataW H) → Nat
  | [] => 0
  | x :: r => uptoBulkEntry x + uptoBulkEntries r
def uptoBulkEntry {H : Type} : Lit × DataW H → Nat
  | (.string bytes, d) => bytes.length + uptoBulk d + 1
  | (_, d) => uptoBulk d + 1
 end
def uptoSmall : (H : Type) → List (DataW H) → Bool := fun _ ds => decide (uptoBulkAll ds ≤ 1048576)
def OpenSpec.upto (s : _root_.Go.ChangeSpec) : _root_.Go.OpenSpec := { _root_.Go.OpenSpec.ofChange s with cond := some uptoSmall }

/-- 'baudotlaw05.LoadNeeds', WHERE WHAT IT READS IS OF BULK AT MOST 1048576: true; the input reads as it did. -/
def loadNeedsUptoRow : OpenClaim := { program := "ytnnhaklgndahdaagreatdoor", sum := "21a845a16484f42ff79cde48c0e7551339c3c4de478d8841a69ffc03a03310b0", func := "baudot/baudotlaw05.LoadNeeds", spec := "loadNeeds", inPlace := ["(*sync.WaitGroup).Add", "internal/race.ReleaseMerge", "internal/race.Disable", "internal/race.Enable", "internal/synctest.IsInBubble", "internal/synctest.Associate[sync.WaitGroup]", "sync.fatal", "sync/atomic.OrUint64", "sync/atomic.AddUint64", "internal/race.Read", "sync/atomic.LoadUint64", "sync/atomic.StoreUint64", "internal/synctest.Disassociate[sync.WaitGroup]", "sync.runtime_Semrelease", "(*sync.WaitGroup).Done", "(*sync.WaitGroup).Wait", "internal/race.Acquire", "internal/synctest.IsAssociated[sync.WaitGroup]", "sync/atomic.CompareAndSwapUint64", "internal/race.Write", "sync.runtime_SemacquireWaitGroup"], unfollowed := true, recurses := true, named := ["baudot/load.checks", "baudot/load.nothing"], plainKeys := false, leaving := true, apart := false, laid := [("baudot/load.checks", laid_baudot_load_checks), ("baudot/load.nothing", laid_baudot_load_nothing)], narrowed := true }
def LoadNeedsUptoSaid : Prop := loadNeedsUptoRow.holds Tryz.pinned (OpenSpec.upto loadNeedsSpec)

/-- 'baudotlaw05.LoadGrown', WHERE WHAT IT READS IS OF BULK AT MOST 1048576: true; the input reads as it did. -/
def loadGrownUptoRow : OpenClaim := { program := "ytnnhaklgndahdaagreatdoor", sum := "21a845a16484f42ff79cde48c0e7551339c3c4de478d8841a69ffc03a03310b0", func := "baudot/baudotlaw05.LoadGrown", spec := "loadGrown", inPlace := ["(*sync.WaitGroup).Add", "internal/race.ReleaseMerge", "internal/race.Disable", "internal/race.Enable", "internal/synctest.IsInBubble", "internal/synctest.Associate[sync.WaitGroup]", "sync.fatal", "sync/atomic.OrUint64", "sync/atomic.AddUint64", "internal/race.Read", "sync/atomic.LoadUint64", "sync/atomic.StoreUint64", "internal/synctest.Disassociate[sync.WaitGroup]", "sync.runtime_Semrelease", "(*sync.WaitGroup).Done", "(*sync.WaitGroup).Wait", "internal/race.Acquire", "internal/synctest.IsAssociated[sync.WaitGroup]", "sync/atomic.CompareAndSwapUint64", "internal/race.Write", "sync.runtime_SemacquireWaitGroup"], unfollowed := true, recurses := true, named := ["baudot/load.checks", "baudot/load.nothing"], plainKeys := false, leaving := true, apart := false, laid := [("baudot/load.checks", laid_baudot_load_checks), ("baudot/load.nothing", laid_baudot_load_nothing)], narrowed := true }
def LoadGrownUptoSaid : Prop := loadGrownUptoRow.holds Tryz.pinned (OpenSpec.upto loadGrownSpec)

end Rows
end Go.Proofs.YtnnhaklgndahdaaGreatDoor
