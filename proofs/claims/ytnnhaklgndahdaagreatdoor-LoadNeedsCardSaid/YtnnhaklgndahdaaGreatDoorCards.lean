/-
  DERIVED. GIVEN WITH THE SEED: THE CARDS: each row of YtnnhaklgndahdaaGreatDoorRows.lean that lists a variable, with what it lists TIED to the program's text (the seventh form; the later family's looks); each row that meets fmt, with fmt's text TOLD by the authors' own Lean function (tested against real Go, not proved from fmt's source: count such statements apart). THE CARD IS WHAT COUNTS. Prove the row's statement (the work); the ties are given (YtnnhaklgndahdaaGreatDoorTie.lean); close each card by the builder's one call (the guide's Derived/Test/ToyasCard.lean, 'card_holds'). Laid BY PROGRAM, IN A SANDBOX (cutbox-door.mjs). By AI agents, Wed Nov 11 2026. No macro, syntax, notation, axiom, sorry.
-/
import Derived.Test.YtnnhaklgndahdaaGreatDoorRows
import GoSem.ClaimSeven
namespace Go.Proofs.YtnnhaklgndahdaaGreatDoor
namespace Rows

/-- THE TIED CARD OF 'baudotlaw05.LoadNeeds'. -/
def loadNeedsCard : Claim7 := { stood := { row := loadNeedsRow, standIns := [], harness := (true, "83517d030044eba01c9b4ae5323e1868c1dc3ac756cf76fbf4c2c0fbdea5b907"), looks := false }, kinds := [], alts := [], goes := true, laidByText := true, laidKinds := [.funcs, .data], laidTests := true, laidLooks := .later }
def LoadNeedsCardSaid : Prop := Claim7.holds Tryz.pinned (.plain (OpenSpec.ofChange loadNeedsSpec)) loadNeedsCard

/-- THE TIED CARD OF 'baudotlaw05.LoadGrown'. -/
def loadGrownCard : Claim7 := { stood := { row := loadGrownRow, standIns := [], harness := (true, "83517d030044eba01c9b4ae5323e1868c1dc3ac756cf76fbf4c2c0fbdea5b907"), looks := false }, kinds := [], alts := [], goes := true, laidByText := true, laidKinds := [.funcs, .data], laidTests := true, laidLooks := .later }
def LoadGrownCardSaid : Prop := Claim7.holds Tryz.pinned (.plain (OpenSpec.ofChange loadGrownSpec)) loadGrownCard

/-- THE SECOND FORM's CARD OF 'baudotlaw05.LoadNeeds'. -/
def loadNeedsUptoCard : Claim7 := { stood := { row := loadNeedsUptoRow, standIns := [], harness := (true, "83517d030044eba01c9b4ae5323e1868c1dc3ac756cf76fbf4c2c0fbdea5b907"), looks := false }, kinds := [], alts := [], goes := true, laidByText := true, laidKinds := [.funcs, .data], laidTests := true, laidLooks := .later }
def LoadNeedsUptoCardSaid : Prop := Claim7.holds Tryz.pinned (.plain (OpenSpec.upto loadNeedsSpec)) loadNeedsUptoCard

/-- THE SECOND FORM's CARD OF 'baudotlaw05.LoadGrown'. -/
def loadGrownUptoCard : Claim7 := { stood := { row := loadGrownUptoRow, standIns := [], harness := (true, "83517d030044eba01c9b4ae5323e1868c1dc3ac756cf76fbf4c2c0fbdea5b907"), looks := false }, kinds := [], alts := [], goes := true, laidByText := true, laidKinds := [.funcs, .data], laidTests := true, laidLooks := .later }
def LoadGrownUptoCardSaid : Prop := Claim7.holds Tryz.pinned (.plain (OpenSpec.upto loadGrownSpec)) loadGrownUptoCard
end Rows
end Go.Proofs.YtnnhaklgndahdaaGreatDoor
