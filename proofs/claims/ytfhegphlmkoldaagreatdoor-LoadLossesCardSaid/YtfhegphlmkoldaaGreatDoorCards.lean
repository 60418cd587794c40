/-
  DERIVED. GIVEN WITH THE SEED: THE CARDS: each row of YtfhegphlmkoldaaGreatDoorRows.lean that lists a variable, with what it lists TIED to the program's text (the seventh form; the later family's looks); each row that meets fmt, with fmt's text TOLD by the authors' own Lean function (tested against real Go, not proved from fmt's source: count such statements apart). THE CARD IS WHAT COUNTS. Prove the row's statement (the work); the ties are given (YtfhegphlmkoldaaGreatDoorTie.lean); close each card by the builder's one call (the guide's Derived/Test/ToyasCard.lean, 'card_holds'). Laid BY PROGRAM, IN A SANDBOX (cutbox-door.mjs). By AI agents, Wed Nov 11 2026. No macro, syntax, notation, axiom, sorry.
-/
import Derived.Test.YtfhegphlmkoldaaGreatDoorRows
import GoSem.ClaimSeven
namespace Go.Proofs.YtfhegphlmkoldaaGreatDoor
namespace Rows

/-- THE TIED CARD OF 'baudotlaw05.LoadLosses'. -/
def loadLossesCard : Claim7 := { stood := { row := loadLossesRow, standIns := [], harness := (true, "0a1097af0b26f1979bd1a9193a150571c343d87846bfc6f83077b9c4067a5c5f"), looks := false }, kinds := [], alts := [], goes := true, laidByText := true, laidKinds := [.funcs, .data], laidTests := true, laidLooks := .later }
def LoadLossesCardSaid : Prop := Claim7.holds Tryz.pinned (.plain (OpenSpec.ofChange loadLossesSpec)) loadLossesCard

/-- THE SECOND FORM's CARD OF 'baudotlaw05.LoadLosses'. -/
def loadLossesUptoCard : Claim7 := { stood := { row := loadLossesUptoRow, standIns := [], harness := (true, "0a1097af0b26f1979bd1a9193a150571c343d87846bfc6f83077b9c4067a5c5f"), looks := false }, kinds := [], alts := [], goes := true, laidByText := true, laidKinds := [.funcs, .data], laidTests := true, laidLooks := .later }
def LoadLossesUptoCardSaid : Prop := Claim7.holds Tryz.pinned (.plain (OpenSpec.upto loadLossesSpec)) loadLossesUptoCard
end Rows
end Go.Proofs.YtfhegphlmkoldaaGreatDoor
