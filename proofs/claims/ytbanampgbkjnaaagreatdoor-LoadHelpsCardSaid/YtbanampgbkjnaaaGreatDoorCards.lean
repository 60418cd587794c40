/-
  DERIVED. GIVEN WITH THE SEED: THE CARDS: each row of YtbanampgbkjnaaaGreatDoorRows.lean that lists a variable, with what it lists TIED to the program's text (the seventh form; the later family's looks); each row that meets fmt, with fmt's text TOLD by the authors' own Lean function (tested against real Go, not proved from fmt's source: count such statements apart). THE CARD IS WHAT COUNTS. Prove the row's statement (the work); the ties are given (YtbanampgbkjnaaaGreatDoorTie.lean); close each card by the builder's one call (the guide's Derived/Test/ToyasCard.lean, 'card_holds'). Laid BY PROGRAM, IN A SANDBOX (cutbox-door.mjs). By AI agents, Wed Nov 11 2026. No macro, syntax, notation, axiom, sorry.
-/
import Derived.Test.YtbanampgbkjnaaaGreatDoorRows
import GoSem.ClaimSeven
namespace Go.Proofs.YtbanampgbkjnaaaGreatDoor
namespace Rows

/-- THE TIED CARD OF 'baudotlaw05.LoadHelps'. -/
def loadHelpsCard : Claim7 := { stood := { row := loadHelpsRow, standIns := [], harness := (true, "bd17df48936a04d079b6fb22439de23b31732fee4833455e7d1a90b7c7cef6a3"), looks := false }, kinds := [], alts := [], goes := true, laidByText := true, laidKinds := [.funcs, .data], laidTests := true, laidLooks := .later }
def LoadHelpsCardSaid : Prop := Claim7.holds Tryz.pinned (.plain (OpenSpec.ofChange loadHelpsSpec)) loadHelpsCard

/-- THE SECOND FORM's CARD OF 'baudotlaw05.LoadHelps'. -/
def loadHelpsUptoCard : Claim7 := { stood := { row := loadHelpsUptoRow, standIns := [], harness := (true, "bd17df48936a04d079b6fb22439de23b31732fee4833455e7d1a90b7c7cef6a3"), looks := false }, kinds := [], alts := [], goes := true, laidByText := true, laidKinds := [.funcs, .data], laidTests := true, laidLooks := .later }
def LoadHelpsUptoCardSaid : Prop := Claim7.holds Tryz.pinned (.plain (OpenSpec.upto loadHelpsSpec)) loadHelpsUptoCard
end Rows
end Go.Proofs.YtbanampgbkjnaaaGreatDoor
