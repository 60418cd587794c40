/-
  DERIVED. GIVEN WITH THE SEED: THE CARDS: each row of YtnppdbdkjooocaaGreatDoorRows.lean that lists a variable, with what it lists TIED to the program's text (the seventh form; the later family's looks); each row that meets fmt, with fmt's text TOLD by the authors' own Lean function (tested against real Go, not proved from fmt's source: count such statements apart). THE CARD IS WHAT COUNTS. Prove the row's statement (the work); the ties are given (YtnppdbdkjooocaaGreatDoorTie.lean); close each card by the builder's one call (the guide's Derived/Test/ToyasCard.lean, 'card_holds'). Laid BY PROGRAM, IN A SANDBOX (cutbox-door.mjs). By AI agents, Wed Nov 11 2026. No macro, syntax, notation, axiom, sorry.
-/
import Derived.Test.YtnppdbdkjooocaaGreatDoorRows
import GoSem.ClaimSeven
namespace Go.Proofs.YtnppdbdkjooocaaGreatDoor
namespace Rows

/-- THE TIED CARD OF 'baudotlaw05.LoadYear'. -/
def loadYearCard : Claim7 := { stood := { row := loadYearRow, standIns := [], harness := (true, "ed8296b9162276914698ba3f942e5cf660cc94b13f673dd652eaaf57b66f4eca"), looks := false }, kinds := [], alts := [], goes := true, laidByText := true, laidKinds := [.funcs, .data], laidTests := true, laidLooks := .later }
def LoadYearCardSaid : Prop := Claim7.holds Tryz.pinned (.plain (OpenSpec.ofChange loadYearSpec)) loadYearCard

/-- THE TIED CARD OF 'baudotlaw05.LoadAnyOrder'. -/
def loadAnyOrderCard : Claim7 := { stood := { row := loadAnyOrderRow, standIns := [], harness := (true, "ed8296b9162276914698ba3f942e5cf660cc94b13f673dd652eaaf57b66f4eca"), looks := false }, kinds := [], alts := [], goes := true, laidByText := true, laidKinds := [.funcs, .data], laidTests := true, laidLooks := .later }
def LoadAnyOrderCardSaid : Prop := Claim7.holds Tryz.pinned (.plain (OpenSpec.ofChange loadAnyOrderSpec)) loadAnyOrderCard

/-- THE SECOND FORM's CARD OF 'baudotlaw05.LoadYear'. -/
def loadYearUptoCard : Claim7 := { stood := { row := loadYearUptoRow, standIns := [], harness := (true, "ed8296b9162276914698ba3f942e5cf660cc94b13f673dd652eaaf57b66f4eca"), looks := false }, kinds := [], alts := [], goes := true, laidByText := true, laidKinds := [.funcs, .data], laidTests := true, laidLooks := .later }
def LoadYearUptoCardSaid : Prop := Claim7.holds Tryz.pinned (.plain (OpenSpec.upto loadYearSpec)) loadYearUptoCard

/-- THE SECOND FORM's CARD OF 'baudotlaw05.LoadAnyOrder'. -/
def loadAnyOrderUptoCard : Claim7 := { stood := { row := loadAnyOrderUptoRow, standIns := [], harness := (true, "ed8296b9162276914698ba3f942e5cf660cc94b13f673dd652eaaf57b66f4eca"), looks := false }, kinds := [], alts := [], goes := true, laidByText := true, laidKinds := [.funcs, .data], laidTests := true, laidLooks := .later }
def LoadAnyOrderUptoCardSaid : Prop := Claim7.holds Tryz.pinned (.plain (OpenSpec.upto loadAnyOrderSpec)) loadAnyOrderUptoCard
end Rows
end Go.Proofs.YtnppdbdkjooocaaGreatDoor
