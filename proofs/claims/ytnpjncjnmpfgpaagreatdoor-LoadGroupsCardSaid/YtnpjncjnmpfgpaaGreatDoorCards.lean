/-
  DERIVED. GIVEN WITH THE SEED: THE CARDS: each row of YtnpjncjnmpfgpaaGreatDoorRows.lean that lists a variable, with what it lists TIED to the program's text (the seventh form; the later family's looks); each row that meets fmt, with fmt's text TOLD by the authors' own Lean function (tested against real Go, not proved from fmt's source: count such statements apart). THE CARD IS WHAT COUNTS. Prove the row's statement (the work); the ties are given (YtnpjncjnmpfgpaaGreatDoorTie.lean); close each card by the builder's one call (the guide's Derived/Test/ToyasCard.lean, 'card_holds'). Laid BY PROGRAM, IN A SANDBOX (cutbox-door.mjs). By AI agents, Wed Nov 11 2026. No macro, syntax, notation, axiom, sorry.
-/
import Derived.Test.YtnpjncjnmpfgpaaGreatDoorRows
import GoSem.ClaimSeven
namespace Go.Proofs.YtnpjncjnmpfgpaaGreatDoor
namespace Rows

/-- THE TIED CARD OF 'baudotlaw05.LoadGroups'. -/
def loadGroupsCard : Claim7 := { stood := { row := loadGroupsRow, standIns := [], harness := (true, "e767d38925151260cccabb57be87e03eff8fdfe0f9fa5f91d5df07b88cad00be"), looks := false }, kinds := [], alts := [], goes := true, laidByText := true, laidKinds := [.funcs, .data], laidTests := true, laidLooks := .later }
def LoadGroupsCardSaid : Prop := Claim7.holds Tryz.pinned (.plain (OpenSpec.ofChange loadGroupsSpec)) loadGroupsCard

/-- THE TIED CARD OF 'baudotlaw05.LoadYears'. -/
def loadYearsCard : Claim7 := { stood := { row := loadYearsRow, standIns := [], harness := (true, "e767d38925151260cccabb57be87e03eff8fdfe0f9fa5f91d5df07b88cad00be"), looks := false }, kinds := [], alts := [], goes := true, laidByText := true, laidKinds := [.funcs, .data], laidTests := true, laidLooks := .later }
def LoadYearsCardSaid : Prop := Claim7.holds Tryz.pinned (.plain (OpenSpec.ofChange loadYearsSpec)) loadYearsCard

/-- THE TIED CARD OF 'baudotlaw05.LoadMore'. -/
def loadMoreCard : Claim7 := { stood := { row := loadMoreRow, standIns := [], harness := (true, "e767d38925151260cccabb57be87e03eff8fdfe0f9fa5f91d5df07b88cad00be"), looks := false }, kinds := [], alts := [], goes := true, laidByText := true, laidKinds := [.funcs, .data], laidTests := true, laidLooks := .later }
def LoadMoreCardSaid : Prop := Claim7.holds Tryz.pinned (.plain (OpenSpec.ofChange loadMoreSpec)) loadMoreCard

/-- THE SECOND FORM's CARD OF 'baudotlaw05.LoadGroups'. -/
def loadGroupsUptoCard : Claim7 := { stood := { row := loadGroupsUptoRow, standIns := [], harness := (true, "e767d38925151260cccabb57be87e03eff8fdfe0f9fa5f91d5df07b88cad00be"), looks := false }, kinds := [], alts := [], goes := true, laidByText := true, laidKinds := [.funcs, .data], laidTests := true, laidLooks := .later }
def LoadGroupsUptoCardSaid : Prop := Claim7.holds Tryz.pinned (.plain (OpenSpec.upto loadGroupsSpec)) loadGroupsUptoCard

/-- THE SECOND FORM's CARD OF 'baudotlaw05.LoadYears'. -/
def loadYearsUptoCard : Claim7 := { stood := { row := loadYearsUptoRow, standIns := [], harness := (true, "e767d38925151260cccabb57be87e03eff8fdfe0f9fa5f91d5df07b88cad00be"), looks := false }, kinds := [], alts := [], goes := true, laidByText := true, laidKinds := [.funcs, .data], laidTests := true, laidLooks := .later }
def LoadYearsUptoCardSaid : Prop := Claim7.holds Tryz.pinned (.plain (OpenSpec.upto loadYearsSpec)) loadYearsUptoCard

/-- THE SECOND FORM's CARD OF 'baudotlaw05.LoadMore'. -/
def loadMoreUptoCard : Claim7 := { stood := { row := loadMoreUptoRow, standIns := [], harness := (true, "e767d38925151260cccabb57be87e03eff8fdfe0f9fa5f91d5df07b88cad00be"), looks := false }, kinds := [], alts := [], goes := true, laidByText := true, laidKinds := [.funcs, .data], laidTests := true, laidLooks := .later }
def LoadMoreUptoCardSaid : Prop := Claim7.holds Tryz.pinned (.plain (OpenSpec.upto loadMoreSpec)) loadMoreUptoCard
end Rows
end Go.Proofs.YtnpjncjnmpfgpaaGreatDoor
