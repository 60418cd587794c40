/-
  DERIVED. GIVEN WITH THE SEED: THE CARDS: each row of YtodbbjmchbgpiaaGreatDoorRows.lean that lists a variable, with what it lists TIED to the program's text (the seventh form; the later family's looks); each row that meets fmt, with fmt's text TOLD by the authors' own Lean function (tested against real Go, not proved from fmt's source: count such statements apart). THE CARD IS WHAT COUNTS. Prove the row's statement (the work); the ties are given (YtodbbjmchbgpiaaGreatDoorTie.lean); close each card by the builder's one call (the guide's Derived/Test/ToyasCard.lean, 'card_holds'). Laid BY PROGRAM, IN A SANDBOX (cutbox-door.mjs). By AI agents, Wed Nov 11 2026. No macro, syntax, notation, axiom, sorry.
-/
import Derived.Test.YtodbbjmchbgpiaaGreatDoorRows
import GoSem.ClaimSeven
namespace Go.Proofs.YtodbbjmchbgpiaaGreatDoor
namespace Rows

/-- THE TIED CARD OF 'baudotlaw05.LoadTotal'. -/
def loadTotalCard : Claim7 := { stood := { row := loadTotalRow, standIns := [], harness := (true, "deeacc597ee8d72657b42a9e1b9ad691eaf58c0075bd1245d623246389194467"), looks := false }, kinds := [], alts := [], goes := true, laidByText := true, laidKinds := [.funcs, .data], laidTests := true, laidLooks := .later }
def LoadTotalCardSaid : Prop := Claim7.holds Tryz.pinned (.plain (OpenSpec.ofChange loadTotalSpec)) loadTotalCard

/-- THE TIED CARD OF 'baudotlaw05.LoadSpread'. -/
def loadSpreadCard : Claim7 := { stood := { row := loadSpreadRow, standIns := [], harness := (true, "deeacc597ee8d72657b42a9e1b9ad691eaf58c0075bd1245d623246389194467"), looks := false }, kinds := [], alts := [], goes := true, laidByText := true, laidKinds := [.funcs, .data], laidTests := true, laidLooks := .later }
def LoadSpreadCardSaid : Prop := Claim7.holds Tryz.pinned (.plain (OpenSpec.ofChange loadSpreadSpec)) loadSpreadCard

/-- THE TIED CARD OF 'baudotlaw05.LoadMore'. -/
def loadMoreCard : Claim7 := { stood := { row := loadMoreRow, standIns := [], harness := (true, "deeacc597ee8d72657b42a9e1b9ad691eaf58c0075bd1245d623246389194467"), looks := false }, kinds := [], alts := [], goes := true, laidByText := true, laidKinds := [.funcs, .data], laidTests := true, laidLooks := .later }
def LoadMoreCardSaid : Prop := Claim7.holds Tryz.pinned (.plain (OpenSpec.ofChange loadMoreSpec)) loadMoreCard

/-- THE TIED CARD OF 'baudotlaw05.LoadYears'. -/
def loadYearsCard : Claim7 := { stood := { row := loadYearsRow, standIns := [], harness := (true, "deeacc597ee8d72657b42a9e1b9ad691eaf58c0075bd1245d623246389194467"), looks := false }, kinds := [], alts := [], goes := true, laidByText := true, laidKinds := [.funcs, .data], laidTests := true, laidLooks := .later }
def LoadYearsCardSaid : Prop := Claim7.holds Tryz.pinned (.plain (OpenSpec.ofChange loadYearsSpec)) loadYearsCard

/-- THE TIED CARD OF 'baudotlaw05.LoadGroups'. -/
def loadGroupsCard : Claim7 := { stood := { row := loadGroupsRow, standIns := [], harness := (true, "deeacc597ee8d72657b42a9e1b9ad691eaf58c0075bd1245d623246389194467"), looks := false }, kinds := [], alts := [], goes := true, laidByText := true, laidKinds := [.funcs, .data], laidTests := true, laidLooks := .later }
def LoadGroupsCardSaid : Prop := Claim7.holds Tryz.pinned (.plain (OpenSpec.ofChange loadGroupsSpec)) loadGroupsCard

/-- THE SECOND FORM's CARD OF 'baudotlaw05.LoadTotal'. -/
def loadTotalUptoCard : Claim7 := { stood := { row := loadTotalUptoRow, standIns := [], harness := (true, "deeacc597ee8d72657b42a9e1b9ad691eaf58c0075bd1245d623246389194467"), looks := false }, kinds := [], alts := [], goes := true, laidByText := true, laidKinds := [.funcs, .data], laidTests := true, laidLooks := .later }
def LoadTotalUptoCardSaid : Prop := Claim7.holds Tryz.pinned (.plain (OpenSpec.upto loadTotalSpec)) loadTotalUptoCard

/-- THE SECOND FORM's CARD OF 'baudotlaw05.LoadSpread'. -/
def loadSpreadUptoCard : Claim7 := { stood := { row := loadSpreadUptoRow, standIns := [], harness := (true, "deeacc597ee8d72657b42a9e1b9ad691eaf58c0075bd1245d623246389194467"), looks := false }, kinds := [], alts := [], goes := true, laidByText := true, laidKinds := [.funcs, .data], laidTests := true, laidLooks := .later }
def LoadSpreadUptoCardSaid : Prop := Claim7.holds Tryz.pinned (.plain (OpenSpec.upto loadSpreadSpec)) loadSpreadUptoCard

/-- THE SECOND FORM's CARD OF 'baudotlaw05.LoadMore'. -/
def loadMoreUptoCard : Claim7 := { stood := { row := loadMoreUptoRow, standIns := [], harness := (true, "deeacc597ee8d72657b42a9e1b9ad691eaf58c0075bd1245d623246389194467"), looks := false }, kinds := [], alts := [], goes := true, laidByText := true, laidKinds := [.funcs, .data], laidTests := true, laidLooks := .later }
def LoadMoreUptoCardSaid : Prop := Claim7.holds Tryz.pinned (.plain (OpenSpec.upto loadMoreSpec)) loadMoreUptoCard

/-- THE SECOND FORM's CARD OF 'baudotlaw05.LoadYears'. -/
def loadYearsUptoCard : Claim7 := { stood := { row := loadYearsUptoRow, standIns := [], harness := (true, "deeacc597ee8d72657b42a9e1b9ad691eaf58c0075bd1245d623246389194467"), looks := false }, kinds := [], alts := [], goes := true, laidByText := true, laidKinds := [.funcs, .data], laidTests := true, laidLooks := .later }
def LoadYearsUptoCardSaid : Prop := Claim7.holds Tryz.pinned (.plain (OpenSpec.upto loadYearsSpec)) loadYearsUptoCard

/-- THE SECOND FORM's CARD OF 'baudotlaw05.LoadGroups'. -/
def loadGroupsUptoCard : Claim7 := { stood := { row := loadGroupsUptoRow, standIns := [], harness := (true, "deeacc597ee8d72657b42a9e1b9ad691eaf58c0075bd1245d623246389194467"), looks := false }, kinds := [], alts := [], goes := true, laidByText := true, laidKinds := [.funcs, .data], laidTests := true, laidLooks := .later }
def LoadGroupsUptoCardSaid : Prop := Claim7.holds Tryz.pinned (.plain (OpenSpec.upto loadGroupsSpec)) loadGroupsUptoCard
end Rows
end Go.Proofs.YtodbbjmchbgpiaaGreatDoor
