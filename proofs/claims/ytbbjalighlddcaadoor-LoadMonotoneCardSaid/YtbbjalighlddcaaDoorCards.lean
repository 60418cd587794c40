/-
  DERIVED. GIVEN WITH THE SEED: THE CARDS: each row of YtbbjalighlddcaaDoorRows.lean that lists a variable, with what it lists TIED to the program's text (the seventh form; the later family's looks); each row that meets fmt, with fmt's text TOLD by the authors' own Lean function (tested against real Go, not proved from fmt's source: count such statements apart). THE CARD IS WHAT COUNTS. Prove the row's statement (the work); the ties are given (YtbbjalighlddcaaDoorTie.lean); close each card by the builder's one call (the guide's Derived/Test/ToyasCard.lean, 'card_holds'). Laid BY PROGRAM, IN A SANDBOX (cutbox-door.mjs). By AI agents, Wed Nov 11 2026. No macro, syntax, notation, axiom, sorry.
-/
import Derived.Test.YtbbjalighlddcaaDoorRows
import GoSem.ClaimSeven
namespace Go.Proofs.YtbbjalighlddcaaDoor
namespace Rows

/-- THE TIED CARD OF 'baudotlaw05.LoadRule'. -/
def loadRuleCard : Claim7 := { stood := { row := loadRuleRow, standIns := [], harness := (true, "909709116b50f11fe46b3276edca8e69296c4c4861cddc99da238510f1fa2e59"), looks := false }, kinds := [], alts := [], goes := true, laidByText := true, laidKinds := [.funcs, .data], laidTests := true, laidLooks := .later }
def LoadRuleCardSaid : Prop := Claim7.holds Tryd.pinned (.plain (OpenSpec.ofChange loadRuleSpec)) loadRuleCard

/-- THE TIED CARD OF 'baudotlaw05.LoadSum'. -/
def loadSumCard : Claim7 := { stood := { row := loadSumRow, standIns := [], harness := (true, "909709116b50f11fe46b3276edca8e69296c4c4861cddc99da238510f1fa2e59"), looks := false }, kinds := [], alts := [], goes := true, laidByText := true, laidKinds := [.funcs, .data], laidTests := true, laidLooks := .later }
def LoadSumCardSaid : Prop := Claim7.holds Tryd.pinned (.plain (OpenSpec.ofChange loadSumSpec)) loadSumCard

/-- THE TIED CARD OF 'baudotlaw05.LoadMonotone'. -/
def loadMonotoneCard : Claim7 := { stood := { row := loadMonotoneRow, standIns := [], harness := (true, "909709116b50f11fe46b3276edca8e69296c4c4861cddc99da238510f1fa2e59"), looks := false }, kinds := [], alts := [], goes := true, laidByText := true, laidKinds := [.funcs, .data], laidTests := true, laidLooks := .later }
def LoadMonotoneCardSaid : Prop := Claim7.holds Tryd.pinned (.plain (OpenSpec.ofChange loadMonotoneSpec)) loadMonotoneCard

/-- THE TIED CARD OF 'baudotlaw05.LoadEnough'. -/
def loadEnoughCard : Claim7 := { stood := { row := loadEnoughRow, standIns := [], harness := (true, "909709116b50f11fe46b3276edca8e69296c4c4861cddc99da238510f1fa2e59"), looks := false }, kinds := [], alts := [], goes := true, laidByText := true, laidKinds := [.funcs, .data], laidTests := true, laidLooks := .later }
def LoadEnoughCardSaid : Prop := Claim7.holds Tryd.pinned (.plain (OpenSpec.ofChange loadEnoughSpec)) loadEnoughCard

/-- THE TIED CARD OF 'baudotlaw05.LoadBears'. -/
def loadBearsCard : Claim7 := { stood := { row := loadBearsRow, standIns := [], harness := (true, "909709116b50f11fe46b3276edca8e69296c4c4861cddc99da238510f1fa2e59"), looks := false }, kinds := [], alts := [], goes := true, laidByText := true, laidKinds := [.funcs, .data], laidTests := true, laidLooks := .later }
def LoadBearsCardSaid : Prop := Claim7.holds Tryd.pinned (.plain (OpenSpec.ofChange loadBearsSpec)) loadBearsCard

/-- THE TIED CARD OF 'baudotlaw05.LoadCounts'. -/
def loadCountsCard : Claim7 := { stood := { row := loadCountsRow, standIns := [], harness := (true, "909709116b50f11fe46b3276edca8e69296c4c4861cddc99da238510f1fa2e59"), looks := false }, kinds := [], alts := [], goes := true, laidByText := true, laidKinds := [.funcs, .data], laidTests := true, laidLooks := .later }
def LoadCountsCardSaid : Prop := Claim7.holds Tryd.pinned (.plain (OpenSpec.ofChange loadCountsSpec)) loadCountsCard

/-- THE SECOND FORM's CARD OF 'baudotlaw05.LoadRule'. -/
def loadRuleUptoCard : Claim7 := { stood := { row := loadRuleUptoRow, standIns := [], harness := (true, "909709116b50f11fe46b3276edca8e69296c4c4861cddc99da238510f1fa2e59"), looks := false }, kinds := [], alts := [], goes := true, laidByText := true, laidKinds := [.funcs, .data], laidTests := true, laidLooks := .later }
def LoadRuleUptoCardSaid : Prop := Claim7.holds Tryd.pinned (.plain (OpenSpec.upto loadRuleSpec)) loadRuleUptoCard

/-- THE SECOND FORM's CARD OF 'baudotlaw05.LoadSum'. -/
def loadSumUptoCard : Claim7 := { stood := { row := loadSumUptoRow, standIns := [], harness := (true, "909709116b50f11fe46b3276edca8e69296c4c4861cddc99da238510f1fa2e59"), looks := false }, kinds := [], alts := [], goes := true, laidByText := true, laidKinds := [.funcs, .data], laidTests := true, laidLooks := .later }
def LoadSumUptoCardSaid : Prop := Claim7.holds Tryd.pinned (.plain (OpenSpec.upto loadSumSpec)) loadSumUptoCard

/-- THE SECOND FORM's CARD OF 'baudotlaw05.LoadMonotone'. -/
def loadMonotoneUptoCard : Claim7 := { stood := { row := loadMonotoneUptoRow, standIns := [], harness := (true, "909709116b50f11fe46b3276edca8e69296c4c4861cddc99da238510f1fa2e59"), looks := false }, kinds := [], alts := [], goes := true, laidByText := true, laidKinds := [.funcs, .data], laidTests := true, laidLooks := .later }
def LoadMonotoneUptoCardSaid : Prop := Claim7.holds Tryd.pinned (.plain (OpenSpec.upto loadMonotoneSpec)) loadMonotoneUptoCard

/-- THE SECOND FORM's CARD OF 'baudotlaw05.LoadEnough'. -/
def loadEnoughUptoCard : Claim7 := { stood := { row := loadEnoughUptoRow, standIns := [], harness := (true, "909709116b50f11fe46b3276edca8e69296c4c4861cddc99da238510f1fa2e59"), looks := false }, kinds := [], alts := [], goes := true, laidByText := true, laidKinds := [.funcs, .data], laidTests := true, laidLooks := .later }
def LoadEnoughUptoCardSaid : Prop := Claim7.holds Tryd.pinned (.plain (OpenSpec.upto loadEnoughSpec)) loadEnoughUptoCard

/-- THE SECOND FORM's CARD OF 'baudotlaw05.LoadBears'. -/
def loadBearsUptoCard : Claim7 := { stood := { row := loadBearsUptoRow, standIns := [], harness := (true, "909709116b50f11fe46b3276edca8e69296c4c4861cddc99da238510f1fa2e59"), looks := false }, kinds := [], alts := [], goes := true, laidByText := true, laidKinds := [.funcs, .data], laidTests := true, laidLooks := .later }
def LoadBearsUptoCardSaid : Prop := Claim7.holds Tryd.pinned (.plain (OpenSpec.upto loadBearsSpec)) loadBearsUptoCard

/-- THE SECOND FORM's CARD OF 'baudotlaw05.LoadCounts'. -/
def loadCountsUptoCard : Claim7 := { stood := { row := loadCountsUptoRow, standIns := [], harness := (true, "909709116b50f11fe46b3276edca8e69296c4c4861cddc99da238510f1fa2e59"), looks := false }, kinds := [], alts := [], goes := true, laidByText := true, laidKinds := [.funcs, .data], laidTests := true, laidLooks := .later }
def LoadCountsUptoCardSaid : Prop := Claim7.holds Tryd.pinned (.plain (OpenSpec.upto loadCountsSpec)) loadCountsUptoCard
end Rows
end Go.Proofs.YtbbjalighlddcaaDoor
