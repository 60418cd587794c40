/-
  Lemmas about the program and the machine (L3 to L3), upon which the last text of this claim rests; no condition.
-/
import Derived.Test.YtjkbbnphdbgjiaaGreatDoorEz27
import Derived.Test.YtjkbbnphdbgjiaaGreatDoorEz13
set_option linter.unusedSimpArgs false
set_option linter.unusedVariables false
section
namespace Go.Proofs.YtjkbbnphdbgjiaaGreatDoor
open Go Go.Conc Go.Sim Go.Load Go.RowKit Go.ChangeShapes Go.WideShapes Go.ChangeAt
open Go.Proofs.Tryz
section
variable {H:Type} {enc:TypeId×Value->H} {W:World}
end
theorem day_cap{W:World}{D:DayM}(h:DayRd W D):DayCap D:=⟨h.ts.cap.1,h.gs.cap.1,h.os.cap.1,fun o ho=>(h.or o ho).row.cap.1,fun o ho x hx=>((h.or o ho).ways x hx).cap.1,h.hs.cap.1,h.cs.cap.1⟩
end Go.Proofs.YtjkbbnphdbgjiaaGreatDoor
end
