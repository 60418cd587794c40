/-
  Lemmas about the program and the machine (L3 to L3), upon which the last text of this claim rests; no condition.
-/
import Derived.Test.YtjkbbnphdbgjiaaGreatDoorCz27
import Derived.Test.YtjkbbnphdbgjiaaGreatDoorCz13
set_option linter.unusedSimpArgs false
set_option linter.unusedVariables false
set_option maxRecDepth 100000
section
namespace Go.Proofs.YtjkbbnphdbgjiaaGreatDoor
open Go Go.Conc Go.Sim Go.Load Go.RowKit Go.ChangeShapes Go.WideShapes Go.ChangeAt
open Go.Proofs.Tryz
section
variable {H:Type} {enc:TypeId×Value->H} {W:World}
theorem qgG{v:Value}{d:DataW H}{ps:List MemPlace}{r:Reach}{b0:Nat}(hv:Value.okWide Tryz.prog W r b0 31 v)(h:DataW.Trod enc Tryz.prog W 0 (fun _=>true) true 31 v d ps):∃(q:List Int) (a:Option Addr) (c:Nat),v=.slice a q.length c/\RowRd W 1 Tryz.encI a q c:=by
 obtain⟨a,n,c,rfl⟩:=okWide_slice Tryz.underlying31 hv;obtain⟨fuel,h⟩:=h;obtain⟨l,a',c',e,hr,_⟩:=xK (k:=1) (encf:=Tryz.encI) (0:Int) Tryz.underlying31 (by kernel_rfl) (by decide) (fun _=>rfl) qdh (show TR enc W fuel 31 [.slice a n c]=some (d,ps)from h);simp only[List.cons.injEq,and_true]at e;exact⟨l,a',c',e,hr⟩
end
theorem qbK{W:World}{D:DayM}(h:DayRd W D):DayCap D:=⟨h.ts.cap.1,h.gs.cap.1,h.os.cap.1,fun o ho=>(h.or o ho).row.cap.1,fun o ho x hx=>((h.or o ho).ways x hx).cap.1,h.hs.cap.1,h.cs.cap.1⟩
def DqX(W:World)(D:DayM)(qa:Option Addr)(b:Nat):Prop:=DyX W D b\/((∃cs e f,W.heap[b]? = some (.cells cs e f))/\∃a,qa=some a/\a.block=b)
end Go.Proofs.YtjkbbnphdbgjiaaGreatDoor
end
