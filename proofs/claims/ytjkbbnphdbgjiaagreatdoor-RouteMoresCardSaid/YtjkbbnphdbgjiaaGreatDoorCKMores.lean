/-
  Lemmas about the program and the machine (KMores to KMores), upon which the last text of this claim rests; no condition.
-/
import Derived.Test.YtjkbbnphdbgjiaaGreatDoorCz28
import Derived.Test.YtjkbbnphdbgjiaaGreatDoorCxMorex01
set_option linter.unusedSimpArgs false
set_option linter.unusedVariables false
set_option maxRecDepth 100000
section
namespace Go.Proofs.YtjkbbnphdbgjiaaGreatDoor
open Go Go.Conc Go.Sim Go.Load Go.RowKit Go.ChangeShapes Go.WideShapes Go.ChangeAt
open Go.Proofs.Tryz
theorem routeMores_lone{H:Type}(enc:TypeId×Value->H)(W:World)(args:Array Value)(ds:List (DataW H))(h:YA enc Tryz.f4 W args ds):YB 4 W args:=by
 obtain⟨p,r,b0,hsz,hA,hv⟩:=h;have hp:Tryz.f4.params.toList=[28,5]:=rfl;have hg:∀(j:Nat) (t:TypeId) v,Tryz.f4.params.toList[j]? = some t->args.toList[j]? = some v->Value.okWide Tryz.prog W r b0 t v:=fun j t v h1 h2=>hv j t v (by simpa using h1) (by simpa using h2);rw[hp]at hA hg;obtain⟨v1,vs,d1,ds1,p1,q1,e1,rfl,_,h1,hA⟩:=trodAll_cons hA;obtain⟨v2,vs,d2,ds1,p2,q2,rfl,rfl,_,h2,hA⟩:=trodAll_cons hA;obtain⟨rfl,rfl,_⟩:=trodAll_nil hA;have ea:args=#[v1,v2]:=Array.toList_inj.1 e1;subst ea;obtain⟨D,rfl,hD⟩:=JZ (hg 0 _ _ rfl rfl) h1;obtain⟨x1,rfl,_,_,hx1⟩:=open_int Tryz.underlying5 (hg 1 _ _ rfl rfl) h2;have hx1:=(u8_wf _).1 hx1;refine⟨DyX W D,fun b h=>h.1,?_,?_⟩
 ·intro C R hR;refine⟨rfl,fun i u u' hu hu'=>?_⟩;rw[hu]at hu';cases hu';have hi:=(qz hu).1;rcases(show i=0\/i=1 by simp at hi;omega)with rfl|rfl
  ·cases hu;exact qhj hD (fun _ h=>h) hR
  ·cases hu;exact .int _ _
 ·intro w hG hk;exact Jr D x1 hx1 w hG (qfe hD (fun _ h=>h) hk) (qbK hD)
theorem routeMores_lifted(os:Os)(started:os.Started)(H:Type)(enc:TypeId×Value->H) :
 ReturnsInLeavingWide {} Tryz.checked os 4 .any (fun w args=>(Rows.routeMoresSpec.pre enc Tryz.prog Tryz.f4 [] false w args/\laidMetH Tryz.prog laidAll w)/\sizedMet enc Tryz.prog Tryz.f4 (OpenSpec.ofChange Rows.routeMoresSpec) false w args)
  (Rows.routeMoresSpec.post enc Tryz.prog Tryz.f4 false true false false) :=
 qfW os started H enc Tryz.func4 rfl rfl (fun ds h=>by
  match ds,h with
  | [_,_],_=>rfl) (by decide +kernel) (by decide +kernel) (by decide) (fun W args ds h=>routeMores_lone enc W args ds h)
  (ChangeSpec.witness_shaped (enc:=enc) (C:=Tryz.checked) (os:=os) (X:=fun w _=>laidMetH Tryz.prog laidAll w) false (World.doorLaid Tryz.prog 19 os) #[.agg #[.slice none 0 0,.slice none 0 0,.slice none 0 0,.slice none 0 0,.slice none 0 0],.int .u8 0] 8 rfl (World.shaped_of_RefB (by kernel_rfl) (by kernel_rfl)) (by kernel_rfl) (by kernel_rfl) (by kernel_rfl) (JC os _))
theorem routeMores_holds:Rows.RouteMoresSaid :=
 OpenClaim.holds_of_wide_leaving 4 Tryz.f4 rfl rfl rfl rfl rfl rfl rfl ⟨rfl,rfl,rfl,rfl,rfl⟩ rfl rfl rfl rfl rfl (by kernel_rfl) Tryz.func4 (by kernel_rfl)
  (of_decide_eq_true (by kernel_rfl)) (by unfold Func.isWrapper;first|(rw[if_pos (by decide +kernel)];kernel_rfl)|(rw[if_neg (by decide +kernel)];exact⟨rfl,rfl⟩))
  (fun os started H enc _=>routeMores_lifted os started H enc)
theorem routeMores_card:Rows.RouteMoresCardSaid :=
 XC .later [] [.funcs] true (true, "2c8dd83a2f945dfa03265bc5cb74b84c93a6f6aa22da1d88524b1be5f2b437bb") false
  routeMores_holds (fun _ h=>by cases h) (by kernel_rfl) (fun _ h=>by cases h) routeMores_row_tie rfl ⟨rfl,rfl⟩ (by kernel_rfl) rfl
  (fun f fn hf hfn=>by
    obtain rfl:f=4:=qB ((show Tryz.prog.funcNamed "baudot/baudotlaw04.RouteMores"=some 4 by kernel_rfl).symm.trans hf) |>.symm;obtain rfl:fn=Tryz.f4:=(qB (Tryz.func4.symm.trans hfn)).symm
    exact⟨by kernel_rfl,fun j t ht=>by
     have hm:t∈[28,5]:=qI (i:=j) (by rw[<-Array.getElem?_toList]at ht;exact ht)
     exact(show ∀t∈[28,5],Tryz.prog.wantsStandIn t=false by decide +kernel) t hm⟩)
  (by kernel_rfl)
end Go.Proofs.YtjkbbnphdbgjiaaGreatDoor
end
