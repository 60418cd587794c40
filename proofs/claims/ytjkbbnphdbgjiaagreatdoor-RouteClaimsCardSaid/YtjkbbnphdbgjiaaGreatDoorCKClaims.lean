/-
  Lemmas about the program and the machine (KClaims to KClaims), upon which the last text of this claim rests; no condition.
-/
import Derived.Test.YtjkbbnphdbgjiaaGreatDoorCz28
import Derived.Test.YtjkbbnphdbgjiaaGreatDoorCxClaix01
set_option linter.unusedSimpArgs false
set_option linter.unusedVariables false
set_option maxRecDepth 100000
section
namespace Go.Proofs.YtjkbbnphdbgjiaaGreatDoor
open Go Go.Conc Go.Sim Go.Load Go.RowKit Go.ChangeShapes Go.WideShapes Go.ChangeAt
open Go.Proofs.Tryz
theorem routeClaims_lone{H:Type}(enc:TypeId×Value->H)(W:World)(args:Array Value)(ds:List (DataW H))(h:YA enc Tryz.f3 W args ds):YB 3 W args:=by
 obtain⟨p,r,b0,hsz,hA,hv⟩:=h;have hp:Tryz.f3.params.toList=[28,3,3,3]:=rfl;have hg:∀(j:Nat) (t:TypeId) v,Tryz.f3.params.toList[j]? = some t->args.toList[j]? = some v->Value.okWide Tryz.prog W r b0 t v:=fun j t v h1 h2=>hv j t v (by simpa using h1) (by simpa using h2);rw[hp]at hA hg;obtain⟨v1,vs,d1,ds1,p1,q1,e1,rfl,_,h1,hA⟩:=trodAll_cons hA;obtain⟨v2,vs,d2,ds1,p2,q2,rfl,rfl,_,h2,hA⟩:=trodAll_cons hA;obtain⟨v3,vs,d3,ds1,p3,q3,rfl,rfl,_,h3,hA⟩:=trodAll_cons hA;obtain⟨v4,vs,d4,ds1,p4,q4,rfl,rfl,_,h4,hA⟩:=trodAll_cons hA;obtain⟨rfl,rfl,_⟩:=trodAll_nil hA;have ea:args=#[v1,v2,v3,v4]:=Array.toList_inj.1 e1;subst ea;obtain⟨D,rfl,hD⟩:=JZ (hg 0 _ _ rfl rfl) h1;obtain⟨x1,rfl,_⟩:=open_int Tryz.underlying3 (hg 1 _ _ rfl rfl) h2;obtain⟨x2,rfl,_⟩:=open_int Tryz.underlying3 (hg 2 _ _ rfl rfl) h3;obtain⟨x3,rfl,_⟩:=open_int Tryz.underlying3 (hg 3 _ _ rfl rfl) h4;refine⟨DyX W D,fun b h=>h.1,?_,?_⟩
 ·intro C R hR;refine⟨rfl,fun i u u' hu hu'=>?_⟩;rw[hu]at hu';cases hu';have hi:=(qz hu).1;rcases(show i=0\/i=1\/i=2\/i=3 by simp at hi;omega)with rfl|rfl|rfl|rfl
  ·cases hu;exact qhj hD (fun _ h=>h) hR
  ·cases hu;exact .int _ _
  ·cases hu;exact .int _ _
  ·cases hu;exact .int _ _
 ·intro w hG hk;exact XF D x1 x2 x3 w hG (qfe hD (fun _ h=>h) hk) (qbK hD)
theorem routeClaims_lifted(os:Os)(started:os.Started)(H:Type)(enc:TypeId×Value->H) :
 ReturnsInLeavingWide {} Tryz.checked os 3 .any (fun w args=>(Rows.routeClaimsSpec.pre enc Tryz.prog Tryz.f3 [] false w args/\laidMetH Tryz.prog laidAll w)/\sizedMet enc Tryz.prog Tryz.f3 (OpenSpec.ofChange Rows.routeClaimsSpec) false w args)
  (Rows.routeClaimsSpec.post enc Tryz.prog Tryz.f3 false true false false) :=
 qfW os started H enc Tryz.func3 rfl rfl (fun ds h=>by
  match ds,h with
  | [_,_,_,_],_=>rfl) (by decide +kernel) (by decide +kernel) (by decide) (fun W args ds h=>routeClaims_lone enc W args ds h)
  (ChangeSpec.witness_shaped (enc:=enc) (C:=Tryz.checked) (os:=os) (X:=fun w _=>laidMetH Tryz.prog laidAll w) false (World.doorLaid Tryz.prog 19 os) #[.agg #[.slice none 0 0,.slice none 0 0,.slice none 0 0,.slice none 0 0,.slice none 0 0],.int .i64 0,.int .i64 0,.int .i64 0] 8 rfl (World.shaped_of_RefB (by kernel_rfl) (by kernel_rfl)) (by kernel_rfl) (by kernel_rfl) (by kernel_rfl) (JC os _))
theorem routeClaims_holds:Rows.RouteClaimsSaid :=
 OpenClaim.holds_of_wide_leaving 3 Tryz.f3 rfl rfl rfl rfl rfl rfl rfl ⟨rfl,rfl,rfl,rfl,rfl⟩ rfl rfl rfl rfl rfl (by kernel_rfl) Tryz.func3 (by kernel_rfl)
  (of_decide_eq_true (by kernel_rfl)) (by unfold Func.isWrapper;first|(rw[if_pos (by decide +kernel)];kernel_rfl)|(rw[if_neg (by decide +kernel)];exact⟨rfl,rfl⟩))
  (fun os started H enc _=>routeClaims_lifted os started H enc)
theorem routeClaims_card:Rows.RouteClaimsCardSaid :=
 XC .later [] [.funcs] true (true, "2c8dd83a2f945dfa03265bc5cb74b84c93a6f6aa22da1d88524b1be5f2b437bb") false
  routeClaims_holds (fun _ h=>by cases h) (by kernel_rfl) (fun _ h=>by cases h) routeClaims_row_tie rfl ⟨rfl,rfl⟩ (by kernel_rfl) rfl
  (fun f fn hf hfn=>by
    obtain rfl:f=3:=qB ((show Tryz.prog.funcNamed "baudot/baudotlaw04.RouteClaims"=some 3 by kernel_rfl).symm.trans hf) |>.symm;obtain rfl:fn=Tryz.f3:=(qB (Tryz.func3.symm.trans hfn)).symm
    exact⟨by kernel_rfl,fun j t ht=>by
     have hm:t∈[28,3,3,3]:=qI (i:=j) (by rw[<-Array.getElem?_toList]at ht;exact ht)
     exact(show ∀t∈[28,3,3,3],Tryz.prog.wantsStandIn t=false by decide +kernel) t hm⟩)
  (by kernel_rfl)
end Go.Proofs.YtjkbbnphdbgjiaaGreatDoor
end
