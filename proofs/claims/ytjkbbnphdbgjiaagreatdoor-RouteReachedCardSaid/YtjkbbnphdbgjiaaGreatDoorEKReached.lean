/-
  Lemmas about the program and the machine (KReached to KReached), upon which the last text of this claim rests; no condition.
-/
import Derived.Test.YtjkbbnphdbgjiaaGreatDoorEz28
import Derived.Test.YtjkbbnphdbgjiaaGreatDoorEz21
set_option linter.unusedSimpArgs false
set_option linter.unusedVariables false
set_option maxRecDepth 100000
section
namespace Go.Proofs.YtjkbbnphdbgjiaaGreatDoor
open Go Go.Conc Go.Sim Go.Load Go.RowKit Go.ChangeShapes Go.WideShapes Go.ChangeAt
open Go.Proofs.Tryz
theorem routeReached_lone{H:Type}(enc:TypeId×Value->H)(W:World)(args:Array Value)(ds:List (DataW H))(h:qbP enc Tryz.f6 W args ds):qbR 6 W args:=by
 obtain⟨p,r,b0,hsz,hA,hv⟩:=h;have hp:Tryz.f6.params.toList=[28,5,5,5]:=rfl;have hg:∀(j:Nat) (t:TypeId) v,Tryz.f6.params.toList[j]? = some t->args.toList[j]? = some v->Value.okWide Tryz.prog W r b0 t v:=fun j t v h1 h2=>hv j t v (by simpa using h1) (by simpa using h2);rw[hp]at hA hg;obtain⟨v1,vs,d1,ds1,p1,q1,e1,rfl,_,h1,hA⟩:=trodAll_cons hA;obtain⟨v2,vs,d2,ds1,p2,q2,rfl,rfl,_,h2,hA⟩:=trodAll_cons hA;obtain⟨v3,vs,d3,ds1,p3,q3,rfl,rfl,_,h3,hA⟩:=trodAll_cons hA;obtain⟨v4,vs,d4,ds1,p4,q4,rfl,rfl,_,h4,hA⟩:=trodAll_cons hA;obtain⟨rfl,rfl,_⟩:=trodAll_nil hA;have ea:args=#[v1,v2,v3,v4]:=Array.toList_inj.1 e1;subst ea;obtain⟨D,rfl,hD⟩:=read_day (hg 0 _ _ rfl rfl) h1;obtain⟨x1,rfl,_,_,hx1⟩:=open_int Tryz.underlying5 (hg 1 _ _ rfl rfl) h2;have hx1:=(u8_wf _).1 hx1;obtain⟨x2,rfl,_,_,hx2⟩:=open_int Tryz.underlying5 (hg 2 _ _ rfl rfl) h3;have hx2:=(u8_wf _).1 hx2;obtain⟨x3,rfl,_,_,hx3⟩:=open_int Tryz.underlying5 (hg 3 _ _ rfl rfl) h4;have hx3:=(u8_wf _).1 hx3;refine⟨DyX W D,fun b h=>h.1,?_,?_⟩
 ·intro C R hR;refine⟨rfl,fun i u u' hu hu'=>?_⟩;rw[hu]at hu';cases hu';have hi:=(qy hu).1;rcases(show i=0\/i=1\/i=2\/i=3 by simp at hi;omega)with rfl|rfl|rfl|rfl
  ·cases hu;exact vr_day hD (fun _ h=>h) hR
  ·cases hu;exact .int _ _
  ·cases hu;exact .int _ _
  ·cases hu;exact .int _ _
 ·intro w hG hk;exact Yz D x1 x2 x3 hx1 hx2 hx3 w hG (day_in hD (fun _ h=>h) hk) (day_cap hD)
theorem routeReached_lifted(os:Os)(started:os.Started)(H:Type)(enc:TypeId×Value->H) :
 ReturnsInLeavingWide {} Tryz.checked os 6 .any (fun w args=>(Rows.routeReachedSpec.pre enc Tryz.prog Tryz.f6 [] false w args/\laidMetH Tryz.prog laidAll w)/\sizedMet enc Tryz.prog Tryz.f6 (OpenSpec.ofChange Rows.routeReachedSpec) false w args)
  (Rows.routeReachedSpec.post enc Tryz.prog Tryz.f6 false true false false) :=
 law_at os started H enc Tryz.func6 rfl rfl (fun ds h=>by
  match ds,h with
  | [_,_,_,_],_=>rfl) (by decide +kernel) (by decide +kernel) (by decide) (fun W args ds h=>routeReached_lone enc W args ds h)
  (ChangeSpec.witness_shaped (enc:=enc) (C:=Tryz.checked) (os:=os) (X:=fun w _=>laidMetH Tryz.prog laidAll w) false (World.doorLaid Tryz.prog 19 os) #[.agg #[.slice none 0 0,.slice none 0 0,.slice none 0 0,.slice none 0 0,.slice none 0 0],.int .u8 0,.int .u8 0,.int .u8 0] 8 rfl (World.shaped_of_RefB (by kernel_rfl) (by kernel_rfl)) (by kernel_rfl) (by kernel_rfl) (by kernel_rfl) (door_met os _))
theorem routeReached_holds:Rows.RouteReachedSaid :=
 OpenClaim.holds_of_wide_leaving 6 Tryz.f6 rfl rfl rfl rfl rfl rfl rfl ⟨rfl,rfl,rfl,rfl,rfl⟩ rfl rfl rfl rfl rfl (by kernel_rfl) Tryz.func6 (by kernel_rfl)
  (of_decide_eq_true (by kernel_rfl)) (by unfold Func.isWrapper;first|(rw[if_pos (by decide +kernel)];kernel_rfl)|(rw[if_neg (by decide +kernel)];exact⟨rfl,rfl⟩))
  (fun os started H enc _=>routeReached_lifted os started H enc)
theorem routeReached_card:Rows.RouteReachedCardSaid :=
 qfY .later [] [.funcs] true (true, "2c8dd83a2f945dfa03265bc5cb74b84c93a6f6aa22da1d88524b1be5f2b437bb") false
  routeReached_holds (fun _ h=>by cases h) (by kernel_rfl) (fun _ h=>by cases h) routeReached_row_tie rfl ⟨rfl,rfl⟩ (by kernel_rfl) rfl
  (fun f fn hf hfn=>by
    obtain rfl:f=6:=qz ((show Tryz.prog.funcNamed "baudot/baudotlaw04.RouteReached"=some 6 by kernel_rfl).symm.trans hf) |>.symm;obtain rfl:fn=Tryz.f6:=(qz (Tryz.func6.symm.trans hfn)).symm
    exact⟨by kernel_rfl,fun j t ht=>by
     have hm:t∈[28,5,5,5]:=qI (i:=j) (by rw[<-Array.getElem?_toList]at ht;exact ht)
     exact(show ∀t∈[28,5,5,5],Tryz.prog.wantsStandIn t=false by decide +kernel) t hm⟩)
  (by kernel_rfl)
end Go.Proofs.YtjkbbnphdbgjiaaGreatDoor
end
