/-
  Lemmas about the program and the machine (KDelayed to KDelayed), upon which the last text of this claim rests; no condition.
-/
import Derived.Test.YtjkenojgabamiaaGreatDoorDz12
set_option linter.unusedSimpArgs false
set_option linter.unusedVariables false
section
namespace Go.Proofs.YtjkenojgabamiaaGreatDoor
open Go Go.Conc Go.Sim Go.Load Go.RowKit Go.ChangeShapes Go.WideShapes Go.ChangeAt
open Go.Proofs.Tryz
set_option maxRecDepth 100000 in
theorem routeDelayed_lone {H:Type} (enc:TypeId×Value→H) (W:World) (args:Array Value) (ds:List (DataW H)) (h:qaC enc Tryz.f6 W args ds):qaE 6 W args:=by
 obtain ⟨p,r,b0,hsz,hA,hv⟩:=h
 have hp:Tryz.f6.params.toList=[28,5]:=rfl
 have hg:∀(j:Nat) (t:TypeId) v,Tryz.f6.params.toList[j]? = some t→args.toList[j]? = some v→Value.okWide Tryz.prog W r b0 t v:=fun j t v h1 h2=>hv j t v (by simpa using h1) (by simpa using h2)
 rw [hp] at hA hg
 obtain ⟨v1,vs,d1,ds1,p1,q1,e1,rfl,_,h1,hA⟩:=trodAll_cons hA
 obtain ⟨v2,vs,d2,ds1,p2,q2,rfl,rfl,_,h2,hA⟩:=trodAll_cons hA
 obtain ⟨rfl,rfl,_⟩:=trodAll_nil hA
 have ea:args=#[v1,v2]:=Array.toList_inj.1 e1
 subst ea
 obtain ⟨D,rfl,hD⟩:=read_day (hg 0 _ _ rfl rfl) h1
 obtain ⟨x1,rfl,_,_,hx1⟩:=open_int Tryz.underlying5 (hg 1 _ _ rfl rfl) h2
 have hx1:=(u8_wf _).1 hx1
 refine ⟨DyX W D,fun b h=>h.1,?_,?_⟩
 ·intro C R hR
  refine ⟨rfl,fun i u u' hu hu'=>?_⟩
  rw [hu] at hu'
  cases hu'
  have hi:=(Array.getElem?_eq_some_iff.1 hu).1
  rcases (show i=0∨i=1 by simp at hi;omega) with rfl | rfl
  ·cases hu;exact vr_day hD (fun _ h=>h) hR
  ·cases hu;exact .int _ _
 ·intro w hG hk
  exact ZF D x1 hx1 w hG (day_in hD (fun _ h=>h) hk) (day_cap hD) hD.hs.nil hD.cs.nil
set_option maxRecDepth 100000 in
theorem routeDelayed_lifted (os:Os) (started:os.Started) (H:Type) (enc:TypeId×Value→H) :
 ReturnsInLeavingWide {} Tryz.checked os 6 .any (fun w args=>(Rows.routeDelayedSpec.pre enc Tryz.prog Tryz.f6 [] false w args∧laidMetH Tryz.prog laidAll w)∧sizedMet enc Tryz.prog Tryz.f6 (OpenSpec.ofChange Rows.routeDelayedSpec) false w args)
  (Rows.routeDelayedSpec.post enc Tryz.prog Tryz.f6 false true false false) :=
 law_at os started H enc Tryz.func6 rfl rfl (fun ds h=>by
  match ds,h with
  | [_,_],_=>rfl) (by decide +kernel) (by decide +kernel) (by decide) (fun W args ds h=>routeDelayed_lone enc W args ds h)
  (ChangeSpec.witness_shaped (enc:=enc) (C:=Tryz.checked) (os:=os) (X:=fun w _=>laidMetH Tryz.prog laidAll w) false (World.doorLaid Tryz.prog 19 os) #[.agg #[.slice none 0 0,.slice none 0 0,.slice none 0 0,.slice none 0 0,.slice none 0 0],.int .u8 0] 8 rfl (World.shaped_of_RefB (by kernel_rfl) (by kernel_rfl)) (by kernel_rfl) (by kernel_rfl) (by kernel_rfl) (door_met os _))
set_option maxRecDepth 100000 in
theorem routeDelayed_holds:Rows.RouteDelayedSaid :=
 OpenClaim.holds_of_wide_leaving 6 Tryz.f6 rfl rfl rfl rfl rfl rfl rfl ⟨rfl,rfl,rfl,rfl,rfl⟩ rfl rfl rfl rfl rfl (by kernel_rfl) Tryz.func6 (by kernel_rfl)
  (of_decide_eq_true (by kernel_rfl)) (by unfold Func.isWrapper;first | (rw [if_pos (by decide +kernel)];kernel_rfl) | (rw [if_neg (by decide +kernel)];exact ⟨rfl,rfl⟩))
  (fun os started H enc _=>routeDelayed_lifted os started H enc)
set_option maxRecDepth 100000 in
theorem routeDelayed_card:Rows.RouteDelayedCardSaid :=
 qeK .later [] [.funcs] true (true, "1dbb8d4427cf75c7c3cc0861ab068c3be9d5ec99d0f6f21e675cad56a0433baf") false
  routeDelayed_holds (fun _ h=>by cases h) (by kernel_rfl) (fun _ h=>by cases h) routeDelayed_row_tie rfl ⟨rfl,rfl⟩ (by kernel_rfl) rfl
  (fun f fn hf hfn=>by
    obtain rfl:f=6:=Option.some.inj ((show Tryz.prog.funcNamed "baudot/baudotlaw04.RouteDelayed"=some 6 by kernel_rfl).symm.trans hf) |>.symm
    obtain rfl:fn=Tryz.f6:=(Option.some.inj (Tryz.func6.symm.trans hfn)).symm
    exact ⟨by kernel_rfl,fun j t ht=>by
     have hm:t∈[28,5]:=List.mem_of_getElem? (i:=j) (by rw [← Array.getElem?_toList] at ht;exact ht)
     exact (show ∀t∈[28,5],Tryz.prog.wantsStandIn t=false by decide +kernel) t hm⟩)
  (by kernel_rfl)
end Go.Proofs.YtjkenojgabamiaaGreatDoor
end
