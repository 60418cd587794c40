/-
  Lemmas about the program and the machine (KGroups to KGroups), upon which the last text of this claim rests; no condition.
-/
import Derived.Test.YtnpjncjnmpfgpaaGreatDoorG21
set_option linter.unusedSimpArgs false
set_option linter.unusedVariables false
section
namespace Go.Proofs.YtnpjncjnmpfgpaaGreatDoor
open Go Go.Conc Go.Sim Go.Load Go.RowKit Go.ChangeShapes Go.WideShapes Go.ChangeAt
open Go.Proofs.Tryz
set_option maxRecDepth 100000 in
theorem loadGroups_lone {H:Type} (enc:TypeId×Value→H) (W:World) (args:Array Value) (ds:List (DataW H)) (h:qbB enc Tryz.f3 W args ds):qbG 3 W args:=by
 obtain ⟨p,r,b0,hsz,hA,hv⟩:=h
 have hp:Tryz.f3.params.toList=[26,3]:=rfl
 have hg:∀(j:Nat) (t:TypeId) v,Tryz.f3.params.toList[j]? = some t→args.toList[j]? = some v→Value.okWide Tryz.prog W r b0 t v:=fun j t v h1 h2=>hv j t v (by simpa using h1) (by simpa using h2)
 rw [hp] at hA hg
 obtain ⟨v1,vs,d1,ds1,p1,q1,e1,rfl,_,h1,hA⟩:=trodAll_cons hA
 obtain ⟨v2,vs,d2,ds1,p2,q2,rfl,rfl,_,h2,hA⟩:=trodAll_cons hA
 obtain ⟨rfl,rfl,_⟩:=trodAll_nil hA
 have ea:args=#[v1,v2]:=Array.toList_inj.1 e1
 subst ea
 obtain ⟨B,rfl,hB⟩:=qfo (hg 0 _ _ rfl rfl) h1
 obtain ⟨x1,rfl,_,_,hx1⟩:=open_int Tryz.underlying3 (hg 1 _ _ rfl rfl) h2
 refine ⟨BkX W B,fun b h=>h.1,?_,?_⟩
 ·intro C R hR
  refine ⟨rfl,fun i u u' hu hu'=>?_⟩
  rw [hu] at hu'
  cases hu'
  have hi:=(Array.getElem?_eq_some_iff.1 hu).1
  rcases (show i=0∨i=1 by simp at hi;omega) with rfl | rfl
  ·cases hu;exact vr_book hB (fun _ h=>h) hR
  ·cases hu;exact .int _ _
 ·intro w hG hk
  exact XH (fun W hW=>qex W hW) B x1  w hG (book_in hB (fun _ h=>h) hk) hB.cap.1 (fun g hg=>(hB.gr g hg).cap)
set_option maxRecDepth 100000 in
theorem loadGroups_lifted (os:Os) (started:os.Started) (H:Type) (enc:TypeId×Value→H) :
 ReturnsInLeavingWide {} Tryz.checked os 3 .any (fun w args=>(Rows.loadGroupsSpec.pre enc Tryz.prog Tryz.f3 [] false w args∧laidMetH Tryz.prog laidAll w)∧sizedMet enc Tryz.prog Tryz.f3 (OpenSpec.ofChange Rows.loadGroupsSpec) false w args)
  (Rows.loadGroupsSpec.post enc Tryz.prog Tryz.f3 false true false false) :=
 law_at os started H enc Tryz.func3 rfl rfl (fun ds h=>by
  match ds,h with
  | [_,_],_=>rfl) (by decide +kernel) (by decide +kernel) (by decide) (fun W args ds h=>loadGroups_lone enc W args ds h)
  (ChangeSpec.witness_shaped (enc:=enc) (C:=Tryz.checked) (os:=os) (X:=fun w _=>laidMetH Tryz.prog laidAll w) false (World.doorLaid Tryz.prog 19 os) #[.agg #[.int .i64 0,.int .i64 0,.int .i64 0,.int .i64 0,.slice none 0 0],.int .i64 0] 8 rfl (World.shaped_of_RefB (by kernel_rfl) (by kernel_rfl)) (by kernel_rfl) (by kernel_rfl) (by kernel_rfl) (door_met os _))
set_option maxRecDepth 100000 in
theorem loadGroups_holds:Rows.LoadGroupsSaid :=
 OpenClaim.holds_of_wide_leaving 3 Tryz.f3 rfl rfl rfl rfl rfl rfl rfl ⟨rfl,rfl,rfl,rfl,rfl⟩ rfl rfl rfl rfl rfl (by kernel_rfl) Tryz.func3 (by kernel_rfl)
  (of_decide_eq_true (by kernel_rfl)) (by unfold Func.isWrapper;first | (rw [if_pos (by decide +kernel)];kernel_rfl) | (rw [if_neg (by decide +kernel)];exact ⟨rfl,rfl⟩))
  (fun os started H enc _=>loadGroups_lifted os started H enc)
set_option maxRecDepth 100000 in
theorem loadGroups_card:Rows.LoadGroupsCardSaid :=
 qfL .later [] [.funcs,.data] true (true, "e767d38925151260cccabb57be87e03eff8fdfe0f9fa5f91d5df07b88cad00be") false
  loadGroups_holds (fun _ h=>by cases h) (by kernel_rfl) (fun _ h=>by cases h) loadGroups_row_tie rfl ⟨rfl,rfl⟩ (by kernel_rfl) rfl
  (fun f fn hf hfn=>by
    obtain rfl:f=3:=Option.some.inj ((show Tryz.prog.funcNamed "baudot/baudotlaw05.LoadGroups"=some 3 by kernel_rfl).symm.trans hf) |>.symm
    obtain rfl:fn=Tryz.f3:=(Option.some.inj (Tryz.func3.symm.trans hfn)).symm
    exact ⟨by kernel_rfl,fun j t ht=>by
     have hm:t∈[26,3]:=List.mem_of_getElem? (i:=j) (by rw [← Array.getElem?_toList] at ht;exact ht)
     exact (show ∀t∈[26,3],Tryz.prog.wantsStandIn t=false by decide +kernel) t hm⟩)
  (by kernel_rfl)
end Go.Proofs.YtnpjncjnmpfgpaaGreatDoor
end
