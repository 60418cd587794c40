/-
  Lemmas about the program and the machine (KLater to KLater), upon which the last text of this claim rests; no condition.
-/
import Derived.Test.YtjkenojgabamiaaGreatDoorBxLatex02
set_option linter.unusedSimpArgs false
set_option linter.unusedVariables false
section
namespace Go.Proofs.YtjkenojgabamiaaGreatDoor
open Go Go.Conc Go.Sim Go.Load Go.RowKit Go.ChangeShapes Go.WideShapes Go.ChangeAt
open Go.Proofs.Tryz
set_option maxRecDepth 100000 in
theorem routeLater_lone {H:Type} (enc:TypeId×Value→H) (W:World) (args:Array Value) (ds:List (DataW H)) (h:Xt enc Tryz.f5 W args ds):Xv 5 W args:=by
 obtain ⟨p,r,b0,hsz,hA,hv⟩:=h
 have hp:Tryz.f5.params.toList=[28,45,5]:=rfl
 have hg:∀(j:Nat) (t:TypeId) v,Tryz.f5.params.toList[j]? = some t→args.toList[j]? = some v→Value.okWide Tryz.prog W r b0 t v:=fun j t v h1 h2=>hv j t v (by simpa using h1) (by simpa using h2)
 rw [hp] at hA hg
 obtain ⟨v1,vs,d1,ds1,p1,q1,e1,rfl,_,h1,hA⟩:=trodAll_cons hA
 obtain ⟨v2,vs,d2,ds1,p2,q2,rfl,rfl,_,h2,hA⟩:=trodAll_cons hA
 obtain ⟨v3,vs,d3,ds1,p3,q3,rfl,rfl,_,h3,hA⟩:=trodAll_cons hA
 obtain ⟨rfl,rfl,_⟩:=trodAll_nil hA
 have ea:args=#[v1,v2,v3]:=Array.toList_inj.1 e1
 subst ea
 obtain ⟨D,rfl,hD⟩:=qbP (hg 0 _ _ rfl rfl) h1
 obtain ⟨q,qa,qc,rfl,hQ,hqb⟩:=JP (hg 1 _ _ rfl rfl) h2
 obtain ⟨x2,rfl,_,_,hx2⟩:=open_int Tryz.underlying5 (hg 2 _ _ rfl rfl) h3
 have hx2:=(u8_wf _).1 hx2
 refine ⟨DqX W D qa,fun b h=>h.elim (fun h=>h.1) (fun h=>h.1),?_,?_⟩
 ·intro C R hR
  refine ⟨rfl,fun i u u' hu hu'=>?_⟩
  rw [hu] at hu'
  cases hu'
  have hi:=(Array.getElem?_eq_some_iff.1 hu).1
  rcases (show i=0∨i=1∨i=2 by simp at hi;omega) with rfl | rfl | rfl
  ·cases hu;exact vr_day hD (fun _ h=>.inl h) hR
  ·cases hu;exact YF hQ (fun a e hb=>.inr ⟨hb,a,e,rfl⟩) hR
  ·cases hu;exact .int _ _
 ·intro w hG hk
  exact Xx D q qa qc x2 hx2 w hG (day_in hD (fun _ h=>.inl h) hk) (qdy hD) hD.cs.nil (row_in hQ (fun _=>Nat.zero_lt_succ _) (fun a e hb=>.inr ⟨hb,a,e,rfl⟩) (fun m _ v hv=>by simp only [encU,List.mem_singleton] at hv;subst hv;exact .int _ _) hk) hQ.cap.1 hqb
set_option maxRecDepth 100000 in
theorem routeLater_lifted (os:Os) (started:os.Started) (H:Type) (enc:TypeId×Value→H) :
 ReturnsInLeavingWide {} Tryz.checked os 5 .any (fun w args=>(Rows.routeLaterSpec.pre enc Tryz.prog Tryz.f5 [] false w args∧laidMetH Tryz.prog laidAll w)∧sizedMet enc Tryz.prog Tryz.f5 (OpenSpec.ofChange Rows.routeLaterSpec) false w args)
  (Rows.routeLaterSpec.post enc Tryz.prog Tryz.f5 false true false false) :=
 law_at os started H enc Tryz.func5 rfl rfl (fun ds h=>by
  match ds,h with
  | [_,_,_],_=>rfl) (by decide +kernel) (by decide +kernel) (by decide) (fun W args ds h=>routeLater_lone enc W args ds h)
  (ChangeSpec.witness_shaped (enc:=enc) (C:=Tryz.checked) (os:=os) (X:=fun w _=>laidMetH Tryz.prog laidAll w) false (World.doorLaid Tryz.prog 19 os) #[.agg #[.slice none 0 0,.slice none 0 0,.slice none 0 0,.slice none 0 0,.slice none 0 0],.slice none 0 0,.int .u8 0] 8 rfl (World.shaped_of_RefB (by kernel_rfl) (by kernel_rfl)) (by kernel_rfl) (by kernel_rfl) (by kernel_rfl) (qbs os _))
set_option maxRecDepth 100000 in
theorem routeLater_holds:Rows.RouteLaterSaid :=
 OpenClaim.holds_of_wide_leaving 5 Tryz.f5 rfl rfl rfl rfl rfl rfl rfl ⟨rfl,rfl,rfl,rfl,rfl⟩ rfl rfl rfl rfl rfl (by kernel_rfl) Tryz.func5 (by kernel_rfl)
  (of_decide_eq_true (by kernel_rfl)) (by unfold Func.isWrapper;first | (rw [if_pos (by decide +kernel)];kernel_rfl) | (rw [if_neg (by decide +kernel)];exact ⟨rfl,rfl⟩))
  (fun os started H enc _=>routeLater_lifted os started H enc)
set_option maxRecDepth 100000 in
theorem routeLater_card:Rows.RouteLaterCardSaid :=
 JZ .later [] [.funcs] true (true, "1dbb8d4427cf75c7c3cc0861ab068c3be9d5ec99d0f6f21e675cad56a0433baf") false
  routeLater_holds (fun _ h=>by cases h) (by kernel_rfl) (fun _ h=>by cases h) routeLater_row_tie rfl ⟨rfl,rfl⟩ (by kernel_rfl) rfl
  (fun f fn hf hfn=>by
    obtain rfl:f=5:=Option.some.inj ((show Tryz.prog.funcNamed "baudot/baudotlaw04.RouteLater"=some 5 by kernel_rfl).symm.trans hf) |>.symm
    obtain rfl:fn=Tryz.f5:=(Option.some.inj (Tryz.func5.symm.trans hfn)).symm
    exact ⟨by kernel_rfl,fun j t ht=>by
     have hm:t∈[28,45,5]:=List.mem_of_getElem? (i:=j) (by rw [← Array.getElem?_toList] at ht;exact ht)
     exact (show ∀t∈[28,45,5],Tryz.prog.wantsStandIn t=false by decide +kernel) t hm⟩)
  (by kernel_rfl)
end Go.Proofs.YtjkenojgabamiaaGreatDoor
end
