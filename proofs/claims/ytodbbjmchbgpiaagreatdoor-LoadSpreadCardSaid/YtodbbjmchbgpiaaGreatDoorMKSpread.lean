/-
  Lemmas about the program and the machine (KSpread to KSpread), upon which the last text of this claim rests; no condition.
-/
import Derived.Test.YtodbbjmchbgpiaaGreatDoorMxSprex02
import Derived.Test.YtodbbjmchbgpiaaGreatDoorM23
set_option linter.unusedSimpArgs false
set_option linter.unusedVariables false
section
namespace Go.Proofs.YtodbbjmchbgpiaaGreatDoor
open Go Go.Conc Go.Sim Go.Load Go.RowKit Go.ChangeShapes Go.WideShapes Go.ChangeAt
open Go.Proofs.Tryz
set_option maxRecDepth 100000 in
theorem loadSpread_lone {H:Type} (enc:TypeId×Value→H) (W:World) (args:Array Value) (ds:List (DataW H)) (h:Jj enc Tryz.f4 W args ds):Jo 4 W args:=by
 obtain ⟨p,r,b0,hsz,hA,hv⟩:=h
 have hp:Tryz.f4.params.toList=[26,5,5,5,5]:=rfl
 have hg:∀(j:Nat) (t:TypeId) v,Tryz.f4.params.toList[j]? = some t→args.toList[j]? = some v→Value.okWide Tryz.prog W r b0 t v:=fun j t v h1 h2=>hv j t v (by simpa using h1) (by simpa using h2)
 rw [hp] at hA hg
 obtain ⟨v1,vs,d1,ds1,p1,q1,e1,rfl,_,h1,hA⟩:=trodAll_cons hA
 obtain ⟨v2,vs,d2,ds1,p2,q2,rfl,rfl,_,h2,hA⟩:=trodAll_cons hA
 obtain ⟨v3,vs,d3,ds1,p3,q3,rfl,rfl,_,h3,hA⟩:=trodAll_cons hA
 obtain ⟨v4,vs,d4,ds1,p4,q4,rfl,rfl,_,h4,hA⟩:=trodAll_cons hA
 obtain ⟨v5,vs,d5,ds1,p5,q5,rfl,rfl,_,h5,hA⟩:=trodAll_cons hA
 obtain ⟨rfl,rfl,_⟩:=trodAll_nil hA
 have ea:args=#[v1,v2,v3,v4,v5]:=Array.toList_inj.1 e1
 subst ea
 obtain ⟨B,rfl,hB⟩:=qaW (hg 0 _ _ rfl rfl) h1
 obtain ⟨x1,rfl,_,_,hx1⟩:=open_int Tryz.underlying5 (hg 1 _ _ rfl rfl) h2
 obtain ⟨x2,rfl,_,_,hx2⟩:=open_int Tryz.underlying5 (hg 2 _ _ rfl rfl) h3
 obtain ⟨x3,rfl,_,_,hx3⟩:=open_int Tryz.underlying5 (hg 3 _ _ rfl rfl) h4
 obtain ⟨x4,rfl,_,_,hx4⟩:=open_int Tryz.underlying5 (hg 4 _ _ rfl rfl) h5
 have hx1:=(qcl _).1 hx1
 have hx2:=(qcl _).1 hx2
 have hx3:=(qcl _).1 hx3
 have hx4:=(qcl _).1 hx4
 refine ⟨BkX W B,fun b h=>h.1,?_,?_⟩
 ·intro C R hR
  refine ⟨rfl,fun i u u' hu hu'=>?_⟩
  rw [hu] at hu'
  cases hu'
  have hi:=(Array.getElem?_eq_some_iff.1 hu).1
  rcases (show i=0∨i=1∨i=2∨i=3∨i=4 by simp at hi;omega) with rfl | rfl | rfl | rfl | rfl
  ·cases hu;exact qgH hB (fun _ h=>h) hR
  ·cases hu;exact .int _ _
  ·cases hu;exact .int _ _
  ·cases hu;exact .int _ _
  ·cases hu;exact .int _ _
 ·intro w hG hk
  exact Jm (fun W hW=>qaN W hW) B x1 x2 x3 x4 (by omega) (by omega) (by omega) (by omega) w hG (qeE hB (fun _ h=>h) hk) hB.cap.1
set_option maxRecDepth 100000 in
theorem loadSpread_lifted (os:Os) (started:os.Started) (H:Type) (enc:TypeId×Value→H) :
 ReturnsInLeavingWide {} Tryz.checked os 4 .any (fun w args=>(Rows.loadSpreadSpec.pre enc Tryz.prog Tryz.f4 [] false w args∧laidMetH Tryz.prog laidAll w)∧sizedMet enc Tryz.prog Tryz.f4 (OpenSpec.ofChange Rows.loadSpreadSpec) false w args)
  (Rows.loadSpreadSpec.post enc Tryz.prog Tryz.f4 false true false false) :=
 law_at os started H enc Tryz.func4 rfl rfl (fun ds h=>by
  match ds,h with
  | [_,_,_,_,_],_=>rfl) (by decide +kernel) (by decide +kernel) (by decide) (fun W args ds h=>loadSpread_lone enc W args ds h)
  (ChangeSpec.witness_shaped (enc:=enc) (C:=Tryz.checked) (os:=os) (X:=fun w _=>laidMetH Tryz.prog laidAll w) false (World.doorLaid Tryz.prog 19 os) #[.agg #[.int .i64 0,.int .i64 0,.int .i64 0,.int .i64 0,.slice none 0 0],.int .u8 0,.int .u8 0,.int .u8 0,.int .u8 0] 8 rfl (World.shaped_of_RefB (by kernel_rfl) (by kernel_rfl)) (by kernel_rfl) (by kernel_rfl) (by kernel_rfl) (qcH os _))
set_option maxRecDepth 100000 in
theorem loadSpread_holds:Rows.LoadSpreadSaid :=
 OpenClaim.holds_of_wide_leaving 4 Tryz.f4 rfl rfl rfl rfl rfl rfl rfl ⟨rfl,rfl,rfl,rfl,rfl⟩ rfl rfl rfl rfl rfl (by kernel_rfl) Tryz.func4 (by kernel_rfl)
  (of_decide_eq_true (by kernel_rfl)) (by unfold Func.isWrapper;first | (rw [if_pos (by decide +kernel)];kernel_rfl) | (rw [if_neg (by decide +kernel)];exact ⟨rfl,rfl⟩))
  (fun os started H enc _=>loadSpread_lifted os started H enc)
set_option maxRecDepth 100000 in
theorem loadSpread_card:Rows.LoadSpreadCardSaid :=
 qbh .later [] [.funcs,.data] true (true, "deeacc597ee8d72657b42a9e1b9ad691eaf58c0075bd1245d623246389194467") false
  loadSpread_holds (fun _ h=>by cases h) (by kernel_rfl) (fun _ h=>by cases h) loadSpread_row_tie rfl ⟨rfl,rfl⟩ (by kernel_rfl) rfl
  (fun f fn hf hfn=>by
    obtain rfl:f=4:=Option.some.inj ((show Tryz.prog.funcNamed "baudot/baudotlaw05.LoadSpread"=some 4 by kernel_rfl).symm.trans hf) |>.symm
    obtain rfl:fn=Tryz.f4:=(Option.some.inj (Tryz.func4.symm.trans hfn)).symm
    exact ⟨by kernel_rfl,fun j t ht=>by
     have hm:t∈[26,5,5,5,5]:=List.mem_of_getElem? (i:=j) (by rw [← Array.getElem?_toList] at ht;exact ht)
     exact (show ∀t∈[26,5,5,5,5],Tryz.prog.wantsStandIn t=false by decide +kernel) t hm⟩)
  (by kernel_rfl)
end Go.Proofs.YtodbbjmchbgpiaaGreatDoor
end
