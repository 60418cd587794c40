/-
  A part of the proof (KLosses): lemmas about the program and about the machine that the last text of this claim rests upon; no condition.
-/
import Derived.Test.YtfhegphlmkoldaaGreatDoorM21
import Derived.Test.YtfhegphlmkoldaaGreatDoorM07
import Derived.Test.YtfhegphlmkoldaaGreatDoorM22
set_option linter.unusedSimpArgs false
set_option linter.unusedVariables false
section
namespace Go.Proofs.YtfhegphlmkoldaaGreatDoor
open Go Go.Conc Go.Sim Go.Load Go.RowKit Go.ChangeShapes Go.WideShapes Go.ChangeAt
open Go.Proofs.Tryz
set_option maxRecDepth 100000 in
theorem loadLosses_lone {H : Type} (enc : TypeId × Value → H) (W : World) (args : Array Value) (ds : List (DataW H)) (h : qbw enc Tryz.f3 W args ds) : qbB 3 W args := by
 obtain ⟨p, r, b0, hsz, hA, hv⟩ := h
 have hp : Tryz.f3.params.toList = [23, 23, 3, 3, 3] := rfl
 have hg : ∀ (j : Nat) (t : TypeId) v, Tryz.f3.params.toList[j]? = some t → args.toList[j]? = some v → Value.okWide Tryz.prog W r b0 t v := fun j t v h1 h2 => hv j t v (by simpa using h1) (by simpa using h2)
 rw [hp] at hA hg
 obtain ⟨v1, vs, d1, ds1, p1, q1, e1, rfl, _, h1, hA⟩ := trodAll_cons hA
 obtain ⟨v2, vs, d2, ds1, p2, q2, rfl, rfl, _, h2, hA⟩ := trodAll_cons hA
 obtain ⟨v3, vs, d3, ds1, p3, q3, rfl, rfl, _, h3, hA⟩ := trodAll_cons hA
 obtain ⟨v4, vs, d4, ds1, p4, q4, rfl, rfl, _, h4, hA⟩ := trodAll_cons hA
 obtain ⟨v5, vs, d5, ds1, p5, q5, rfl, rfl, _, h5, hA⟩ := trodAll_cons hA
 obtain ⟨rfl, rfl, _⟩ := trodAll_nil hA
 have ea : args = #[v1, v2, v3, v4, v5] := Array.toList_inj.1 e1
 subst ea
 obtain ⟨a, rfl⟩ := Jz Tryz.underlying23 (by kernel_rfl) rfl rfl rfl rfl (hg 0 _ _ rfl rfl) h1
 obtain ⟨l, rfl⟩ := Jz Tryz.underlying23 (by kernel_rfl) rfl rfl rfl rfl (hg 1 _ _ rfl rfl) h2
 obtain ⟨n, rfl, _⟩ := open_int Tryz.underlying3 (hg 2 _ _ rfl rfl) h3
 obtain ⟨q, rfl, _⟩ := open_int Tryz.underlying3 (hg 3 _ _ rfl rfl) h4
 obtain ⟨s, rfl, _⟩ := open_int Tryz.underlying3 (hg 4 _ _ rfl rfl) h5
 refine ⟨fun _ => False, fun b h => h.elim, ?_, ?_⟩
 ·intro C R hR
  refine ⟨rfl, fun i u u' hu hu' => ?_⟩
  rw [hu] at hu'
  cases hu'
  have hi := (Array.getElem?_eq_some_iff.1 hu).1
  rcases (show i = 0 ∨ i = 1 ∨ i = 2 ∨ i = 3 ∨ i = 4 by simp at hi; omega) with rfl | rfl | rfl | rfl | rfl
  ·cases hu; exact qeY _ _
  ·cases hu; exact qeY _ _
  ·cases hu; exact .int _ _
  ·cases hu; exact .int _ _
  ·cases hu; exact .int _ _
 ·intro w hG hk
  exact XT (fun W hW => qfj W hW) a l n q s w hG
set_option maxRecDepth 100000 in
theorem loadLosses_lifted (os : Os) (started : os.Started) (H : Type) (enc : TypeId × Value → H) :
 ReturnsInLeavingWide {} Tryz.checked os 3 .any (fun w args => (Rows.loadLossesSpec.pre enc Tryz.prog Tryz.f3 [] false w args ∧ laidMetH Tryz.prog laidAll w) ∧ sizedMet enc Tryz.prog Tryz.f3 (OpenSpec.ofChange Rows.loadLossesSpec) false w args)
  (Rows.loadLossesSpec.post enc Tryz.prog Tryz.f3 false true false false) :=
 law_at os started H enc Tryz.func3 rfl rfl (fun ds h => by
  match ds, h with
  | [_, _, _, _, _], _ => rfl) (by decide +kernel) (by decide +kernel) (by decide) (fun W args ds h => loadLosses_lone enc W args ds h)
  (ChangeSpec.witness_shaped (enc := enc) (C := Tryz.checked) (os := os) (X := fun w _ => laidMetH Tryz.prog laidAll w) false (World.doorLaid Tryz.prog 19 os) #[.agg #[.int .i64 0, .int .i64 0], .agg #[.int .i64 0, .int .i64 0], .int .i64 0, .int .i64 0, .int .i64 0] 8 rfl (World.shaped_of_RefB (by kernel_rfl) (by kernel_rfl)) (by kernel_rfl) (by kernel_rfl) (by kernel_rfl) (door_met os _))
set_option maxRecDepth 100000 in
theorem loadLosses_holds : Rows.LoadLossesSaid :=
 OpenClaim.holds_of_wide_leaving 3 Tryz.f3 rfl rfl rfl rfl rfl rfl rfl ⟨rfl, rfl, rfl, rfl, rfl⟩ rfl rfl rfl rfl rfl (by kernel_rfl) Tryz.func3 (by kernel_rfl)
  (of_decide_eq_true (by kernel_rfl)) (by unfold Func.isWrapper; first | (rw [if_pos (by decide +kernel)]; kernel_rfl) | (rw [if_neg (by decide +kernel)]; exact ⟨rfl, rfl⟩))
  (fun os started H enc _ => loadLosses_lifted os started H enc)
set_option maxRecDepth 100000 in
theorem loadLosses_card : Rows.LoadLossesCardSaid :=
 qeH .later [] [.funcs, .data] true (true, "0a1097af0b26f1979bd1a9193a150571c343d87846bfc6f83077b9c4067a5c5f") false
  loadLosses_holds (fun _ h => by cases h) (by kernel_rfl) (fun _ h => by cases h) loadLosses_row_tie rfl ⟨rfl, rfl⟩ (by kernel_rfl) rfl
  (fun f fn hf hfn => by
    obtain rfl : f = 3 := Option.some.inj ((show Tryz.prog.funcNamed "baudot/baudotlaw05.LoadLosses" = some 3 by kernel_rfl).symm.trans hf) |>.symm
    obtain rfl : fn = Tryz.f3 := (Option.some.inj (Tryz.func3.symm.trans hfn)).symm
    exact ⟨by kernel_rfl, fun j t ht => by
     have hm : t ∈ [23, 23, 3, 3, 3] := List.mem_of_getElem? (i := j) (by rw [← Array.getElem?_toList] at ht; exact ht)
     exact (show ∀ t ∈ [23, 23, 3, 3, 3], Tryz.prog.wantsStandIn t = false by decide +kernel) t hm⟩)
  (by kernel_rfl)
end Go.Proofs.YtfhegphlmkoldaaGreatDoor
end
