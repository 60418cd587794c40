/-
  A part of the proof (KCounts): lemmas about the program and about the machine that the last text of this claim rests upon; no condition.
-/
import Derived.Test.YtbbjalighlddcaaDoorMxCounx04
import Derived.Test.YtbbjalighlddcaaDoorM21
set_option linter.unusedSimpArgs false
set_option linter.unusedVariables false
section
namespace Go.Proofs.YtbbjalighlddcaaDoor
open Go Go.Conc Go.Sim Go.Load Go.RowKit Go.ChangeShapes Go.WideShapes Go.ChangeAt
open Go.Proofs.Tryd
set_option maxRecDepth 100000 in
theorem loadCounts_lone {H : Type} (enc : TypeId × Value → H) (W : World) (args : Array Value) (ds : List (DataW H)) (h : ArgsRead enc Tryd.f8 W args ds) : LoneTrue 8 W args := by
 obtain ⟨p, r, b0, hsz, hA, hv⟩ := h
 have hp : Tryd.f8.params.toList = [40, 5, 41, 5] := rfl
 have hg : ∀ (j : Nat) (t : TypeId) v, Tryd.f8.params.toList[j]? = some t → args.toList[j]? = some v → Value.okWide Tryd.prog W r b0 t v := fun j t v h1 h2 => hv j t v (by simpa using h1) (by simpa using h2)
 rw [hp] at hA hg
 obtain ⟨v1, vs, d1, ds1, p1, q1, e1, rfl, _, h1, hA⟩ := trodAll_cons hA
 obtain ⟨v2, vs, d2, ds1, p2, q2, rfl, rfl, _, h2, hA⟩ := trodAll_cons hA
 obtain ⟨v3, vs, d3, ds1, p3, q3, rfl, rfl, _, h3, hA⟩ := trodAll_cons hA
 obtain ⟨v4, vs, d4, ds1, p4, q4, rfl, rfl, _, h4, hA⟩ := trodAll_cons hA
 obtain ⟨rfl, rfl, _⟩ := trodAll_nil hA
 have ea : args = #[v1, v2, v3, v4] := Array.toList_inj.1 e1
 subst ea
 obtain ⟨l, a, c, rfl, ha, hl⟩ := read_pairs Tryd.underlying40 Tryd.underlying43 (by kernel_rfl) rfl rfl rfl rfl (hg 0 _ _ rfl rfl) h1
 obtain ⟨x, rfl, _, _, hx⟩ := open_int Tryd.underlying5 (hg 1 _ _ rfl rfl) h2
 obtain ⟨q, a2, c2, rfl, ha2, hq, hq2⟩ := read_u16 Tryd.underlying41 Tryd.underlying80 (by kernel_rfl) (hg 2 _ _ rfl rfl) h3
 obtain ⟨y, rfl, _, _, hy⟩ := open_int Tryd.underlying5 (hg 3 _ _ rfl rfl) h4
 have hx := (u8_wf _).1 hx
 have hy := (u8_wf _).1 hy
 refine ⟨fun b => (∃ z, a = some z ∧ z.block = b) ∨ (∃ z, a2 = some z ∧ z.block = b), ?_, ?_, ?_⟩
 ·rintro b (⟨z, hz, rfl⟩ | ⟨z, hz, rfl⟩)
  ·exact (ha z hz).2
  ·exact (ha2 z hz).2
 ·intro C R hR
  refine ⟨rfl, fun i u u' hu hu' => ?_⟩
  rw [hu] at hu'
  cases hu'
  have hi := (Array.getElem?_eq_some_iff.1 hu).1
  rcases (show i = 0 ∨ i = 1 ∨ i = 2 ∨ i = 3 by simp at hi; omega) with rfl | rfl | rfl | rfl
  ·cases hu; exact vr_slice _ _ _ fun z hz => hR _ (.inl ⟨z, hz, rfl⟩)
  ·cases hu; exact .int _ _
  ·cases hu; exact vr_slice _ _ _ fun z hz => hR _ (.inr ⟨z, hz, rfl⟩)
  ·cases hu; exact .int _ _
 ·intro w hG hk
  refine LoadCounts_of (fun W hW => lives_any W hW) l q a a2 c c2 x y (by omega) (by omega) hq w hG (fun h => ?_) (fun h => ?_)
  ·obtain ⟨b, o, rfl, hP⟩ := hl h
   exact ⟨b, o, rfl, fun i z hz => ⟨hk _ _ _ (.inl ⟨_, rfl, rfl⟩) (hP i z hz).1 (.int _ _), hk _ _ _ (.inl ⟨_, rfl, rfl⟩) (hP i z hz).2 (.int _ _)⟩⟩
  ·obtain ⟨b, o, rfl, hP⟩ := hq2 h
   exact ⟨b, o, rfl, fun i z hz => hk _ _ _ (.inr ⟨_, rfl, rfl⟩) (hP i z hz) (.int _ _)⟩
set_option maxRecDepth 100000 in
theorem loadCounts_lifted (os : Os) (started : os.Started) (H : Type) (enc : TypeId × Value → H) :
 ReturnsInLeavingWide {} Tryd.checked os 8 .any (fun w args => (Rows.loadCountsSpec.pre enc Tryd.prog Tryd.f8 [] false w args ∧ laidMetH Tryd.prog laidAll w) ∧ sizedMet enc Tryd.prog Tryd.f8 (OpenSpec.ofChange Rows.loadCountsSpec) false w args)
  (Rows.loadCountsSpec.post enc Tryd.prog Tryd.f8 false true false false) :=
 law_at os started H enc Tryd.func8 rfl rfl (fun ds h => by
  match ds, h with
  | [_, _, _, _], _ => rfl) (by decide +kernel) (by decide +kernel) (by decide) (fun W args ds h => loadCounts_lone enc W args ds h)
  (ChangeSpec.witness_shaped (enc := enc) (C := Tryd.checked) (os := os) (X := fun w _ => laidMetH Tryd.prog laidAll w) false (World.doorLaid Tryd.prog 19 os) #[.slice none 0 0, .int .u8 0, .slice none 0 0, .int .u8 0] 8 rfl (World.shaped_of_RefB (by kernel_rfl) (by kernel_rfl)) (by kernel_rfl) (by kernel_rfl) (by kernel_rfl) (door_met os _))
set_option maxRecDepth 100000 in
theorem loadCounts_holds : Rows.LoadCountsSaid :=
 OpenClaim.holds_of_wide_leaving 8 Tryd.f8 rfl rfl rfl rfl rfl rfl rfl ⟨rfl, rfl, rfl, rfl, rfl⟩ rfl rfl rfl rfl rfl (by kernel_rfl) Tryd.func8 (by kernel_rfl)
  (of_decide_eq_true (by kernel_rfl)) (by unfold Func.isWrapper; first | (rw [if_pos (by decide +kernel)]; kernel_rfl) | (rw [if_neg (by decide +kernel)]; exact ⟨rfl, rfl⟩))
  (fun os started H enc _ => loadCounts_lifted os started H enc)
set_option maxRecDepth 100000 in
theorem loadCounts_card : Rows.LoadCountsCardSaid :=
 tied_goes .later [] [.funcs, .data] true (true, "909709116b50f11fe46b3276edca8e69296c4c4861cddc99da238510f1fa2e59") false
  loadCounts_holds (fun _ h => by cases h) (by kernel_rfl) (fun _ h => by cases h) loadCounts_row_tie rfl ⟨rfl, rfl⟩ (by kernel_rfl) rfl
  (fun f fn hf hfn => by
    obtain rfl : f = 8 := Option.some.inj ((show Tryd.prog.funcNamed "baudot/baudotlaw05.LoadCounts" = some 8 by kernel_rfl).symm.trans hf) |>.symm
    obtain rfl : fn = Tryd.f8 := (Option.some.inj (Tryd.func8.symm.trans hfn)).symm
    exact ⟨by kernel_rfl, fun j t ht => by
     have hm : t ∈ [40, 5, 41, 5] := List.mem_of_getElem? (i := j) (by rw [← Array.getElem?_toList] at ht; exact ht)
     exact (show ∀ t ∈ [40, 5, 41, 5], Tryd.prog.wantsStandIn t = false by decide +kernel) t hm⟩)
  (by kernel_rfl)
end Go.Proofs.YtbbjalighlddcaaDoor
end
