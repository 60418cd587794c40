/-
  A part of the proof (KMonotone): lemmas about the program and about the machine that the last text of this claim rests upon; no condition.
-/
import Derived.Test.YtbbjalighlddcaaDoorM20
import Derived.Test.YtbbjalighlddcaaDoorMxMonox01
import Derived.Test.YtbbjalighlddcaaDoorM21
set_option linter.unusedSimpArgs false
set_option linter.unusedVariables false
section
namespace Go.Proofs.YtbbjalighlddcaaDoor
open Go Go.Conc Go.Sim Go.Load Go.RowKit Go.ChangeShapes Go.WideShapes Go.ChangeAt
open Go.Proofs.Tryd
theorem loadMonotone_any (xs : List Int) (hl : xs.length = 4) (hx : ∀ x ∈ xs, 0 ≤ x ∧ x < 256) (w : World) (hG : Globs w) : Calls srcP 5 (xs.map (Value.int .u8)).toArray w fun e w' => e = .returned (.bool true) ∧ Below w.heap.size w w' := by
 match xs, hl with
 | [a, b, c, d], _ =>
   have h : ∀ x ∈ [a, b, c, d], 0 ≤ x ∧ x ≤ 255 := fun x h => by have := hx x h; omega
   exact LoadMonotone_of (fun W hW => lives_any W hW) a b c d (h _ (by simp)) (h _ (by simp)) (h _ (by simp)) (h _ (by simp)) w hG
set_option maxRecDepth 100000 in
theorem loadMonotone_lifted (os : Os) (started : os.Started) (H : Type) (enc : TypeId × Value → H) :
 ReturnsInLeavingWide {} Tryd.checked os 5 .any (fun w args => (Rows.loadMonotoneSpec.pre enc Tryd.prog Tryd.f5 [] false w args ∧ laidMetH Tryd.prog laidAll w) ∧ sizedMet enc Tryd.prog Tryd.f5 (OpenSpec.ofChange Rows.loadMonotoneSpec) false w args)
  (Rows.loadMonotoneSpec.post enc Tryd.prog Tryd.f5 false true false false) :=
 law_u8 (n := 4) os started H enc Tryd.func5 rfl rfl rfl (fun ds h => by
  match ds, h with
  | [_, _, _, _], _ => rfl) (by decide +kernel) (by decide) loadMonotone_any
  (ChangeSpec.witness_shaped (enc := enc) (C := Tryd.checked) (os := os) (X := fun w _ => laidMetH Tryd.prog laidAll w) false (World.doorLaid Tryd.prog 19 os) #[.int .u8 0, .int .u8 0, .int .u8 0, .int .u8 0] 8 rfl (World.shaped_of_RefB (by kernel_rfl) (by kernel_rfl)) (by kernel_rfl) (by kernel_rfl) (by kernel_rfl) (door_met os _))
set_option maxRecDepth 100000 in
theorem loadMonotone_holds : Rows.LoadMonotoneSaid :=
 OpenClaim.holds_of_wide_leaving 5 Tryd.f5 rfl rfl rfl rfl rfl rfl rfl ⟨rfl, rfl, rfl, rfl, rfl⟩ rfl rfl rfl rfl rfl (by kernel_rfl) Tryd.func5 (by kernel_rfl)
  (of_decide_eq_true (by kernel_rfl)) (by unfold Func.isWrapper; first | (rw [if_pos (by decide +kernel)]; kernel_rfl) | (rw [if_neg (by decide +kernel)]; exact ⟨rfl, rfl⟩))
  (fun os started H enc _ => loadMonotone_lifted os started H enc)
set_option maxRecDepth 100000 in
theorem loadMonotone_card : Rows.LoadMonotoneCardSaid :=
 tied_goes .later [] [.funcs, .data] true (true, "909709116b50f11fe46b3276edca8e69296c4c4861cddc99da238510f1fa2e59") false
  loadMonotone_holds (fun _ h => by cases h) (by kernel_rfl) (fun _ h => by cases h) loadMonotone_row_tie rfl ⟨rfl, rfl⟩ (by kernel_rfl) rfl
  (fun f fn hf hfn => by
    obtain rfl : f = 5 := Option.some.inj ((show Tryd.prog.funcNamed "baudot/baudotlaw05.LoadMonotone" = some 5 by kernel_rfl).symm.trans hf) |>.symm
    obtain rfl : fn = Tryd.f5 := (Option.some.inj (Tryd.func5.symm.trans hfn)).symm
    exact ⟨by kernel_rfl, fun j t ht => by
     have hp : Tryd.f5.params = (List.replicate 4 5).toArray := rfl
     rw [hp] at ht
     obtain rfl := u8s_get ht
     exact (show Tryd.prog.wantsStandIn 5 = false by kernel_rfl)⟩)
  (by kernel_rfl)
end Go.Proofs.YtbbjalighlddcaaDoor
end
