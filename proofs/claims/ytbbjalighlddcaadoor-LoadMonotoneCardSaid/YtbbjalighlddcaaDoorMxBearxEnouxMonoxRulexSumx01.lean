/-
  A part of the proof (C51): lemmas about the program and about the machine that the last text of this claim rests upon; no condition.
-/
import Derived.Test.YtbbjalighlddcaaDoorM06
set_option linter.unusedSimpArgs false
set_option linter.unusedVariables false
section
namespace Go.Proofs.Tryd
open Go Go.Load Go.RowKit
def lossB (t b n : Nat) : Int × Int := lossN (low (t : Int) (b : Int)) n
def okF (x : Int × Int) : Prop := 0 ≤ x.1 ∧ x.1 ≤ x.2 ∧ 0 < x.2 ∧ x.2 ≤ 8589934592
instance (x : Int × Int) : Decidable (okF x) := by unfold okF; infer_instance
def ruleB (t b n : Nat) : Bool :=
 decide (lossB t b 0 = (1, 1)) && fairN (lossB t b n) && fairN (lossB t b (n + 1)) && decide (okF (lossB t b n)) && decide (okF (lossB t b (n + 1))) &&
 decide (lossB t b (n + 1) = redN (t * (lossB t b n).1.toNat) ((n + 1) * b * (lossB t b n).2.toNat + t * (lossB t b n).1.toNat))
theorem rule_all : ((List.range 13).all fun t => (List.range 4).all fun b => (List.range 7).all fun n => ruleB t (b + 1) n) = true := by decide +kernel
theorem told_loss {t b n : Nat} (ht : t ≤ 12) (hb : 1 ≤ b ∧ b ≤ 4) (hn : n ≤ 7) : toldN lossN ((t : Int), (b : Int)) (n : Int) = tv (lossB t b n) 0 := by
 unfold toldN lossB
 rw [if_pos ⟨⟨⟨by omega, by omega⟩, by omega, by omega⟩, by omega, by omega⟩]
 rfl
end Go.Proofs.Tryd
end
