/-
  A part of the proof (C45 C46 C55): lemmas about the program and about the machine that the last text of this claim rests upon; no condition.
-/
import Derived.Test.YtbbjalighlddcaaDoorM06
import Derived.Test.YtbbjalighlddcaaDoorM03
import Derived.Test.YtbbjalighlddcaaDoorMxBearxEnouxMonoxRulexSumx01
set_option linter.unusedSimpArgs false
set_option linter.unusedVariables false
section
namespace Go.Proofs.Tryd
open Go Go.Load Go.RowKit
set_option maxHeartbeats 1000000 in
theorem Minus_any (x y : Int × Int) (w : World) (h1 : 0 ≤ x.1) (h2 : 0 < x.2) (h3 : 0 ≤ y.1) (h4 : 0 < y.2) (h5 : x.1 * y.2 < 4611686018427387904) (h6 : x.2 * y.2 < 4611686018427387904) (h7 : y.1 * x.2 ≤ x.1 * y.2) :
 Calls srcP 17 #[fv x, fv y] w fun e w' => e = .returned (fv (redN (x.1 * y.2 - y.1 * x.2).toNat (x.2 * y.2).toNat)) ∧ Below w.heap.size w w' := by
 obtain ⟨a, b⟩ := x
 obtain ⟨c, d⟩ := y
 simp only at h1 h2 h3 h4 h5 h6 h7
 have m1 := Int.mul_nonneg h1 (Int.le_of_lt h4)
 have m2 := Int.mul_pos h2 h4
 have m3 := Int.mul_nonneg h3 (Int.le_of_lt h2)
 have hr := fun W => Reduced_any (a * d - c * b).toNat (b * d).toNat W (by omega) (by omega)
 rw [Int.toNat_of_nonneg (show 0 ≤ a * d - c * b by omega), Int.toNat_of_nonneg (show 0 ≤ b * d by omega)] at hr
 simp only [fv] at *
 go_enter s17, ntmps17
 go_wp2_with (go_at_call 13; refine (hr _).mono ?_; rintro e w1 ⟨rfl, hB⟩; have c0 := keep_cell ⟨w.heap.size + 2, 0, none⟩ hB (v := .int .i64 0) (by go_cell); have c1 := keep_cell ⟨w.heap.size + 2, 1, none⟩ hB (v := .int .i64 0) (by go_cell); have f0 := keep_frozen ⟨w.heap.size + 2, 0, none⟩ hB (v := .int .i64 0) (by go_cell) (by go_cell); have f1 := keep_frozen ⟨w.heap.size + 2, 1, none⟩ hB (v := .int .i64 0) (by go_cell) (by go_cell))
 refine ret_box2 results17 src_agg23 src_size23 rfl c0 c1 ⟨rfl, ?_⟩
 exact ((Below.call (by go_grown) hB (Nat.le_refl _)).setCell (by simp <;> omega) _).setCell (by simp <;> omega) _
end Go.Proofs.Tryd
end
section
namespace Go.Proofs.Tryd
open Go Go.Load Go.RowKit
set_option maxHeartbeats 6000000 in
theorem Less_any (x y : Int × Int) (w : World) (h1 : 0 ≤ x.1) (h2 : 0 < x.2) (h3 : 0 ≤ y.1) (h4 : 0 < y.2) (h5 : x.1 < 4611686018427387904) (h6 : x.2 < 4611686018427387904) (h7 : y.1 < 4611686018427387904) (h8 : y.2 < 4611686018427387904) :
 Calls srcP 18 #[fv x, fv y] w fun e w' => e = .returned (.bool (above y x)) ∧ Below w.heap.size w w' := by
 obtain ⟨a0, b0⟩ := x
 obtain ⟨c0, d0⟩ := y
 simp only [fv] at *
 go_enter s18, ntmps18
 go_wp2
 go_loopw [] (fun wr => ∃ a b c d : Int, 0 ≤ a ∧ 0 < b ∧ 0 ≤ c ∧ 0 < d ∧ a < 4611686018427387904 ∧ b < 4611686018427387904 ∧ c < 4611686018427387904 ∧ d < 4611686018427387904 ∧ Hid (above (c, d) (a, b) = above (c0, d0) (a0, b0)) ∧
  wr.cell? ⟨w.heap.size, 0, none⟩ = some (.int .i64 a) ∧ wr.cell? ⟨w.heap.size, 1, none⟩ = some (.int .i64 b) ∧ wr.cell? ⟨w.heap.size + 1, 0, none⟩ = some (.int .i64 c) ∧ wr.cell? ⟨w.heap.size + 1, 1, none⟩ = some (.int .i64 d) ∧
  wr.frozen? ⟨w.heap.size, 0, none⟩ = false ∧ wr.frozen? ⟨w.heap.size, 1, none⟩ = false ∧ wr.frozen? ⟨w.heap.size + 1, 0, none⟩ = false ∧ wr.frozen? ⟨w.heap.size + 1, 1, none⟩ = false ∧ w.heap.size + 2 ≤ wr.heap.size ∧ Below w.heap.size w wr)
  (fun wr => cellNat wr ⟨w.heap.size, 1, none⟩ + cellNat wr ⟨w.heap.size + 1, 1, none⟩)
 case atStart => exact ⟨a0, b0, c0, d0, h1, h2, h3, h4, h5, h6, h7, h8, Lib.hid rfl, by go_cell, by go_cell, by go_cell, by go_cell, by go_cell, by go_cell, by go_cell, by go_cell, by simp, by go_grown⟩
 case round =>
  clear h1 h2 h3 h4 h5 h6 h7 h8
  obtain ⟨a, b, c, d, h1, h2, h3, h4, h5, h6, h7, h8, HA, k0, k1, k2, k3, g0, g1, g2, g3, hsz, hB⟩ := hrel
  have e1 := Int.ediv_nonneg h1 (Int.le_of_lt h2)
  have e2 := Int.ediv_nonneg h3 (Int.le_of_lt h4)
  have e3 := Int.ediv_le_self b h1
  have e4 := Int.ediv_le_self d h3
  have e5 := Int.emod_nonneg a (Int.ne_of_gt h2)
  have e6 := Int.emod_lt_of_pos a h2
  have e7 := Int.emod_nonneg c (Int.ne_of_gt h4)
  have e8 := Int.emod_lt_of_pos c h4
  have n1 : (b == 0) = false := by rw [beq_eq_false_iff_ne]; omega
  have n2 : (d == 0) = false := by rw [beq_eq_false_iff_ne]; omega
  go_wp2
  go_region
  all_goals go_wp2
  all_goals go_region
  all_goals go_wp2
  ·have hne : (a / b != c / d) = true := by assumption
   have hne' : c / d ≠ a / b := fun e => by simp [e] at hne
   go_returns
   refine ⟨?_, (hB.drew).drew⟩
   rw [← HA.out]
   unfold above
   simp only [above_ne h4 h2 hne']
   rfl
  ·have heq : (a / b != c / d) = false := by assumption
   have heq' : c / d = a / b := (bne_eq_false_iff_eq.1 heq).symm
   have z1 : a % b = 0 := by assumption
   go_returns
   refine ⟨?_, (hB.drew).drew⟩
   rw [← HA.out]
   unfold above
   simp only [above_eq h4 h2 heq', z1, Int.zero_mul]
   have : (0 < c % d * b) ↔ (0 < c % d) := ⟨fun h => (Int.lt_or_eq_of_le e7).elim id fun h0 => by rw [← h0, Int.zero_mul] at h; omega, fun h => Int.mul_pos h h2⟩
   simp only [this]
   rfl
  ·have heq : (a / b != c / d) = false := by assumption
   have heq' : c / d = a / b := (bne_eq_false_iff_eq.1 heq).symm
   have z1 : ¬ a % b = 0 := by assumption
   have zz : (a % b == 0) = true ∨ (c % d == 0) = true := by assumption
   have z2 : c % d = 0 := by
    rcases zz with h | h
    ·exact absurd (beq_iff_eq.1 h) z1
    ·exact beq_iff_eq.1 h
   go_returns
   refine ⟨?_, (hB.drew).drew⟩
   rw [← HA.out]
   unfold above
   have hn : ¬ a % b * d < 0 := Int.not_lt.2 (Int.mul_nonneg e5 (Int.le_of_lt h4))
   simp only [above_eq h4 h2 heq', z2, Int.zero_mul, hn, decide_false]
   rfl
  ·have heq : (a / b != c / d) = false := by assumption
   have heq' : c / d = a / b := (bne_eq_false_iff_eq.1 heq).symm
   have z1 : ¬ a % b = 0 := by assumption
   have zz : (a % b == 0) = false ∧ (c % d == 0) = false := by assumption
   have z2 : c % d ≠ 0 := beq_eq_false_iff_ne.1 zz.2
   have hA : above (c, d) (a, b) = decide ((a % b) * d < (c % d) * b) := by
    unfold above
    exact decide_eq_decide.2 (above_eq h4 h2 heq')
   go_roundw
   case rel =>
    refine ⟨d, c % d, b, a % b, by omega, by omega, by omega, by omega, by omega, by omega, by omega, by omega, Lib.hid ?_, by go_cell, by go_cell, by go_cell, by go_cell, by go_cell, by go_cell, by go_cell, by go_cell, by simpa using hsz, ?_⟩
    ·rw [← HA.out, hA]
     unfold above
     simp only [Int.mul_comm]
    ·exact (((((hB.setCell (p := ⟨w.heap.size, 0, none⟩) (Nat.le_refl _) _).setCell (p := ⟨w.heap.size, 1, none⟩) (Nat.le_refl _) _).setCell (p := ⟨w.heap.size + 1, 0, none⟩) (Nat.le_succ _) _).setCell (p := ⟨w.heap.size + 1, 1, none⟩) (Nat.le_succ _) _).drew).drew
   case measure =>
    rw [cellNat_eq k1, cellNat_eq k3, cellNat_eq (n := c % d) (by go_cell), cellNat_eq (n := a % b) (by go_cell)]
    omega
end Go.Proofs.Tryd
end
section
namespace Go.Proofs.Tryd
open Go Go.Load Go.RowKit
def okS (x : Int × Int) (m : Int) : Prop := 0 ≤ x.1 ∧ x.1 ≤ 16 * m ∧ 0 < x.2 ∧ x.2 ≤ m
instance (x : Int × Int) (m : Int) : Decidable (okS x m) := by unfold okS; infer_instance
def lostB (t b n : Nat) : Int × Int := lostN (low (t : Int) (b : Int)) n
def carrB (t b n : Nat) : Int × Int := carriedN (low (t : Int) (b : Int)) n
def sumB (t b n : Nat) : Bool :=
 fairN (lostB t b n) && fairN (carrB t b n) && fairN (lossB t b n) && decide (okS (lostB t b n) 34359738368) && decide (okS (carrB t b n) 34359738368) && decide (okS (lossB t b n) 8589934592) &&
 decide (((t : Int) * (lostB t b n).2 < 4611686018427387904 ∧ (b : Int) * (lostB t b n).2 < 4611686018427387904) ∧ (lostB t b n).1 * b ≤ t * (lostB t b n).2) &&
 decide (redN ((t : Int) * (lostB t b n).2 - (lostB t b n).1 * b).toNat ((b : Int) * (lostB t b n).2).toNat = carrB t b n) && !above (carrB t b n) (n, 1) &&
 decide (lostB t b n = redN (t * (lossB t b n).1.toNat) (b * (lossB t b n).2.toNat))
theorem sum_all : ((List.range 13).all fun t => (List.range 4).all fun b => (List.range 8).all fun n => sumB t (b + 1) n) = true := by decide +kernel
theorem told_lost {t b n : Nat} (ht : t ≤ 12) (hb : 1 ≤ b ∧ b ≤ 4) (hn : n ≤ 7) : toldN lostN ((t : Int), (b : Int)) (n : Int) = tv (lostB t b n) 0 := by
 unfold toldN lostB
 rw [if_pos ⟨⟨⟨by omega, by omega⟩, by omega, by omega⟩, by omega, by omega⟩]
 rfl
theorem told_carried {t b n : Nat} (ht : t ≤ 12) (hb : 1 ≤ b ∧ b ≤ 4) (hn : n ≤ 7) : toldN carriedN ((t : Int), (b : Int)) (n : Int) = tv (carrB t b n) 0 := by
 unfold toldN carrB
 rw [if_pos ⟨⟨⟨by omega, by omega⟩, by omega, by omega⟩, by omega, by omega⟩]
 rfl
def savesB (t b n : Nat) : Int × Int := redN ((lostB t b n).1 * (lostB t b (n + 1)).2 - (lostB t b (n + 1)).1 * (lostB t b n).2).toNat ((lostB t b n).2 * (lostB t b (n + 1)).2).toNat
def smallB (t b n : Nat) : Bool := decide ((lostB t b n).2 < 268435456) && decide ((lostB t b (n + 1)).2 < 268435456) && decide ((lostB t b (n + 2)).2 < 268435456)
def monoB (t b n : Nat) : Bool :=
 fairN (lostB t b n) && fairN (lostB t b (n + 1)) && fairN (lostB t b (n + 2)) && decide (okS (lostB t b n) 1073741824) && decide (okS (lostB t b (n + 1)) 2147483648) && decide (okS (lostB t b (n + 2)) 34359738368) &&
 !above (lostB t b (n + 1)) (lostB t b n) && !above (lostB t b (n + 2)) (lostB t b (n + 1)) &&
 (!smallB t b n || (decide (((lostB t b n).1 * (lostB t b (n + 1)).2 < 4611686018427387904 ∧ (lostB t b n).2 * (lostB t b (n + 1)).2 < 4611686018427387904) ∧ (lostB t b (n + 1)).1 * (lostB t b n).2 ≤ (lostB t b n).1 * (lostB t b (n + 1)).2) &&
   decide (((lostB t b (n + 1)).1 * (lostB t b (n + 2)).2 < 4611686018427387904 ∧ (lostB t b (n + 1)).2 * (lostB t b (n + 2)).2 < 4611686018427387904) ∧ (lostB t b (n + 2)).1 * (lostB t b (n + 1)).2 ≤ (lostB t b (n + 1)).1 * (lostB t b (n + 2)).2) &&
   decide (okS (savesB t b n) 144115188075855872) && decide (okS (savesB t b (n + 1)) 144115188075855872) && !above (savesB t b (n + 1)) (savesB t b n)))
theorem mono_all : ((List.range 13).all fun t => (List.range 4).all fun b => (List.range 6).all fun n => monoB t (b + 1) n) = true := by decide +kernel
def otherB (t b s n : Nat) : Bool :=
 fairN (lostB s b n) && fairN (lossB t b n) && fairN (lossB s b n) && decide (okS (lostB s b n) 144115188075855872) && decide (okS (lossB t b n) 144115188075855872) && decide (okS (lossB s b n) 144115188075855872) &&
 !above (lostB s b n) (lostB t b n) && !above (lossB s b n) (lossB t b n)
theorem other_all : ((List.range 13).all fun t => (List.range 4).all fun b => (List.range (t + 1)).all fun s => (List.range 6).all fun n => otherB t (b + 1) s n) = true := by decide +kernel
end Go.Proofs.Tryd
end
