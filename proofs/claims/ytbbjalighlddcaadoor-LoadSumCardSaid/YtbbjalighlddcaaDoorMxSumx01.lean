/-
  A part of the proof (C56): lemmas about the program and about the machine that the last text of this claim rests upon; no condition.
-/
import Derived.Test.YtbbjalighlddcaaDoorM06
import Derived.Test.YtbbjalighlddcaaDoorMxBearxEnouxMonoxSumx01
set_option linter.unusedSimpArgs false
set_option linter.unusedVariables false
section
namespace Go.Proofs.Tryd
open Go Go.Load Go.RowKit
theorem s4 : srcP.funcs[4]? = some f4 := by kernel_rfl
set_option maxHeartbeats 16000000 in
set_option maxRecDepth 100000 in
theorem LoadSum_of (HL : ∀ W, Globs W → Calls srcP 14 #[] W fun e w' => e = .returned (.bool true) ∧ Below W.heap.size W w') (top bottom trunks second : Int) (ht : 0 ≤ top ∧ top ≤ 255) (hb : 0 ≤ bottom ∧ bottom ≤ 255) (hn : 0 ≤ trunks ∧ trunks ≤ 255) (hs : 0 ≤ second ∧ second ≤ 255) (w : World) (hG : Globs w) :
 Calls srcP 4 #[.int .u8 top, .int .u8 bottom, .int .u8 trunks, .int .u8 second] w fun e w' => e = .returned (.bool true) ∧ Below w.heap.size w w' := by
 have htr := fun W => traffic_any top bottom W ht hb
 obtain ⟨t, et, ht2⟩ : ∃ t : Nat, top % 13 = t ∧ t ≤ 12 := ⟨(top % 13).toNat, by omega, by omega⟩
 obtain ⟨b, eb, hb2⟩ : ∃ b : Nat, 1 + bottom % 4 = ((b + 1 : Nat) : Int) ∧ b < 4 := ⟨(bottom % 4).toNat, by omega, by omega⟩
 obtain ⟨n, en, hn2⟩ : ∃ n : Nat, trunks % 8 = n ∧ n ≤ 7 := ⟨(trunks % 8).toNat, by omega, by omega⟩
 obtain ⟨k, ek, hk2⟩ : ∃ k : Nat, second % 8 = k ∧ k ≤ 7 := ⟨(second % 8).toNat, by omega, by omega⟩
 rw [et, eb] at htr
 have hR : sumB t (b + 1) n = true := by
  have h := sum_all
  rw [List.all_eq_true] at h
  have h := h t (List.mem_range.2 (by omega))
  rw [List.all_eq_true] at h
  have h := h b (List.mem_range.2 hb2)
  rw [List.all_eq_true] at h
  exact h n (List.mem_range.2 (by omega))
 unfold sumB at hR
 simp only [Bool.and_eq_true, decide_eq_true_eq, Bool.not_eq_true'] at hR
 obtain ⟨⟨⟨⟨⟨⟨⟨⟨⟨f1, f2⟩, f3⟩, k1⟩, k2⟩, k3⟩, km⟩, rm⟩, ra⟩, rr⟩ := hR
 have l1 := told_lost (t := t) (b := b + 1) (n := n) ht2 ⟨by omega, by omega⟩ hn2
 have l2 := told_carried (t := t) (b := b + 1) (n := n) ht2 ⟨by omega, by omega⟩ hn2
 have l3 := told_loss (t := t) (b := b + 1) (n := n) ht2 ⟨by omega, by omega⟩ hn2
 have l4 := fun h => told_loss (t := t) (b := b + 1) (n := n + k) ht2 ⟨by omega, by omega⟩ h
 generalize lostB t (b + 1) n = x at *
 generalize carrB t (b + 1) n = y at *
 generalize lossB t (b + 1) n = l at *
 generalize lossB t (b + 1) (n + k) = m at *
 have hbb : 1 ≤ b + 1 ∧ b + 1 ≤ 4 := ⟨by omega, by omega⟩
 generalize b + 1 = c at *
 clear eb hb2
 rw [show ((n + k : Nat) : Int) = (n : Int) + k from rfl] at l4
 have hl1 := fun W => Lost_any n ((t : Int), (c : Int)) W
 have hl2 := fun W => Carried_any n ((t : Int), (c : Int)) W
 have hl3 := fun W => Loss_any n ((t : Int), (c : Int)) W
 have ho := fun W => Over_any n k ((t : Int), (c : Int)) W
 have hl4 := fun W => Loss_any ((n : Int) + k) ((t : Int), (c : Int)) W
 rw [l1] at hl1
 rw [l2] at hl2
 rw [l3] at hl3
 have ov : overN n k ((t : Int), (c : Int)) = toldN lossN ((t : Int), (c : Int)) ((n : Int) + k) := by
  unfold overN
  rw [if_pos ⟨⟨by omega, by omega⟩, by omega, by omega⟩]
 rw [ov] at ho
 have l5 : ¬ (n : Int) + k ≤ 7 → toldN lossN ((t : Int), (c : Int)) ((n : Int) + k) = tv (0, 0) 1 := fun h => by
  unfold toldN
  rw [if_neg fun h' => h h'.2.2]
 obtain ⟨x1, x2⟩ := x
 obtain ⟨y1, y2⟩ := y
 obtain ⟨q1, q2⟩ := l
 obtain ⟨m1, m2⟩ := m
 simp only [okS] at k1 k2 k3
 simp only at km ra
 have hfx := fun W => fair_any (x1, x2) W k1.1 k1.2.2.1 (by show x1 < _; omega) (by show x2 < _; omega)
 have hfy := fun W => fair_any (y1, y2) W k2.1 k2.2.2.1 (by show y1 < _; omega) (by show y2 < _; omega)
 have hfq := fun W => fair_any (q1, q2) W k3.1 k3.2.2.1 (by show q1 < _; omega) (by show q2 < _; omega)
 rw [f1] at hfx
 rw [f2] at hfy
 rw [f3] at hfq
 have hof := fun a b W => lof_any a b W
 have hmi := fun W => Minus_any ((t : Int), (c : Int)) (x1, x2) W (by show 0 ≤ (t : Int); omega) (by show 0 < (c : Int); omega) k1.1 k1.2.2.1 km.1.1 km.1.2 km.2
 simp only [rm] at hmi
 have hle := fun W => Less_any ((n : Int), 1) (y1, y2) W (by show 0 ≤ (n : Int); omega) (by show (0 : Int) < 1; decide) k2.1 k2.2.2.1 (by show (n : Int) < _; omega) (by show (1 : Int) < _; decide) (by show y1 < _; omega) (by show y2 < _; omega)
 rw [ra] at hle
 have hre := fun W => Reduced_any (t * q1.toNat) (c * q2.toNat) W (by
  have : t * q1.toNat ≤ 12 * q1.toNat := Nat.mul_le_mul ht2 (Nat.le_refl _)
  omega) ⟨Nat.mul_pos (by omega) (by omega), by
  have : c * q2.toNat ≤ 4 * q2.toNat := Nat.mul_le_mul hbb.2 (Nat.le_refl _)
  omega⟩
 rw [← rr] at hre
 have ex : ((t * q1.toNat : Nat) : Int) = (t : Int) * q1 := by rw [Int.natCast_mul, Int.toNat_of_nonneg k3.1]
 have ey : ((c * q2.toNat : Nat) : Int) = (c : Int) * q2 := by rw [Int.natCast_mul, Int.toNat_of_nonneg (by omega : 0 ≤ q2)]
 rw [ex, ey] at hre
 have b1 : 0 ≤ (t : Int) * q1 := Int.mul_nonneg (by omega) k3.1
 have b2 : (t : Int) * q1 ≤ 12 * 137438953472 := Int.mul_le_mul (by omega) (by omega) k3.1 (by omega)
 have b3 : 0 ≤ (c : Int) * q2 := Int.mul_nonneg (by omega) (by omega)
 have b4 : (c : Int) * q2 ≤ 4 * 8589934592 := Int.mul_le_mul (by omega) (by omega) (by omega) (by omega)
 have p1 : IntKind.i64.wrap ((t : Int) * q1) = t * q1 := by rw [IntKind.wrap_i64]; omega
 have p2 : IntKind.i64.wrap ((c : Int) * q2) = c * q2 := by rw [IntKind.wrap_i64]; omega
 have p3 : IntKind.i64.wrap ((n : Int) + k) = (n : Int) + k := by rw [IntKind.wrap_i64]; omega
 have g1 : decide ((34359738368 : Int) < x2) = false := decide_eq_false (by omega)
 have g2 : decide ((8589934592 : Int) < q2) = false := decide_eq_false (by omega)
 simp only [tv, fv] at *
 go_enter s4, ntmps4
 go_wp2
 go_at_call 9
 refine (htr _).mono ?_
 rintro e w' ⟨rfl, hB⟩
 have h : KSt w w' [] := ⟨fun p hp => (by cases hp), hG.keep hB, hB⟩
 clear hB hG
 replace h := h.box2 (.int .i64 t) (.int .i64 c) 23
 have k0a := h.cell (⟨w'.heap.size, 0, none⟩, .int .i64 t) (by simp)
 have k0b := h.cell (⟨w'.heap.size, 1, none⟩, .int .i64 c) (by simp)
 simp only at k0a k0b
 go_wp2
 try simp only [en]
 clear k0a k0b
 generalize w'.alloc (.cells #[.int .i64 t, .int .i64 c] 23) = W at h ⊢
 generalize w'.heap.size = z1 at h ⊢
 go_at_call 15
 refine (hl1 _).mono ?_
 rintro e w' ⟨rfl, hB⟩
 replace h := (h.call hB).box2 (.int .i64 x1) (.int .i64 x2) 23
 clear hB
 have k0a := h.cell (⟨z1, 0, none⟩, .int .i64 t) (by simp)
 have k0b := h.cell (⟨z1, 1, none⟩, .int .i64 c) (by simp)
 simp only at k0a k0b
 go_wp2
 clear k0a k0b
 generalize w'.alloc (.cells #[.int .i64 x1, .int .i64 x2] 23) = W at h ⊢
 generalize w'.heap.size = z2 at h ⊢
 go_at_call 16
 refine (hl2 _).mono ?_
 rintro e w' ⟨rfl, hB⟩
 replace h := (h.call hB).box2 (.int .i64 y1) (.int .i64 y2) 23
 clear hB
 have k0a := h.cell (⟨z1, 0, none⟩, .int .i64 t) (by simp)
 have k0b := h.cell (⟨z1, 1, none⟩, .int .i64 c) (by simp)
 simp only at k0a k0b
 go_wp2
 clear k0a k0b
 generalize w'.alloc (.cells #[.int .i64 y1, .int .i64 y2] 23) = W at h ⊢
 generalize w'.heap.size = z3 at h ⊢
 go_at_call 10
 refine (hl3 _).mono ?_
 rintro e w' ⟨rfl, hB⟩
 replace h := (h.call hB).box2 (.int .i64 q1) (.int .i64 q2) 23
 clear hB
 have k0a := h.cell (⟨z2, 0, none⟩, .int .i64 x1) (by simp)
 have k0b := h.cell (⟨z2, 1, none⟩, .int .i64 x2) (by simp)
 simp only at k0a k0b
 go_wp2
 clear k0a k0b
 generalize w'.alloc (.cells #[.int .i64 q1, .int .i64 q2] 23) = W at h ⊢
 generalize w'.heap.size = z4 at h ⊢
 go_at_call 12
 refine (hfx _).mono ?_
 rintro e w' ⟨rfl, hB⟩
 replace h := h.call hB
 clear hB
 have k0a := h.cell (⟨z3, 0, none⟩, .int .i64 y1) (by simp)
 have k0b := h.cell (⟨z3, 1, none⟩, .int .i64 y2) (by simp)
 simp only at k0a k0b
 go_wp2
 clear k0a k0b
 go_at_call 12
 refine (hfy _).mono ?_
 rintro e w' ⟨rfl, hB⟩
 replace h := h.call hB
 clear hB
 have k0a := h.cell (⟨z4, 0, none⟩, .int .i64 q1) (by simp)
 have k0b := h.cell (⟨z4, 1, none⟩, .int .i64 q2) (by simp)
 simp only at k0a k0b
 go_wp2
 clear k0a k0b
 go_at_call 12
 refine (hfq _).mono ?_
 rintro e w' ⟨rfl, hB⟩
 replace h := h.call hB
 clear hB
 have k0a := h.cell (⟨z2, 0, none⟩, .int .i64 x1) (by simp)
 have k0b := h.cell (⟨z2, 1, none⟩, .int .i64 x2) (by simp)
 have k1a := h.cell (⟨z4, 0, none⟩, .int .i64 q1) (by simp)
 have k1b := h.cell (⟨z4, 1, none⟩, .int .i64 q2) (by simp)
 simp only at k0a k0b k1a k1b
 go_wp2
 clear k0a k0b k1a k1b
 have k0a := h.cell (⟨z1, 0, none⟩, .int .i64 t) (by simp)
 have k0b := h.cell (⟨z1, 1, none⟩, .int .i64 c) (by simp)
 have k1a := h.cell (⟨z2, 0, none⟩, .int .i64 x1) (by simp)
 have k1b := h.cell (⟨z2, 1, none⟩, .int .i64 x2) (by simp)
 have k2a := h.cell (⟨z3, 0, none⟩, .int .i64 y1) (by simp)
 have k2b := h.cell (⟨z3, 1, none⟩, .int .i64 y2) (by simp)
 have k3a := h.cell (⟨z4, 0, none⟩, .int .i64 q1) (by simp)
 have k3b := h.cell (⟨z4, 1, none⟩, .int .i64 q2) (by simp)
 simp only at k0a k0b k1a k1b k2a k2b k3a k3b
 have hS0 : RS4 w' z1 z2 z3 z4 ((t : Int), (c : Int)) (x1, x2) (y1, y2) (q1, q2) w' := ⟨k0a, k0b, k1a, k1b, k2a, k2b, k3a, k3b, Below.refl _ _⟩
 clear k0a k0b k1a k1b k2a k2b k3a k3b
 go_region_held3 (RS4 w' z1 z2 z3 z4 ((t : Int), (c : Int)) (x1, x2) (y1, y2) (q1, q2)) (first | exact RS4.drew hS0 | (refine RS4.call ?_ hB; with_reducible assumption) | (refine RS4.call ?_ hB; assumption)) (first | (go_at_call 17; (with_reducible refine (hmi _).mono ?_); rintro e wx ⟨rfl, hB⟩) | (go_at_call 11; (with_reducible refine (hof _ _ _).mono ?_); rintro e wx ⟨rfl, hB⟩) | (go_at_call 18; (with_reducible refine (hle _).mono ?_); rintro e wx ⟨rfl, hB⟩) | (go_at_call 13; (with_reducible refine (hre _).mono ?_); rintro e wx ⟨rfl, hB⟩))
 all_goals
  rename_i hH
  replace h := h.call (RS4.bel hH)
  clear hH hS0
  have k0a := h.cell (⟨z1, 0, none⟩, .int .i64 t) (by simp)
  have k0b := h.cell (⟨z1, 1, none⟩, .int .i64 c) (by simp)
  simp only at k0a k0b
  go_wp2
  simp only [ek]
  clear k0a k0b
  by_cases hk : (n : Int) + k ≤ 7
  ·have e1 := l4 (by omega)
   rw [e1] at ho hl4
   have g3 : decide ((7 : Int) < (n : Int) + k) = false := decide_eq_false (by omega)
   go_at_call 19
   refine (ho _).mono ?_
   rintro e w' ⟨rfl, hB⟩
   replace h := (h.call hB).box2 (.int .i64 m1) (.int .i64 m2) 23
   clear hB
   have k0a := h.cell (⟨z1, 0, none⟩, .int .i64 t) (by simp)
   have k0b := h.cell (⟨z1, 1, none⟩, .int .i64 c) (by simp)
   simp only at k0a k0b
   go_wp2
   try simp only [p3]
   clear k0a k0b
   generalize w'.alloc (.cells #[.int .i64 m1, .int .i64 m2] 23) = W at h ⊢
   generalize w'.heap.size = z5 at h ⊢
   go_at_call 10
   refine (hl4 _).mono ?_
   rintro e w' ⟨rfl, hB⟩
   replace h := (h.call hB).box2 (.int .i64 m1) (.int .i64 m2) 23
   clear hB
   have k0a := h.cell (⟨z5, 0, none⟩, .int .i64 m1) (by simp)
   have k0b := h.cell (⟨z5, 1, none⟩, .int .i64 m2) (by simp)
   have k1a := h.cell (⟨w'.heap.size, 0, none⟩, .int .i64 m1) (by simp)
   have k1b := h.cell (⟨w'.heap.size, 1, none⟩, .int .i64 m2) (by simp)
   simp only at k0a k0b k1a k1b
   go_wp2
   clear k0a k0b k1a k1b
   generalize w'.alloc (.cells #[.int .i64 m1, .int .i64 m2] 23) = W at h ⊢
   generalize w'.heap.size = z6 at h ⊢
   go_at_call 14
   refine (HL _ h.gl).mono ?_
   rintro e w' ⟨rfl, hB⟩
   go_wp2
   go_ret
   exact ⟨rfl, (h.call hB).bw⟩
  ·have e1 := l5 (by omega)
   rw [e1] at ho
   have g3 : decide ((7 : Int) < (n : Int) + k) = true := decide_eq_true (by omega)
   go_at_call 19
   refine (ho _).mono ?_
   rintro e w' ⟨rfl, hB⟩
   replace h := (h.call hB).box2 (.int .i64 0) (.int .i64 0) 23
   clear hB
   have k0a := h.cell (⟨z1, 0, none⟩, .int .i64 t) (by simp)
   have k0b := h.cell (⟨z1, 1, none⟩, .int .i64 c) (by simp)
   simp only at k0a k0b
   go_wp2
   try simp only [p3]
   clear k0a k0b
   generalize w'.alloc (.cells #[.int .i64 0, .int .i64 0] 23) = W at h ⊢
   generalize w'.heap.size = z5 at h ⊢
   have k0a := h.cell (⟨z5, 0, none⟩, .int .i64 0) (by simp)
   have k0b := h.cell (⟨z5, 1, none⟩, .int .i64 0) (by simp)
   simp only at k0a k0b
   have hS0 : RS1 W z5 (0, 0) W := ⟨k0a, k0b, Below.refl _ _⟩
   clear k0a k0b
   go_region_held3 (RS1 W z5 (0, 0)) (first | exact RS1.drew hS0 | (refine RS1.call ?_ hB; with_reducible assumption) | (refine RS1.call ?_ hB; assumption)) (first | (go_at_call 11; (with_reducible refine (hof _ _ _).mono ?_); rintro e wx ⟨rfl, hB⟩) | (go_at_call 14; refine (HL _ (h.gl.keep (RS1.bel (by assumption)))).mono ?_; rintro e wy ⟨rfl, hB⟩))
   all_goals (rename_i hH; go_wp2; go_ret; exact ⟨rfl, Below.call h.bw (RS1.bel hH) (Nat.le_refl _)⟩)
end Go.Proofs.Tryd
end
