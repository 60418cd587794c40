/-
  A part of the proof (C52): lemmas about the program and about the machine that the last text of this claim rests upon; no condition.
-/
import Derived.Test.YtbbjalighlddcaaDoorMxBearxEnouxMonoxRulexSumx01
import Derived.Test.YtbbjalighlddcaaDoorM06
set_option linter.unusedSimpArgs false
set_option linter.unusedVariables false
section
namespace Go.Proofs.Tryd
open Go Go.Load Go.RowKit
theorem s3 : srcP.funcs[3]? = some f3 := by kernel_rfl
set_option maxHeartbeats 8000000 in
set_option maxRecDepth 100000 in
theorem LoadRule_of (HL : ∀ W, Globs W → Calls srcP 14 #[] W fun e w' => e = .returned (.bool true) ∧ Below W.heap.size W w') (top bottom trunks : Int) (ht : 0 ≤ top ∧ top ≤ 255) (hb : 0 ≤ bottom ∧ bottom ≤ 255) (hn : 0 ≤ trunks ∧ trunks ≤ 255) (w : World) (hG : Globs w) :
 Calls srcP 3 #[.int .u8 top, .int .u8 bottom, .int .u8 trunks] w fun e w' => e = .returned (.bool true) ∧ Below w.heap.size w w' := by
 have htr := fun W => traffic_any top bottom W ht hb
 obtain ⟨t, et, ht2⟩ : ∃ t : Nat, top % 13 = t ∧ t ≤ 12 := ⟨(top % 13).toNat, by omega, by omega⟩
 obtain ⟨b, eb, hb2⟩ : ∃ b : Nat, 1 + bottom % 4 = ((b + 1 : Nat) : Int) ∧ b < 4 := ⟨(bottom % 4).toNat, by omega, by omega⟩
 obtain ⟨n, en, hn2⟩ : ∃ n : Nat, trunks % 7 = n ∧ n ≤ 6 := ⟨(trunks % 7).toNat, by omega, by omega⟩
 rw [et, eb] at htr
 have hR : ruleB t (b + 1) n = true := by
  have h := rule_all
  rw [List.all_eq_true] at h
  have h := h t (List.mem_range.2 (by omega))
  rw [List.all_eq_true] at h
  have h := h b (List.mem_range.2 hb2)
  rw [List.all_eq_true] at h
  exact h n (List.mem_range.2 (by omega))
 unfold ruleB at hR
 simp only [Bool.and_eq_true, decide_eq_true_eq] at hR
 obtain ⟨⟨⟨⟨⟨r0, f1⟩, f2⟩, k1⟩, k2⟩, rr⟩ := hR
 have l0 := told_loss (t := t) (b := b + 1) (n := 0) ht2 ⟨by omega, by omega⟩ (by omega)
 have l1 := told_loss (t := t) (b := b + 1) (n := n) ht2 ⟨by omega, by omega⟩ (by omega)
 have l2 := told_loss (t := t) (b := b + 1) (n := n + 1) ht2 ⟨by omega, by omega⟩ (by omega)
 rw [r0] at l0
 generalize lossB t (b + 1) n = x at *
 generalize lossB t (b + 1) (n + 1) = y at *
 have hbb : 1 ≤ b + 1 ∧ b + 1 ≤ 4 := ⟨by omega, by omega⟩
 generalize b + 1 = c at *
 clear eb hb2 r0
 rw [show ((n + 1 : Nat) : Int) = (n : Int) + 1 from rfl] at l2
 have hl0 := fun W => Loss_any 0 ((t : Int), (c : Int)) W
 have hl1 := fun W => Loss_any n ((t : Int), (c : Int)) W
 have hl2 := fun W => Loss_any ((n : Int) + 1) ((t : Int), (c : Int)) W
 rw [l1] at hl1
 rw [l2] at hl2
 rw [show (0 : Int) = ((0 : Nat) : Int) from rfl, l0] at hl0
 obtain ⟨x1, x2⟩ := x
 obtain ⟨y1, y2⟩ := y
 simp only [okF] at k1 k2
 have hfx := fun W => fair_any (x1, x2) W k1.1 k1.2.2.1 (by show x1 < _; omega) (by show x2 < _; omega)
 have hfy := fun W => fair_any (y1, y2) W k2.1 k2.2.2.1 (by show y1 < _; omega) (by show y2 < _; omega)
 rw [f1] at hfx
 rw [f2] at hfy
 have hof := fun a b W => lof_any a b W
 have hre := fun W => Reduced_any (t * x1.toNat) ((n + 1) * c * x2.toNat + t * x1.toNat) W (by
  have : t * x1.toNat ≤ 12 * 8589934592 := Nat.mul_le_mul ht2 (by omega)
  omega) ⟨by
  have : 1 * 1 ≤ ((n + 1) * c) * x2.toNat := Nat.mul_le_mul (Nat.mul_pos (by omega) (by omega)) (by omega)
  omega, by
  have h1 : t * x1.toNat ≤ 12 * 8589934592 := Nat.mul_le_mul ht2 (by omega)
  have h2 : (n + 1) * c ≤ 7 * 4 := Nat.mul_le_mul (by omega) hbb.2
  have h3 : ((n + 1) * c) * x2.toNat ≤ 28 * 8589934592 := Nat.mul_le_mul h2 (by omega)
  omega⟩
 rw [← rr] at hre
 have ex : ((t * x1.toNat : Nat) : Int) = (t : Int) * x1 := by rw [Int.natCast_mul, Int.toNat_of_nonneg k1.1]
 have ey : (((n + 1) * c * x2.toNat + t * x1.toNat : Nat) : Int) = ((n : Int) + 1) * c * x2 + t * x1 := by
  rw [Int.natCast_add, ex, Int.natCast_mul, Int.natCast_mul, Int.toNat_of_nonneg (by omega : 0 ≤ x2)]; rfl
 rw [ex, ey] at hre
 have b1 : 0 ≤ (t : Int) * x1 := Int.mul_nonneg (by omega) k1.1
 have b2 : (t : Int) * x1 ≤ 12 * 8589934592 := Int.mul_le_mul (by omega) (by omega) k1.1 (by omega)
 have b3 : 0 ≤ ((n : Int) + 1) * c := Int.mul_nonneg (by omega) (by omega)
 have b4 : ((n : Int) + 1) * c ≤ 7 * 4 := Int.mul_le_mul (by omega) (by omega) (by omega) (by omega)
 have b5 : 0 ≤ ((n : Int) + 1) * c * x2 := Int.mul_nonneg b3 (by omega)
 have b6 : ((n : Int) + 1) * c * x2 ≤ 28 * 8589934592 := Int.mul_le_mul (by omega) (by omega) (by omega) (by omega)
 have g1 : ¬ x2 < x1 := by omega
 have g2 : ¬ y2 < y1 := by omega
 have g3 : ¬ (8589934592 : Int) < x2 := by omega
 have g4 : ¬ (8589934592 : Int) < y2 := by omega
 have g5 : decide (x2 < x1) = false := decide_eq_false g1
 have g6 : decide (y2 < y1) = false := decide_eq_false g2
 have g7 : decide ((8589934592 : Int) < x2) = false := decide_eq_false g3
 have g8 : decide ((8589934592 : Int) < y2) = false := decide_eq_false g4
 have p1 : IntKind.i64.wrap ((t : Int) * x1) = t * x1 := by rw [IntKind.wrap_i64]; omega
 have p2 : IntKind.i64.wrap (((n : Int) + 1) * c) = ((n : Int) + 1) * c := by rw [IntKind.wrap_i64]; omega
 have p3 : IntKind.i64.wrap (((n : Int) + 1) * c * x2) = ((n : Int) + 1) * c * x2 := by rw [IntKind.wrap_i64]; omega
 have p4 : IntKind.i64.wrap (((n : Int) + 1) * c * x2 + t * x1) = ((n : Int) + 1) * c * x2 + t * x1 := by rw [IntKind.wrap_i64]; omega
 have p5 : IntKind.i64.wrap ((n : Int) + 1) = (n : Int) + 1 := by rw [IntKind.wrap_i64]; omega
 simp only [tv, fv] at *
 go_enter s3, ntmps3
 go_wp2
 go_at_call 9
 refine (htr _).mono ?_
 rintro e w' ⟨rfl, hB⟩
 have h : KSt w w' [] := ⟨fun p hp => (by cases hp), hG.keep hB, hB⟩
 clear hB hG
 replace h := h.box2 (.int .i64 t) (.int .i64 c) 23
 have k0 := h.cell (⟨w'.heap.size, 0, none⟩, .int .i64 t) (by simp)
 have k1' := h.cell (⟨w'.heap.size, 1, none⟩, .int .i64 c) (by simp)
 simp only at k0 k1'
 go_wp2
 clear k0 k1'
 generalize w'.alloc (.cells #[.int .i64 t, .int .i64 c] 23) = W at h ⊢
 generalize w'.heap.size = z1 at h ⊢
 go_at_call 10
 refine (hl0 _).mono ?_
 rintro e w' ⟨rfl, hB⟩
 replace h := (h.call hB).box2 (.int .i64 1) (.int .i64 1) 23
 clear hB
 have k0 := h.cell (⟨z1, 0, none⟩, .int .i64 t) (by simp)
 have k1' := h.cell (⟨z1, 1, none⟩, .int .i64 c) (by simp)
 simp only at k0 k1'
 go_wp2
 try simp only [en]
 clear k0 k1'
 generalize w'.alloc (.cells #[.int .i64 1, .int .i64 1] 23) = W at h ⊢
 generalize w'.heap.size = z2 at h ⊢
 go_at_call 10
 refine (hl1 _).mono ?_
 rintro e w' ⟨rfl, hB⟩
 replace h := (h.call hB).box2 (.int .i64 x1) (.int .i64 x2) 23
 clear hB
 have k0 := h.cell (⟨z1, 0, none⟩, .int .i64 t) (by simp)
 have k1' := h.cell (⟨z1, 1, none⟩, .int .i64 c) (by simp)
 simp only at k0 k1'
 go_wp2
 clear k0 k1'
 generalize w'.alloc (.cells #[.int .i64 x1, .int .i64 x2] 23) = W at h ⊢
 generalize w'.heap.size = z3 at h ⊢
 go_at_call 10
 refine (hl2 _).mono ?_
 rintro e w' ⟨rfl, hB⟩
 replace h := (h.call hB).box2 (.int .i64 y1) (.int .i64 y2) 23
 clear hB
 go_wp2_with fail
 generalize w'.alloc (.cells #[.int .i64 y1, .int .i64 y2] 23) = W at h ⊢
 generalize w'.heap.size = z4 at h ⊢
 have a0 := h.cell (⟨z1, 0, none⟩, .int .i64 t) (by simp)
 have a1 := h.cell (⟨z1, 1, none⟩, .int .i64 c) (by simp)
 have c0 := h.cell (⟨z2, 0, none⟩, .int .i64 1) (by simp)
 have c1 := h.cell (⟨z2, 1, none⟩, .int .i64 1) (by simp)
 have d0 := h.cell (⟨z3, 0, none⟩, .int .i64 x1) (by simp)
 have d1 := h.cell (⟨z3, 1, none⟩, .int .i64 x2) (by simp)
 have e0 := h.cell (⟨z4, 0, none⟩, .int .i64 y1) (by simp)
 have e1 := h.cell (⟨z4, 1, none⟩, .int .i64 y2) (by simp)
 simp only at a0 a1 c0 c1 d0 d1 e0 e1
 have hS0 : RS4 W z1 z2 z3 z4 ((t : Int), (c : Int)) (1, 1) (x1, x2) (y1, y2) W := ⟨a0, a1, c0, c1, d0, d1, e0, e1, Below.refl _ _⟩
 clear a0 a1 c0 c1 d0 d1 e0 e1
 go_region_held3 (RS4 W z1 z2 z3 z4 ((t : Int), (c : Int)) (1, 1) (x1, x2) (y1, y2)) (first | exact RS4.drew hS0 | (refine RS4.call ?_ hB; with_reducible assumption) | (refine RS4.call ?_ hB; assumption)) (first | (go_at_call 11; refine (hof _ _ _).mono ?_; rintro e wx ⟨rfl, hB⟩) | (go_at_call 12; (first | (with_reducible refine (hfx _).mono ?_) | (with_reducible refine (hfy _).mono ?_)); rintro e wx ⟨rfl, hB⟩))
 all_goals
  rename_i hH
  obtain ⟨a0, a1, c0, c1, d0, d1, e0, e1, hBx⟩ := hH
  have hGx := h.gl.keep hBx
  have hbw := Below.call h.bw hBx (Nat.le_refl _)
  go_wp2_with fail
  have hS1 : RS4 wx z1 z2 z3 z4 ((t : Int), (c : Int)) (1, 1) (x1, x2) (y1, y2) wx := ⟨a0, a1, c0, c1, d0, d1, e0, e1, Below.refl _ _⟩
  clear a0 a1 c0 c1 d0 d1 e0 e1 hBx h
  go_region_held3 (RS4 wx z1 z2 z3 z4 ((t : Int), (c : Int)) (1, 1) (x1, x2) (y1, y2)) (first | exact RS4.drew hS1 | (refine RS4.call ?_ hB; with_reducible assumption) | (refine RS4.call ?_ hB; assumption)) (first | (go_at_call 13; (with_reducible refine (hre _).mono ?_); rintro e wy ⟨rfl, hB⟩) | (go_at_call 14; refine (HL _ (hGx.keep (RS4.bel (by assumption)))).mono ?_; rintro e wy ⟨rfl, hB⟩))
 all_goals (rename_i hH; go_wp2; go_ret; exact ⟨rfl, Below.call hbw (RS4.bel hH) (Nat.le_refl _)⟩)
end Go.Proofs.Tryd
end
