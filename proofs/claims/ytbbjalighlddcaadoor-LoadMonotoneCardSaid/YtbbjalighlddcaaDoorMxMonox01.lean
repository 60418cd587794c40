/-
  A part of the proof (C57): lemmas about the program and about the machine that the last text of this claim rests upon; no condition.
-/
import Derived.Deep.Cut
import Derived.Deep.CutRange
import Derived.Deep.DeepCutAuto
import Derived.Deep.Light
import Derived.Test.YtbbjalighlddcaaDoorM06
import Derived.Test.YtbbjalighlddcaaDoorMxBearxEnouxMonoxSumx01
set_option linter.unusedSimpArgs false
set_option linter.unusedVariables false
section
namespace Go.Proofs.Tryd
open Go Go.Load Go.RowKit
theorem s5 : srcP.funcs[5]? = some f5 := by kernel_rfl
theorem mono_facts {t b n : Nat} (ht : t ≤ 12) (hb : b < 4) (hn : n < 6) : monoB t (b + 1) n = true := of_all_range (of_all_range (of_all_range mono_all (by omega)) hb) hn
theorem other_facts {t b s n : Nat} (ht : t ≤ 12) (hb : b < 4) (hs : s ≤ t) (hn : n < 6) : otherB t (b + 1) s n = true := of_all_range (of_all_range (of_all_range (of_all_range other_all (by omega)) hb) (by omega)) hn
set_option maxHeartbeats 32000000 in
set_option maxRecDepth 100000 in
theorem LoadMonotone_of (HL : ∀ W, Globs W → Calls srcP 14 #[] W fun e w' => e = .returned (.bool true) ∧ Below W.heap.size W w') (top bottom other trunks : Int) (ht : 0 ≤ top ∧ top ≤ 255) (hb : 0 ≤ bottom ∧ bottom ≤ 255) (hs : 0 ≤ other ∧ other ≤ 255) (hn : 0 ≤ trunks ∧ trunks ≤ 255) (w : World) (hG : Globs w) :
 Calls srcP 5 #[.int .u8 top, .int .u8 bottom, .int .u8 other, .int .u8 trunks] w fun e w' => e = .returned (.bool true) ∧ Below w.heap.size w w' := by
 have htr := fun W => traffic_any top bottom W ht hb
 obtain ⟨t, et, ht2⟩ : ∃ t : Nat, top % 13 = t ∧ t ≤ 12 := ⟨(top % 13).toNat, by omega, by omega⟩
 obtain ⟨b, eb, hb2⟩ : ∃ b : Nat, 1 + bottom % 4 = ((b + 1 : Nat) : Int) ∧ b < 4 := ⟨(bottom % 4).toNat, by omega, by omega⟩
 obtain ⟨n, en, hn2⟩ : ∃ n : Nat, trunks % 6 = n ∧ n ≤ 5 := ⟨(trunks % 6).toNat, by omega, by omega⟩
 obtain ⟨s, es, hs2⟩ : ∃ s : Nat, other % ((t : Int) + 1) = s ∧ s ≤ t := by
  have h1 := Int.emod_nonneg other (show (t : Int) + 1 ≠ 0 by omega)
  have h2 := Int.emod_lt_of_pos other (show 0 < (t : Int) + 1 by omega)
  exact ⟨(other % ((t : Int) + 1)).toNat, by omega, by omega⟩
 rw [et, eb] at htr
 have hR := mono_facts ht2 hb2 (n := n) (by omega)
 have hO := other_facts ht2 hb2 hs2 (n := n) (by omega)
 unfold monoB smallB at hR
 unfold otherB at hO
 simp only [Bool.and_eq_true, Bool.or_eq_true, decide_eq_true_eq, Bool.not_eq_true', Bool.and_eq_false_iff, decide_eq_false_iff_not] at hR hO
 obtain ⟨⟨⟨⟨⟨⟨⟨⟨f1, f2⟩, f3⟩, k1⟩, k2⟩, k3⟩, a1⟩, a2⟩, hsv⟩ := hR
 obtain ⟨⟨⟨⟨⟨⟨⟨f4, f5⟩, f6⟩, k4⟩, k5⟩, k6⟩, a3⟩, a4⟩ := hO
 have l1 := told_lost (t := t) (b := b + 1) (n := n) ht2 ⟨by omega, by omega⟩ (by omega)
 have l2 := told_lost (t := t) (b := b + 1) (n := n + 1) ht2 ⟨by omega, by omega⟩ (by omega)
 have l3 := told_lost (t := t) (b := b + 1) (n := n + 2) ht2 ⟨by omega, by omega⟩ (by omega)
 have l4 := told_lost (t := s) (b := b + 1) (n := n) (by omega) ⟨by omega, by omega⟩ (by omega)
 have l5 := told_loss (t := t) (b := b + 1) (n := n) ht2 ⟨by omega, by omega⟩ (by omega)
 have l6 := told_loss (t := s) (b := b + 1) (n := n) (by omega) ⟨by omega, by omega⟩ (by omega)
 have sv1 : savesB t (b + 1) n = redN ((lostB t (b + 1) n).1 * (lostB t (b + 1) (n + 1)).2 - (lostB t (b + 1) (n + 1)).1 * (lostB t (b + 1) n).2).toNat ((lostB t (b + 1) n).2 * (lostB t (b + 1) (n + 1)).2).toNat := rfl
 have sv2 : savesB t (b + 1) (n + 1) = redN ((lostB t (b + 1) (n + 1)).1 * (lostB t (b + 1) (n + 2)).2 - (lostB t (b + 1) (n + 2)).1 * (lostB t (b + 1) (n + 1)).2).toNat ((lostB t (b + 1) (n + 1)).2 * (lostB t (b + 1) (n + 2)).2).toNat := rfl
 generalize savesB t (b + 1) n = u at *
 generalize savesB t (b + 1) (n + 1) = v at *
 generalize lostB t (b + 1) n = x at *
 generalize lostB t (b + 1) (n + 1) = y at *
 generalize lostB t (b + 1) (n + 2) = z at *
 generalize lostB s (b + 1) n = p at *
 generalize lossB t (b + 1) n = l at *
 generalize lossB s (b + 1) n = m at *
 have hbb : 1 ≤ b + 1 ∧ b + 1 ≤ 4 := ⟨by omega, by omega⟩
 generalize b + 1 = c at *
 clear eb hb2
 rw [show ((n + 1 : Nat) : Int) = (n : Int) + 1 from rfl] at l2
 rw [show ((n + 2 : Nat) : Int) = (n : Int) + 2 from rfl] at l3
 have hl1 := fun W => Lost_any n ((t : Int), (c : Int)) W
 have hl2 := fun W => Lost_any ((n : Int) + 1) ((t : Int), (c : Int)) W
 have hl3 := fun W => Lost_any ((n : Int) + 2) ((t : Int), (c : Int)) W
 have hl4 := fun W => Lost_any n ((s : Int), (c : Int)) W
 have hl5 := fun W => Loss_any n ((t : Int), (c : Int)) W
 have hl6 := fun W => Loss_any n ((s : Int), (c : Int)) W
 rw [l1] at hl1
 rw [l2] at hl2
 rw [l3] at hl3
 rw [l4] at hl4
 rw [l5] at hl5
 rw [l6] at hl6
 obtain ⟨x1, x2⟩ := x
 obtain ⟨y1, y2⟩ := y
 obtain ⟨z1', z2'⟩ := z
 obtain ⟨p1, p2⟩ := p
 obtain ⟨q1, q2⟩ := l
 obtain ⟨m1, m2⟩ := m
 simp only [okS] at k1 k2 k3 k4 k5 k6
 have fr := fun (x : Int × Int) (hf : fairN x = true) (h1 : 0 ≤ x.1) (h2 : 0 < x.2) (h3 : x.1 < 4611686018427387904) (h4 : x.2 < 4611686018427387904) W => (hf ▸ fair_any x W h1 h2 h3 h4 : Calls srcP 12 #[fv x] W fun e w' => e = .returned (.bool true) ∧ Below W.heap.size W w')
 have hf1 := fr (x1, x2) f1 k1.1 k1.2.2.1 (by show x1 < _; omega) (by show x2 < _; omega)
 have hf2 := fr (y1, y2) f2 k2.1 k2.2.2.1 (by show y1 < _; omega) (by show y2 < _; omega)
 have hf3 := fr (z1', z2') f3 k3.1 k3.2.2.1 (by show z1' < _; omega) (by show z2' < _; omega)
 have hf4 := fr (p1, p2) f4 k4.1 k4.2.2.1 (by show p1 < _; omega) (by show p2 < _; omega)
 have hf5 := fr (q1, q2) f5 k5.1 k5.2.2.1 (by show q1 < _; omega) (by show q2 < _; omega)
 have hf6 := fr (m1, m2) f6 k6.1 k6.2.2.1 (by show m1 < _; omega) (by show m2 < _; omega)
 have le := fun (x y : Int × Int) (hf : above y x = false) (h1 : 0 ≤ x.1) (h2 : 0 < x.2) (h3 : 0 ≤ y.1) (h4 : 0 < y.2) (h5 : x.1 < 4611686018427387904) (h6 : x.2 < 4611686018427387904) (h7 : y.1 < 4611686018427387904) (h8 : y.2 < 4611686018427387904) W => (hf ▸ Less_any x y W h1 h2 h3 h4 h5 h6 h7 h8 : Calls srcP 18 #[fv x, fv y] W fun e w' => e = .returned (.bool false) ∧ Below W.heap.size W w')
 have he1 := le (x1, x2) (y1, y2) a1 k1.1 k1.2.2.1 k2.1 k2.2.2.1 (by show x1 < _; omega) (by show x2 < _; omega) (by show y1 < _; omega) (by show y2 < _; omega)
 have he2 := le (y1, y2) (z1', z2') a2 k2.1 k2.2.2.1 k3.1 k3.2.2.1 (by show y1 < _; omega) (by show y2 < _; omega) (by show z1' < _; omega) (by show z2' < _; omega)
 have he3 := le (x1, x2) (p1, p2) a3 k1.1 k1.2.2.1 k4.1 k4.2.2.1 (by show x1 < _; omega) (by show x2 < _; omega) (by show p1 < _; omega) (by show p2 < _; omega)
 have he4 := le (q1, q2) (m1, m2) a4 k5.1 k5.2.2.1 k6.1 k6.2.2.1 (by show q1 < _; omega) (by show q2 < _; omega) (by show m1 < _; omega) (by show m2 < _; omega)
 have hof := fun a b W => lof_any a b W
 have p1' : IntKind.i64.wrap ((n : Int) + 1) = (n : Int) + 1 := by rw [IntKind.wrap_i64]; omega
 have p2' : IntKind.i64.wrap ((n : Int) + 2) = (n : Int) + 2 := by rw [IntKind.wrap_i64]; omega
 have p3' : IntKind.i64.wrap ((t : Int) + 1) = (t : Int) + 1 := by rw [IntKind.wrap_i64]; omega
 have n3 : ((t : Int) + 1 == 0) = false := by rw [beq_eq_false_iff_ne]; omega
 have g1 : decide ((1073741824 : Int) < x2) = false := decide_eq_false (by omega)
 have g2 : decide ((2147483648 : Int) < y2) = false := decide_eq_false (by omega)
 have g3 : decide ((34359738368 : Int) < z2') = false := decide_eq_false (by omega)
 clear l1 l2 l3 l4 l5 l6 f1 f2 f3 f4 f5 f6 a1 a2 a3 a4 fr le
 simp only [tv, fv] at htr hl1 hl2 hl3 hl4 hl5 hl6 hf1 hf2 hf3 hf4 hf5 hf6 he1 he2 he3 he4 hof
 go_enter s5, ntmps5
 go_wp2
 go_at_call 9
 refine (htr _).mono ?_
 rintro e w' ⟨rfl, hB⟩
 have h : KSt w w' [] := ⟨fun p hp => (by cases hp), hG.keep hB, hB⟩
 clear hB hG
 replace h := h.box2 (.int .i64 t) (.int .i64 c) 23
 have k0a := h.cell (⟨w'.heap.size, 0, none⟩, .int .i64 t) (by simp)
 have k0b := h.cell (⟨w'.heap.size, 1, none⟩, .int .i64 c) (by simp)
 simp only at k0a k0b
 go_wp2
 try simp only [en]
 clear k0a k0b
 generalize w'.alloc (.cells #[.int .i64 t, .int .i64 c] 23) = W at h ⊢
 generalize w'.heap.size = z1 at h ⊢
 go_at_call 15
 refine (hl1 _).mono ?_
 rintro e w' ⟨rfl, hB⟩
 replace h := (h.call hB).box2 (.int .i64 x1) (.int .i64 x2) 23
 clear hB
 have k0a := h.cell (⟨z1, 0, none⟩, .int .i64 t) (by simp)
 have k0b := h.cell (⟨z1, 1, none⟩, .int .i64 c) (by simp)
 simp only at k0a k0b
 go_wp2
 try simp only [p1']
 clear k0a k0b
 generalize w'.alloc (.cells #[.int .i64 x1, .int .i64 x2] 23) = W at h ⊢
 generalize w'.heap.size = z2 at h ⊢
 go_at_call 15
 refine (hl2 _).mono ?_
 rintro e w' ⟨rfl, hB⟩
 replace h := (h.call hB).box2 (.int .i64 y1) (.int .i64 y2) 23
 clear hB
 have k0a := h.cell (⟨z1, 0, none⟩, .int .i64 t) (by simp)
 have k0b := h.cell (⟨z1, 1, none⟩, .int .i64 c) (by simp)
 simp only at k0a k0b
 go_wp2
 try simp only [p2']
 clear k0a k0b
 generalize w'.alloc (.cells #[.int .i64 y1, .int .i64 y2] 23) = W at h ⊢
 generalize w'.heap.size = z3 at h ⊢
 go_at_call 15
 refine (hl3 _).mono ?_
 rintro e w' ⟨rfl, hB⟩
 replace h := (h.call hB).box2 (.int .i64 z1') (.int .i64 z2') 23
 clear hB
 have k0a := h.cell (⟨z2, 0, none⟩, .int .i64 x1) (by simp)
 have k0b := h.cell (⟨z2, 1, none⟩, .int .i64 x2) (by simp)
 simp only at k0a k0b
 go_wp2
 clear k0a k0b
 generalize w'.alloc (.cells #[.int .i64 z1', .int .i64 z2'] 23) = W at h ⊢
 generalize w'.heap.size = z4 at h ⊢
 go_at_call 12
 refine (hf1 _).mono ?_
 rintro e w' ⟨rfl, hB⟩
 replace h := h.call hB
 clear hB
 have k0a := h.cell (⟨z3, 0, none⟩, .int .i64 y1) (by simp)
 have k0b := h.cell (⟨z3, 1, none⟩, .int .i64 y2) (by simp)
 simp only at k0a k0b
 go_wp2
 clear k0a k0b
 go_at_call 12
 refine (hf2 _).mono ?_
 rintro e w' ⟨rfl, hB⟩
 replace h := h.call hB
 clear hB
 have k0a := h.cell (⟨z4, 0, none⟩, .int .i64 z1') (by simp)
 have k0b := h.cell (⟨z4, 1, none⟩, .int .i64 z2') (by simp)
 simp only at k0a k0b
 go_wp2
 clear k0a k0b
 go_at_call 12
 refine (hf3 _).mono ?_
 rintro e w' ⟨rfl, hB⟩
 replace h := h.call hB
 clear hB
 have k0a := h.cell (⟨z2, 0, none⟩, .int .i64 x1) (by simp)
 have k0b := h.cell (⟨z2, 1, none⟩, .int .i64 x2) (by simp)
 have k1a := h.cell (⟨z3, 0, none⟩, .int .i64 y1) (by simp)
 have k1b := h.cell (⟨z3, 1, none⟩, .int .i64 y2) (by simp)
 have k2a := h.cell (⟨z4, 0, none⟩, .int .i64 z1') (by simp)
 have k2b := h.cell (⟨z4, 1, none⟩, .int .i64 z2') (by simp)
 simp only at k0a k0b k1a k1b k2a k2b
 go_wp2
 clear k0a k0b k1a k1b k2a k2b
 go_at_call 18
 refine (he1 _).mono ?_
 rintro e w' ⟨rfl, hB⟩
 replace h := h.call hB
 clear hB
 have k0a := h.cell (⟨z3, 0, none⟩, .int .i64 y1) (by simp)
 have k0b := h.cell (⟨z3, 1, none⟩, .int .i64 y2) (by simp)
 have k1a := h.cell (⟨z4, 0, none⟩, .int .i64 z1') (by simp)
 have k1b := h.cell (⟨z4, 1, none⟩, .int .i64 z2') (by simp)
 simp only at k0a k0b k1a k1b
 go_wp2
 clear k0a k0b k1a k1b
 go_at_call 18
 refine (he2 _).mono ?_
 rintro e w' ⟨rfl, hB⟩
 replace h := h.call hB
 clear hB
 go_upto_region 7 with fail
 have hlist := h
 go_cut [121] from 100 to 121 (fun s121 wx => s121 = .bool false ∧ KSt w wx [(⟨z4, 0, none⟩, .int .i64 z1'), (⟨z4, 1, none⟩, .int .i64 z2'), (⟨z3, 0, none⟩, .int .i64 y1), (⟨z3, 1, none⟩, .int .i64 y2), (⟨z2, 0, none⟩, .int .i64 x1), (⟨z2, 1, none⟩, .int .i64 x2), (⟨z1, 0, none⟩, .int .i64 t), (⟨z1, 1, none⟩, .int .i64 c)])
 case first =>
  have k0a := h.cell (⟨z1, 0, none⟩, .int .i64 t) (by simp)
  have k0b := h.cell (⟨z1, 1, none⟩, .int .i64 c) (by simp)
  have k1a := h.cell (⟨z2, 0, none⟩, .int .i64 x1) (by simp)
  have k1b := h.cell (⟨z2, 1, none⟩, .int .i64 x2) (by simp)
  have k2a := h.cell (⟨z3, 0, none⟩, .int .i64 y1) (by simp)
  have k2b := h.cell (⟨z3, 1, none⟩, .int .i64 y2) (by simp)
  have k3a := h.cell (⟨z4, 0, none⟩, .int .i64 z1') (by simp)
  have k3b := h.cell (⟨z4, 1, none⟩, .int .i64 z2') (by simp)
  simp only at k0a k0b k1a k1b k2a k2b k3a k3b
  have hS0 : RS4 w' z1 z2 z3 z4 ((t : Int), (c : Int)) (x1, x2) (y1, y2) (z1', z2') w' := ⟨k0a, k0b, k1a, k1b, k2a, k2b, k3a, k3b, Below.refl _ _⟩
  by_cases d1 : x2 < 268435456
  ·have e1 : decide (x2 < 268435456) = true := decide_eq_true d1
   by_cases d2 : y2 < 268435456
   ·have e2 : decide (y2 < 268435456) = true := decide_eq_true d2
    by_cases d3 : z2' < 268435456
    ·have e3 : decide (z2' < 268435456) = true := decide_eq_true d3
     have hsv' := hsv.resolve_left (by omega)
     obtain ⟨⟨⟨⟨v1, v2⟩, o1⟩, o2⟩, av⟩ := hsv'
     obtain ⟨u1', u2'⟩ := u
     obtain ⟨v1', v2'⟩ := v
     simp only [okS] at o1 o2
     have hm1 := fun W => Minus_any (x1, x2) (y1, y2) W k1.1 k1.2.2.1 k2.1 k2.2.2.1 v1.1.1 v1.1.2 v1.2
     have hm2 := fun W => Minus_any (y1, y2) (z1', z2') W k2.1 k2.2.2.1 k3.1 k3.2.2.1 v2.1.1 v2.1.2 v2.2
     simp only [← sv1] at hm1
     simp only [← sv2] at hm2
     have he5 := fun W => Less_any (u1', u2') (v1', v2') W o1.1 o1.2.2.1 o2.1 o2.2.2.1 (by show u1' < _; omega) (by show u2' < _; omega) (by show v1' < _; omega) (by show v2' < _; omega)
     rw [av] at he5
     simp only [fv] at hm1 hm2 he5
     clear k0a k0b k1a k1b k2a k2b k3a k3b
     go_region_held3 (RS4 w' z1 z2 z3 z4 ((t : Int), (c : Int)) (x1, x2) (y1, y2) (z1', z2')) (first | exact RS4.drew hS0 | (refine RS4.call ?_ hB; with_reducible assumption) | (refine RS4.call ?_ hB; assumption)) (first | (go_at_call 17; (with_reducible refine (hm1 _).mono ?_); rintro e wx ⟨rfl, hB⟩) | (go_at_call 17; (with_reducible refine (hm2 _).mono ?_); rintro e wx ⟨rfl, hB⟩) | (go_at_call 18; (with_reducible refine (he5 _).mono ?_); rintro e wx ⟨rfl, hB⟩))
     all_goals (rename_i hH; go_wp2_with fail; go_meet; exact ⟨rfl, h.call (RS4.bel hH)⟩)
    ·have e3 : decide (z2' < 268435456) = false := decide_eq_false d3
     go_region
     all_goals (go_wp2_with fail; go_meet; exact ⟨rfl, h.drew⟩)
   ·have e2 : decide (y2 < 268435456) = false := decide_eq_false d2
    go_region
    all_goals (go_wp2_with fail; go_meet; exact ⟨rfl, h.drew⟩)
  ·have e1 : decide (x2 < 268435456) = false := decide_eq_false d1
   go_region
   all_goals (go_wp2_with fail; go_meet; exact ⟨rfl, h.drew⟩)
 case rest =>
  obtain ⟨rfl, h⟩ := hcut
  clear hlist
  go_upto_region 9 with fail
  go_cut [17] from 122 to 130 (fun s17 wx => ∃ z5, s17 = .pointer (some ⟨z5, 0, none⟩) ∧ KSt w wx [(⟨z5, 0, none⟩, .int .i64 s), (⟨z5, 1, none⟩, .int .i64 c), (⟨z4, 0, none⟩, .int .i64 z1'), (⟨z4, 1, none⟩, .int .i64 z2'), (⟨z3, 0, none⟩, .int .i64 y1), (⟨z3, 1, none⟩, .int .i64 y2), (⟨z2, 0, none⟩, .int .i64 x1), (⟨z2, 1, none⟩, .int .i64 x2), (⟨z1, 0, none⟩, .int .i64 t), (⟨z1, 1, none⟩, .int .i64 c)])
  case first =>
   have k0a := h.cell (⟨z1, 0, none⟩, .int .i64 t) (by simp)
   have k0b := h.cell (⟨z1, 1, none⟩, .int .i64 c) (by simp)
   simp only at k0a k0b
   have hS1 : RS1 wc z1 ((t : Int), (c : Int)) wc := ⟨k0a, k0b, Below.refl _ _⟩
   have hz1 : z1 < wc.heap.size := lt_of_cell k0a
   have n4 : ¬ (t : Int) + 1 = 0 := by omega
   have n5 : (0 : Int) < (t : Int) + 1 := by omega
   have n6 : IntKind.i64.wrap other = other := by rw [IntKind.wrap_i64]; omega
   have n7 : other.tmod ((t : Int) + 1) = (s : Int) := by rw [Int.tmod_eq_emod_of_nonneg hs.1]; exact es
   clear k0a k0b
   go_region_held3 (RS1 wc z1 ((t : Int), (c : Int))) (first | exact RS1.drew hS1 | exact hX | exact RS1.alloc hX _ | exact (RS1.alloc hS1 _).drew | exact (RS1.alloc hS1 _).drew.drew | exact RS1.set (RS1.set hX hz1 (Nat.le_refl _) _) hz1 (Nat.le_refl _) _) (first | (go_at_call 11; (with_reducible refine (hof _ _ _).mono ?_); rintro e wy ⟨rfl, hB⟩; have hX := RS1.call (by assumption) hB; (try (have c0 : wy.cell? ⟨wc.heap.size, 0, none⟩ = some (.int .i64 0) := keep_cell _ hB (new_cell wc #[.int .i64 0, .int .i64 0] 23 0 (by decide)); have c1 : wy.cell? ⟨wc.heap.size, 1, none⟩ = some (.int .i64 0) := keep_cell _ hB (new_cell wc #[.int .i64 0, .int .i64 0] 23 1 (by decide)); have q0 : wy.frozen? ⟨wc.heap.size, 0, none⟩ = false := keep_frozen _ hB (new_cell wc #[.int .i64 0, .int .i64 0] 23 0 (by decide)) (new_frozen wc #[.int .i64 0, .int .i64 0] 23 0 (by decide)); have q1 : wy.frozen? ⟨wc.heap.size, 1, none⟩ = false := keep_frozen _ hB (new_cell wc #[.int .i64 0, .int .i64 0] 23 1 (by decide)) (new_frozen wc #[.int .i64 0, .int .i64 0] 23 1 (by decide))))))
   all_goals (go_wp2_with fail; go_meet; first | exact ⟨_, rfl, (h.call (RS1.bel hX)).box2 _ _ _⟩ | exact ⟨_, rfl, KSt.set2 h (RS1.bel hX) c0 c1 _ _⟩)
  case rest =>
   obtain ⟨z5, rfl, h⟩ := hcut
   have k0a := h.cell (⟨z5, 0, none⟩, .int .i64 s) (by simp)
   have k0b := h.cell (⟨z5, 1, none⟩, .int .i64 c) (by simp)
   simp only at k0a k0b
   go_wp2
   clear k0a k0b
   go_at_call 15
   refine (hl4 _).mono ?_
   rintro e w' ⟨rfl, hB⟩
   replace h := (h.call hB).box2 (.int .i64 p1) (.int .i64 p2) 23
   clear hB
   have k0a := h.cell (⟨z1, 0, none⟩, .int .i64 t) (by simp)
   have k0b := h.cell (⟨z1, 1, none⟩, .int .i64 c) (by simp)
   simp only at k0a k0b
   go_wp2
   clear k0a k0b
   generalize w'.alloc (.cells #[.int .i64 p1, .int .i64 p2] 23) = W at h ⊢
   generalize w'.heap.size = z6 at h ⊢
   go_at_call 10
   refine (hl5 _).mono ?_
   rintro e w' ⟨rfl, hB⟩
   replace h := (h.call hB).box2 (.int .i64 q1) (.int .i64 q2) 23
   clear hB
   have k0a := h.cell (⟨z5, 0, none⟩, .int .i64 s) (by simp)
   have k0b := h.cell (⟨z5, 1, none⟩, .int .i64 c) (by simp)
   simp only at k0a k0b
   go_wp2
   clear k0a k0b
   generalize w'.alloc (.cells #[.int .i64 q1, .int .i64 q2] 23) = W at h ⊢
   generalize w'.heap.size = z7 at h ⊢
   go_at_call 10
   refine (hl6 _).mono ?_
   rintro e w' ⟨rfl, hB⟩
   replace h := (h.call hB).box2 (.int .i64 m1) (.int .i64 m2) 23
   clear hB
   have k0a := h.cell (⟨z6, 0, none⟩, .int .i64 p1) (by simp)
   have k0b := h.cell (⟨z6, 1, none⟩, .int .i64 p2) (by simp)
   simp only at k0a k0b
   go_wp2
   clear k0a k0b
   generalize w'.alloc (.cells #[.int .i64 m1, .int .i64 m2] 23) = W at h ⊢
   generalize w'.heap.size = z8 at h ⊢
   go_at_call 12
   refine (hf4 _).mono ?_
   rintro e w' ⟨rfl, hB⟩
   replace h := h.call hB
   clear hB
   have k0a := h.cell (⟨z7, 0, none⟩, .int .i64 q1) (by simp)
   have k0b := h.cell (⟨z7, 1, none⟩, .int .i64 q2) (by simp)
   simp only at k0a k0b
   go_wp2
   clear k0a k0b
   go_at_call 12
   refine (hf5 _).mono ?_
   rintro e w' ⟨rfl, hB⟩
   replace h := h.call hB
   clear hB
   have k0a := h.cell (⟨z8, 0, none⟩, .int .i64 m1) (by simp)
   have k0b := h.cell (⟨z8, 1, none⟩, .int .i64 m2) (by simp)
   simp only at k0a k0b
   go_wp2
   clear k0a k0b
   go_at_call 12
   refine (hf6 _).mono ?_
   rintro e w' ⟨rfl, hB⟩
   replace h := h.call hB
   clear hB
   have k0a := h.cell (⟨z2, 0, none⟩, .int .i64 x1) (by simp)
   have k0b := h.cell (⟨z2, 1, none⟩, .int .i64 x2) (by simp)
   have k1a := h.cell (⟨z6, 0, none⟩, .int .i64 p1) (by simp)
   have k1b := h.cell (⟨z6, 1, none⟩, .int .i64 p2) (by simp)
   simp only at k0a k0b k1a k1b
   go_wp2
   clear k0a k0b k1a k1b
   go_at_call 18
   refine (he3 _).mono ?_
   rintro e w' ⟨rfl, hB⟩
   replace h := h.call hB
   clear hB
   have k0a := h.cell (⟨z7, 0, none⟩, .int .i64 q1) (by simp)
   have k0b := h.cell (⟨z7, 1, none⟩, .int .i64 q2) (by simp)
   have k1a := h.cell (⟨z8, 0, none⟩, .int .i64 m1) (by simp)
   have k1b := h.cell (⟨z8, 1, none⟩, .int .i64 m2) (by simp)
   simp only at k0a k0b k1a k1b
   go_wp2
   clear k0a k0b k1a k1b
   go_at_call 18
   refine (he4 _).mono ?_
   rintro e w' ⟨rfl, hB⟩
   replace h := h.call hB
   clear hB
   go_wp2
   go_at_call 14
   refine (HL _ h.gl).mono ?_
   rintro e w' ⟨rfl, hB⟩
   go_wp2
   go_ret
   exact ⟨rfl, (h.call hB).bw⟩
end Go.Proofs.Tryd
end
