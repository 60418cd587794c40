/-
  A part of the proof (C54 CL C58): lemmas about the program and about the machine that the last text of this claim rests upon; no condition.
-/
import Derived.Deep.Cut
import Derived.Deep.CutRange
import Derived.Deep.DeepCutAuto
import Derived.Deep.Light
import Derived.Test.YtbbjalighlddcaaDoorMxBearxEnouxMonoxSumx01
import Derived.Test.YtbbjalighlddcaaDoorM12
import Derived.Test.YtbbjalighlddcaaDoorM06
set_option linter.unusedSimpArgs false
set_option linter.unusedVariables false
section
namespace Go.Proofs.Tryd
open Go Go.Load Go.RowKit
theorem not_above {x y : Int × Int} : above x y = false ↔ x.1 * y.2 ≤ y.1 * x.2 := by
 unfold above
 rw [decide_eq_false_iff_not, Int.not_lt]
theorem above_trans {p q r : Int × Int} (hp : 0 < p.2) (hq : 0 < q.2) (hr : 0 < r.2) (h1 : above p q = false) (h2 : above q r = false) : above p r = false := by
 rw [not_above] at *
 have a1 : p.1 * q.2 * r.2 ≤ q.1 * p.2 * r.2 := Int.mul_le_mul_of_nonneg_right h1 (Int.le_of_lt hr)
 have a2 : q.1 * r.2 * p.2 ≤ r.1 * q.2 * p.2 := Int.mul_le_mul_of_nonneg_right h2 (Int.le_of_lt hp)
 refine Int.le_of_mul_le_mul_left (a := q.2) ?_ hq
 have e1 : q.2 * (p.1 * r.2) = p.1 * q.2 * r.2 := by rw [← Int.mul_assoc, Int.mul_comm q.2]
 have e2 : q.1 * p.2 * r.2 = q.1 * r.2 * p.2 := by rw [Int.mul_assoc, Int.mul_comm p.2, Int.mul_assoc]
 have e3 : q.2 * (r.1 * p.2) = r.1 * q.2 * p.2 := by rw [Int.mul_comm r.1 q.2, Int.mul_assoc]
 omega
theorem above_low {q l : Int × Int} (h2 : 0 < l.2) : above q (low l.1 l.2) = above q l := by
 have hg := gcd_pos (a := l.1) h2
 have d1 : (Int.gcd l.1 l.2 : Int) * (l.1 / (Int.gcd l.1 l.2 : Int)) = l.1 := Int.mul_ediv_cancel' (Int.gcd_dvd_left ..)
 have d2 : (Int.gcd l.1 l.2 : Int) * (l.2 / (Int.gcd l.1 l.2 : Int)) = l.2 := Int.mul_ediv_cancel' (Int.gcd_dvd_right ..)
 unfold above low lowT lowB
 simp only
 generalize (Int.gcd l.1 l.2 : Int) = g at *
 generalize l.1 / g = a at *
 generalize l.2 / g = b at *
 refine decide_eq_decide.2 ?_
 rw [← d1, ← d2, Int.mul_assoc, Int.mul_left_comm q.1]
 exact ⟨fun h => Int.mul_lt_mul_of_pos_left h hg, fun h => Int.lt_of_mul_lt_mul_left h (Int.le_of_lt hg)⟩
theorem borne_eq {t b n : Nat} {l : Int × Int} (h2 : 0 < l.2) : borne ((t : Int), (b : Int)) n l = !above (lossB t b n) l := by
 unfold borne lossB
 rw [above_low h2]
theorem loss_pos {t b n : Nat} (ht : t ≤ 12) (hb : 1 ≤ b ∧ b ≤ 4) (hn : n ≤ 7) : 0 < (lossB t b n).2 := by
 obtain ⟨k1, k2, k3, k4⟩ := low_in (x := ((t : Int), (b : Int))) (by show (0 : Int) ≤ t; omega) (by show (t : Int) ≤ 12; omega) (by show (1 : Int) ≤ b; omega) (by show (b : Int) ≤ 4; omega)
 have := loss_bound k1 k2 k3 k4 n hn
 unfold lossB
 have h := this.2.2.1
 show 0 < (lossN (low (t : Int) (b : Int)) n).2
 exact h
def stepB (t b n : Nat) : Bool := (n == 7 || !above (lossB t b (n + 1)) (lossB t b n)) && (t == 12 || !above (lossB t b n) (lossB (t + 1) b n))
theorem step_all : ((List.range 13).all fun t => (List.range 4).all fun b => (List.range 8).all fun n => stepB t (b + 1) n) = true := by decide +kernel
theorem step_facts {t b n : Nat} (ht : t ≤ 12) (hb : 1 ≤ b ∧ b ≤ 4) (hn : n ≤ 7) : stepB t b n = true := by
 have h := step_all
 rw [List.all_eq_true] at h
 have h := h t (List.mem_range.2 (by omega))
 rw [List.all_eq_true] at h
 have h := h (b - 1) (List.mem_range.2 (by omega))
 rw [List.all_eq_true] at h
 have h := h n (List.mem_range.2 (by omega))
 rwa [show b - 1 + 1 = b by omega] at h
theorem borne_more {t b n : Nat} {l : Int × Int} (h2 : 0 < l.2) (ht : t ≤ 12) (hb : 1 ≤ b ∧ b ≤ 4) (hn : n + 1 ≤ 7) (h : borne ((t : Int), (b : Int)) n l = true) : borne ((t : Int), (b : Int)) (n + 1) l = true := by
 rw [borne_eq h2] at *
 have hs := step_facts ht hb (n := n) (by omega)
 unfold stepB at hs
 simp only [Bool.and_eq_true, Bool.or_eq_true, beq_iff_eq, Bool.not_eq_true'] at hs h ⊢
 have h1 := hs.1.resolve_left (by omega)
 exact above_trans (loss_pos ht hb hn) (loss_pos ht hb (by omega)) h2 h1 h
theorem borne_less {t b n : Nat} {l : Int × Int} (h2 : 0 < l.2) (ht : t + 1 ≤ 12) (hb : 1 ≤ b ∧ b ≤ 4) (hn : n ≤ 7) (h : borne (((t + 1 : Nat) : Int), (b : Int)) n l = true) : borne ((t : Int), (b : Int)) n l = true := by
 rw [borne_eq h2] at *
 have hs := step_facts (t := t) (by omega) hb hn
 unfold stepB at hs
 simp only [Bool.and_eq_true, Bool.or_eq_true, beq_iff_eq, Bool.not_eq_true'] at hs h ⊢
 have h1 := hs.2.resolve_left (by omega)
 exact above_trans (loss_pos (by omega) hb hn) (loss_pos ht hb hn) h2 h1 h
theorem borne_up {t b : Nat} {l : Int × Int} (h2 : 0 < l.2) (ht : t ≤ 12) (hb : 1 ≤ b ∧ b ≤ 4) {n : Nat} (h : borne ((t : Int), (b : Int)) n l = true) : ∀ m, n + m ≤ 7 → borne ((t : Int), (b : Int)) (n + m) l = true
 | 0, _ => h
 | m + 1, hm => borne_more h2 ht hb (by omega) (borne_up h2 ht hb h m (by omega))
theorem borne_down {b n : Nat} {l : Int × Int} (h2 : 0 < l.2) (hb : 1 ≤ b ∧ b ≤ 4) (hn : n ≤ 7) {t : Nat} : ∀ m, t + m ≤ 12 → borne (((t + m : Nat) : Int), (b : Int)) n l = true → borne ((t : Int), (b : Int)) n l = true
 | 0, _, h => h
 | m + 1, hm, h => borne_down h2 hb hn m (by omega) (borne_less h2 (by omega) hb hn h)
theorem enough_some {x l : Int × Int} {n : Nat} (h : enoughFrom x l 0 = some n) : n ≤ 7 ∧ borne x n l = true ∧ ∀ m, m < n → borne x m l = false := by
 unfold enoughFrom at h
 rw [List.drop_zero] at h
 have h1 := List.find?_some h
 have h2 := List.mem_of_find?_eq_some h
 rw [List.mem_range] at h2
 refine ⟨by omega, h1, fun m hm => ?_⟩
 rcases (show n = 0 ∨ n = 1 ∨ n = 2 ∨ n = 3 ∨ n = 4 ∨ n = 5 ∨ n = 6 ∨ n = 7 by omega) with rfl | rfl | rfl | rfl | rfl | rfl | rfl | rfl
 all_goals
  rw [List.find?_range_eq_some] at h
  have := h.2.2 m hm
  simpa using this
theorem enough_none {x l : Int × Int} (h : enoughFrom x l 0 = none) : ∀ m, m ≤ 7 → borne x m l = false := fun m hm => by
 unfold enoughFrom at h
 rw [List.drop_zero, List.find?_eq_none] at h
 simpa using h m (List.mem_range.2 (by omega))
theorem bearsTop_le {p : Int} {T : Nat} {l : Int × Int} : ∀ k : Nat, -1 ≤ bearsTop p T l k ∧ bearsTop p T l k < k
 | 0 => by simp [bearsTop]
 | k + 1 => by
   have := bearsTop_le (p := p) (T := T) (l := l) k
   unfold bearsTop
   split <;> omega
theorem bearsTop_ge {p : Int} {T : Nat} {l : Int × Int} {t : Nat} (h : borne ((t : Int), p) T l = true) : ∀ k : Nat, t < k → (t : Int) ≤ bearsTop p T l k
 | 0, h' => by omega
 | k + 1, h' => by
   unfold bearsTop
   split
   ·omega
   ·rename_i hn
    by_cases e : t = k
    ·subst e; exact absurd h hn
    ·exact bearsTop_ge h k (by omega)
theorem bearsTop_borne {p : Int} {T : Nat} {l : Int × Int} : ∀ k : Nat, 0 ≤ bearsTop p T l k → ∃ s : Nat, bearsTop p T l k = s ∧ s < k ∧ borne ((s : Int), p) T l = true
 | 0, h => by simp [bearsTop] at h
 | k + 1, h => by
   unfold bearsTop at *
   split at h
   ·rename_i hy
    rw [if_pos hy]
    exact ⟨k, rfl, by omega, hy⟩
   ·rename_i hn
    rw [if_neg hn]
    obtain ⟨s, e, hs, hb⟩ := bearsTop_borne k h
    exact ⟨s, e, by omega, hb⟩
theorem bears_law {t b n : Nat} {l : Int × Int} (h2 : 0 < l.2) (ht : t ≤ 12) (hb : 1 ≤ b ∧ b ≤ 4) (hn : n ≤ 7) :
 ((t : Int) ≤ bearsTop (b : Int) n l 13 ↔ borne ((t : Int), (b : Int)) n l = true) := by
 constructor
 ·intro h
  obtain ⟨s, e, hs, hy⟩ := bearsTop_borne (p := (b : Int)) (T := n) (l := l) 13 (by omega)
  rw [e] at h
  exact borne_down h2 hb hn (s - t) (by omega) (by rw [show t + (s - t) = s by omega]; exact hy)
 ·intro h
  exact bearsTop_ge h 13 (by omega)
theorem enough_law {t b n : Nat} {l : Int × Int} (h2 : 0 < l.2) (ht : t ≤ 12) (hb : 1 ≤ b ∧ b ≤ 4) (hn : n ≤ 7) :
 (match enoughFrom ((t : Int), (b : Int)) l 0 with | some k => decide (k ≤ n) | none => false) = borne ((t : Int), (b : Int)) n l := by
 cases h : enoughFrom ((t : Int), (b : Int)) l 0 with
 | none => exact (enough_none h n hn).symm
 | some k =>
   obtain ⟨hk, hy, hno⟩ := enough_some h
   by_cases hkn : k ≤ n
   ·have := borne_up h2 ht hb hy (n - k) (by omega)
    rw [show k + (n - k) = n by omega] at this
    rw [this]
    simpa using hkn
   ·rw [hno n (by omega)]
    simpa using hkn
end Go.Proofs.Tryd
end
section
namespace Go.Proofs.Tryd
open Go Go.Load Go.RowKit
theorem loss_facts {t b n : Nat} (ht : t ≤ 12) (hb : 1 ≤ b ∧ b ≤ 4) (hn : n ≤ 7) : fairN (lossB t b n) = true ∧ okS (lossB t b n) 8589934592 := by
 have h := sum_all
 rw [List.all_eq_true] at h
 have h := h t (List.mem_range.2 (by omega))
 rw [List.all_eq_true] at h
 have h := h (b - 1) (List.mem_range.2 (by omega))
 rw [List.all_eq_true] at h
 have h := h n (List.mem_range.2 (by omega))
 rw [show b - 1 + 1 = b by omega] at h
 unfold sumB at h
 simp only [Bool.and_eq_true, decide_eq_true_eq, Bool.not_eq_true'] at h
 exact ⟨h.1.1.1.1.1.1.1.2, h.1.1.1.1.2⟩
theorem fair_yes {x : Int × Int} (hf : fairN x = true) (hk : okS x 8589934592) (W : World) : Calls srcP 12 #[fv x] W fun e w' => e = .returned (.bool true) ∧ Below W.heap.size W w' := by
 have h := hk
 unfold okS at h
 exact hf ▸ fair_any x W h.1 h.2.2.1 (by omega) (by omega)
theorem Less_lim {l x : Int × Int} {r : Bool} (hr : above x l = r) (hk : okS x 8589934592) (hl : Lim l) (W : World) : Calls srcP 18 #[fv l, fv x] W fun e w' => e = .returned (.bool r) ∧ Below W.heap.size W w' := by
 have h := hk
 unfold okS at h
 unfold Lim at hl
 exact hr ▸ Less_any l x W hl.2.1 (by omega) h.1 h.2.2.1 (by omega) (by omega) (by omega) (by omega)
theorem lim_of (part share : Int) (hp : 0 ≤ part ∧ part ≤ 255) (hs : 0 ≤ share ∧ share ≤ 255) : Lim (part % (1 + share % 100 + 1), 1 + share % 100) := by
 have h1 := Int.emod_nonneg share (show (100 : Int) ≠ 0 by decide)
 have h2 := Int.emod_lt_of_pos share (show (0 : Int) < 100 by decide)
 have h3 := Int.emod_nonneg part (show 1 + share % 100 + 1 ≠ 0 by omega)
 have h4 := Int.emod_lt_of_pos part (show 0 < 1 + share % 100 + 1 by omega)
 exact ⟨⟨by show 1 ≤ 1 + share % 100; omega, by show 1 + share % 100 ≤ 100; omega⟩, h3, by show part % (1 + share % 100 + 1) ≤ 1 + share % 100; omega⟩
end Go.Proofs.Tryd
end
section
namespace Go.Proofs.Tryd
open Go Go.Load Go.RowKit
theorem s6 : srcP.funcs[6]? = some f6 := by kernel_rfl
set_option maxHeartbeats 16000000 in
set_option maxRecDepth 100000 in
theorem LoadEnough_of (HL : ∀ W, Globs W → Calls srcP 14 #[] W fun e w' => e = .returned (.bool true) ∧ Below W.heap.size W w') (top bottom part share fewer : Int) (ht : 0 ≤ top ∧ top ≤ 255) (hb : 0 ≤ bottom ∧ bottom ≤ 255) (hp : 0 ≤ part ∧ part ≤ 255) (hs : 0 ≤ share ∧ share ≤ 255) (hn : 0 ≤ fewer ∧ fewer ≤ 255) (w : World) (hG : Globs w) :
 Calls srcP 6 #[.int .u8 top, .int .u8 bottom, .int .u8 part, .int .u8 share, .int .u8 fewer] w fun e w' => e = .returned (.bool true) ∧ Below w.heap.size w w' := by
 have htr := fun W => traffic_any top bottom W ht hb
 have hli := fun W => limit_any part share W hp hs
 have hLim := lim_of part share hp hs
 obtain ⟨t, et, ht2⟩ : ∃ t : Nat, top % 13 = t ∧ t ≤ 12 := ⟨(top % 13).toNat, by omega, by omega⟩
 obtain ⟨c, eb, hcc⟩ : ∃ c : Nat, 1 + bottom % 4 = (c : Int) ∧ 1 ≤ c ∧ c ≤ 4 := ⟨(1 + bottom % 4).toNat, by omega, by omega, by omega⟩
 rw [et, eb] at htr
 generalize part % (1 + share % 100 + 1) = l1 at *
 generalize 1 + share % 100 = l2 at *
 have hT : Traf ((t : Int), (c : Int)) := ⟨⟨by show (0 : Int) ≤ t; omega, by show (t : Int) ≤ 12; omega⟩, by show (1 : Int) ≤ c; omega, by show (c : Int) ≤ 4; omega⟩
 have hen := fun W => Enough_any ((t : Int), (c : Int)) (l1, l2) W
 unfold enoughV at hen
 rw [if_pos ⟨hT, hLim⟩] at hen
 have hl2 : 0 < l2 := by have := hLim.1.1; simp only at this; omega
 have hbe := fun n => borne_eq (t := t) (b := c) (n := n) (l := (l1, l2)) hl2
 have hlo : ∀ (n : Nat), n ≤ 7 → ∀ W, Calls srcP 10 #[fv ((t : Int), (c : Int)), .int .i64 n] W fun e w' => e = .returned (tv (lossB t c n) 0) ∧ Below W.heap.size W w' := fun n hn W => by
  have h := Loss_any (n : Int) ((t : Int), (c : Int)) W
  rw [told_loss ht2 hcc hn] at h
  exact h
 have hfa := fun (n : Nat) (hn : n ≤ 7) => loss_facts ht2 hcc hn
 rcases he : enoughFrom ((t : Int), (c : Int)) (l1, l2) 0 with _ | n
 ·have hno := enough_none he
  simp only [he] at hen
  have hb7 := hno 7 (by omega)
  rw [hbe] at hb7
  have hb7 : above (lossB t c 7) (l1, l2) = true := by simpa using hb7
  have hl7 := hlo 7 (by omega)
  obtain ⟨f1, k1⟩ := hfa 7 (by omega)
  have hq1 := fair_yes f1 k1
  have hq2 := Less_lim hb7 k1 hLim
  clear hlo hfa hbe hno he f1 k1 hb7
  generalize lossB t c 7 = q at *
  obtain ⟨q1, q2⟩ := q
  simp only [tv, fv] at *
  go_enter s6, ntmps6
  go_wp2
  go_at_call 9
  refine (htr _).mono ?_
  rintro e w' ⟨rfl, hB⟩
  have h : KSt w w' [] := ⟨fun p hp => (by cases hp), hG.keep hB, hB⟩
  clear hB hG
  go_wp2
  go_at_call 20
  refine (hli _).mono ?_
  rintro e w' ⟨rfl, hB⟩
  replace h := ((h.call hB).box2 (.int .i64 t) (.int .i64 c) 23).box2 (.int .i64 l1) (.int .i64 l2) 23
  clear hB
  simp only [asz] at h
  have k0a := h.cell (⟨w'.heap.size, 0, none⟩, .int .i64 t) (by simp)
  have k0b := h.cell (⟨w'.heap.size, 1, none⟩, .int .i64 c) (by simp)
  have k1a := h.cell (⟨(w'.heap.size + 1), 0, none⟩, .int .i64 l1) (by simp)
  have k1b := h.cell (⟨(w'.heap.size + 1), 1, none⟩, .int .i64 l2) (by simp)
  simp only at k0a k0b k1a k1b
  go_wp2
  clear k0a k0b k1a k1b
  generalize (w'.alloc (.cells #[.int .i64 t, .int .i64 c] 23)).alloc (.cells #[.int .i64 l1, .int .i64 l2] 23) = W at h ⊢
  generalize w'.heap.size + 1 = z2 at h ⊢
  generalize w'.heap.size = z1 at h ⊢
  go_at_call 21
  refine (hen _).mono ?_
  rintro e w' ⟨rfl, hB⟩
  replace h := h.call hB
  clear hB
  have k0a := h.cell (⟨z1, 0, none⟩, .int .i64 t) (by simp)
  have k0b := h.cell (⟨z1, 1, none⟩, .int .i64 c) (by simp)
  simp only at k0a k0b
  go_wp2
  clear k0a k0b
  go_at_call 10
  refine (hl7 _).mono ?_
  rintro e w' ⟨rfl, hB⟩
  replace h := (h.call hB).box2 (.int .i64 q1) (.int .i64 q2) 23
  clear hB
  have k0a := h.cell (⟨w'.heap.size, 0, none⟩, .int .i64 q1) (by simp)
  have k0b := h.cell (⟨w'.heap.size, 1, none⟩, .int .i64 q2) (by simp)
  simp only at k0a k0b
  go_wp2
  clear k0a k0b
  generalize w'.alloc (.cells #[.int .i64 q1, .int .i64 q2] 23) = W at h ⊢
  generalize w'.heap.size = z3 at h ⊢
  go_at_call 12
  refine (hq1 _).mono ?_
  rintro e w' ⟨rfl, hB⟩
  replace h := h.call hB
  clear hB
  have k0a := h.cell (⟨z2, 0, none⟩, .int .i64 l1) (by simp)
  have k0b := h.cell (⟨z2, 1, none⟩, .int .i64 l2) (by simp)
  have k1a := h.cell (⟨z3, 0, none⟩, .int .i64 q1) (by simp)
  have k1b := h.cell (⟨z3, 1, none⟩, .int .i64 q2) (by simp)
  simp only at k0a k0b k1a k1b
  go_wp2
  clear k0a k0b k1a k1b
  go_at_call 18
  refine (hq2 _).mono ?_
  rintro e w' ⟨rfl, hB⟩
  replace h := h.call hB
  clear hB
  go_wp2
  go_at_call 14
  refine (HL _ h.gl).mono ?_
  rintro e w' ⟨rfl, hB⟩
  go_wp2
  go_ret
  exact ⟨rfl, (h.call hB).bw⟩
 ·obtain ⟨hn7, hyes, hno⟩ := enough_some he
  simp only [he] at hen
  rw [hbe] at hyes
  have hyes : above (lossB t c n) (l1, l2) = false := by simpa using hyes
  have hln := hlo n hn7
  obtain ⟨f1, k1⟩ := hfa n hn7
  have hq1 := fair_yes f1 k1
  have hq2 := Less_lim hyes k1 hLim
  have hin := fun W => In_yes (n : Int) 0 7 W ⟨by omega, by omega⟩
  rcases n with _ | n
  ·clear hlo hfa hbe hno he f1 k1 hyes
   generalize lossB t c 0 = q at *
   obtain ⟨q1, q2⟩ := q
   simp only [tv, fv] at *
   simp only [show ((0 : Nat) : Int) = 0 from rfl] at *
   go_enter s6, ntmps6
   go_wp2
   go_at_call 9
   refine (htr _).mono ?_
   rintro e w' ⟨rfl, hB⟩
   have h : KSt w w' [] := ⟨fun p hp => (by cases hp), hG.keep hB, hB⟩
   clear hB hG
   go_wp2
   go_at_call 20
   refine (hli _).mono ?_
   rintro e w' ⟨rfl, hB⟩
   replace h := ((h.call hB).box2 (.int .i64 t) (.int .i64 c) 23).box2 (.int .i64 l1) (.int .i64 l2) 23
   clear hB
   simp only [asz] at h
   have k0a := h.cell (⟨w'.heap.size, 0, none⟩, .int .i64 t) (by simp)
   have k0b := h.cell (⟨w'.heap.size, 1, none⟩, .int .i64 c) (by simp)
   have k1a := h.cell (⟨(w'.heap.size + 1), 0, none⟩, .int .i64 l1) (by simp)
   have k1b := h.cell (⟨(w'.heap.size + 1), 1, none⟩, .int .i64 l2) (by simp)
   simp only at k0a k0b k1a k1b
   go_wp2
   clear k0a k0b k1a k1b
   generalize (w'.alloc (.cells #[.int .i64 t, .int .i64 c] 23)).alloc (.cells #[.int .i64 l1, .int .i64 l2] 23) = W at h ⊢
   generalize w'.heap.size + 1 = z2 at h ⊢
   generalize w'.heap.size = z1 at h ⊢
   go_at_call 21
   refine (hen _).mono ?_
   rintro e w' ⟨rfl, hB⟩
   replace h := h.call hB
   clear hB
   have k0a := h.cell (⟨z1, 0, none⟩, .int .i64 t) (by simp)
   have k0b := h.cell (⟨z1, 1, none⟩, .int .i64 c) (by simp)
   simp only at k0a k0b
   go_wp2
   clear k0a k0b
   go_at_call 10
   refine (hln _).mono ?_
   rintro e w' ⟨rfl, hB⟩
   replace h := (h.call hB).box2 (.int .i64 q1) (.int .i64 q2) 23
   clear hB
   go_wp2
   generalize w'.alloc (.cells #[.int .i64 q1, .int .i64 q2] 23) = W at h ⊢
   generalize w'.heap.size = z3 at h ⊢
   go_at_call 22
   refine (hin _).mono ?_
   rintro e w' ⟨rfl, rfl⟩
   have k0a := h.cell (⟨z3, 0, none⟩, .int .i64 q1) (by simp)
   have k0b := h.cell (⟨z3, 1, none⟩, .int .i64 q2) (by simp)
   simp only at k0a k0b
   go_wp2
   clear k0a k0b
   go_at_call 12
   refine (hq1 _).mono ?_
   rintro e w' ⟨rfl, hB⟩
   replace h := h.call hB
   clear hB
   have k0a := h.cell (⟨z2, 0, none⟩, .int .i64 l1) (by simp)
   have k0b := h.cell (⟨z2, 1, none⟩, .int .i64 l2) (by simp)
   have k1a := h.cell (⟨z3, 0, none⟩, .int .i64 q1) (by simp)
   have k1b := h.cell (⟨z3, 1, none⟩, .int .i64 q2) (by simp)
   simp only at k0a k0b k1a k1b
   go_wp2
   clear k0a k0b k1a k1b
   go_at_call 18
   refine (hq2 _).mono ?_
   rintro e w' ⟨rfl, hB⟩
   replace h := h.call hB
   clear hB
   have k0a := h.cell (⟨z1, 0, none⟩, .int .i64 t) (by simp)
   have k0b := h.cell (⟨z1, 1, none⟩, .int .i64 c) (by simp)
   simp only at k0a k0b
   go_wp2
   clear k0a k0b
   go_at_call 14
   refine (HL _ h.gl).mono ?_
   rintro e w' ⟨rfl, hB⟩
   go_wp2
   go_ret
   exact ⟨rfl, (h.call hB).bw⟩
  ·obtain ⟨m, em, hm⟩ : ∃ m : Nat, fewer % ((n + 1 : Nat) : Int) = m ∧ m < n + 1 := by
    have h1 := Int.emod_nonneg fewer (show ((n + 1 : Nat) : Int) ≠ 0 by omega)
    have h2 := Int.emod_lt_of_pos fewer (show 0 < ((n + 1 : Nat) : Int) by omega)
    exact ⟨(fewer % ((n + 1 : Nat) : Int)).toNat, by omega, by omega⟩
   have hbm := hno m hm
   rw [hbe] at hbm
   have hbm : above (lossB t c m) (l1, l2) = true := by simpa using hbm
   have hlm := hlo m (by omega)
   obtain ⟨f2, k2⟩ := hfa m (by omega)
   have hy1 := fair_yes f2 k2
   have hy2 := Less_lim hbm k2 hLim
   have hn0 : (((n + 1 : Nat) : Int) == 0) = false := by rw [beq_eq_false_iff_ne]; omega
   have hn1 : ¬ ((n + 1 : Nat) : Int) = 0 := by omega
   have hn2 : (0 : Int) < ((n + 1 : Nat) : Int) := by omega
   clear hlo hfa hbe hno he f1 k1 f2 k2 hyes hbm hm
   generalize lossB t c m = y at *
   generalize lossB t c (n + 1) = q at *
   generalize ((n + 1 : Nat) : Int) = N at *
   obtain ⟨q1, q2⟩ := q
   obtain ⟨y1, y2⟩ := y
   simp only [tv, fv] at *
   go_enter s6, ntmps6
   go_wp2
   go_at_call 9
   refine (htr _).mono ?_
   rintro e w' ⟨rfl, hB⟩
   have h : KSt w w' [] := ⟨fun p hp => (by cases hp), hG.keep hB, hB⟩
   clear hB hG
   go_wp2
   go_at_call 20
   refine (hli _).mono ?_
   rintro e w' ⟨rfl, hB⟩
   replace h := ((h.call hB).box2 (.int .i64 t) (.int .i64 c) 23).box2 (.int .i64 l1) (.int .i64 l2) 23
   clear hB
   simp only [asz] at h
   have k0a := h.cell (⟨w'.heap.size, 0, none⟩, .int .i64 t) (by simp)
   have k0b := h.cell (⟨w'.heap.size, 1, none⟩, .int .i64 c) (by simp)
   have k1a := h.cell (⟨(w'.heap.size + 1), 0, none⟩, .int .i64 l1) (by simp)
   have k1b := h.cell (⟨(w'.heap.size + 1), 1, none⟩, .int .i64 l2) (by simp)
   simp only at k0a k0b k1a k1b
   go_wp2
   clear k0a k0b k1a k1b
   generalize (w'.alloc (.cells #[.int .i64 t, .int .i64 c] 23)).alloc (.cells #[.int .i64 l1, .int .i64 l2] 23) = W at h ⊢
   generalize w'.heap.size + 1 = z2 at h ⊢
   generalize w'.heap.size = z1 at h ⊢
   go_at_call 21
   refine (hen _).mono ?_
   rintro e w' ⟨rfl, hB⟩
   replace h := h.call hB
   clear hB
   have k0a := h.cell (⟨z1, 0, none⟩, .int .i64 t) (by simp)
   have k0b := h.cell (⟨z1, 1, none⟩, .int .i64 c) (by simp)
   simp only at k0a k0b
   go_wp2
   clear k0a k0b
   go_at_call 10
   refine (hln _).mono ?_
   rintro e w' ⟨rfl, hB⟩
   replace h := (h.call hB).box2 (.int .i64 q1) (.int .i64 q2) 23
   clear hB
   go_wp2
   generalize w'.alloc (.cells #[.int .i64 q1, .int .i64 q2] 23) = W at h ⊢
   generalize w'.heap.size = z3 at h ⊢
   go_at_call 22
   refine (hin _).mono ?_
   rintro e w' ⟨rfl, rfl⟩
   have k0a := h.cell (⟨z3, 0, none⟩, .int .i64 q1) (by simp)
   have k0b := h.cell (⟨z3, 1, none⟩, .int .i64 q2) (by simp)
   simp only at k0a k0b
   go_wp2
   clear k0a k0b
   go_at_call 12
   refine (hq1 _).mono ?_
   rintro e w' ⟨rfl, hB⟩
   replace h := h.call hB
   clear hB
   have k0a := h.cell (⟨z2, 0, none⟩, .int .i64 l1) (by simp)
   have k0b := h.cell (⟨z2, 1, none⟩, .int .i64 l2) (by simp)
   have k1a := h.cell (⟨z3, 0, none⟩, .int .i64 q1) (by simp)
   have k1b := h.cell (⟨z3, 1, none⟩, .int .i64 q2) (by simp)
   simp only at k0a k0b k1a k1b
   go_wp2
   clear k0a k0b k1a k1b
   go_at_call 18
   refine (hq2 _).mono ?_
   rintro e w' ⟨rfl, hB⟩
   replace h := h.call hB
   clear hB
   go_upto_region 13 with fail
   go_cut [20, 19] from 87 to 96 (fun s20 s19 wx => ∃ z4, s20 = .pointer (some ⟨z4, 0, none⟩) ∧ s19 = .int .i64 0 ∧ KSt w wx [(⟨z4, 0, none⟩, .int .i64 y1), (⟨z4, 1, none⟩, .int .i64 y2), (⟨z3, 0, none⟩, .int .i64 q1), (⟨z3, 1, none⟩, .int .i64 q2), (⟨z2, 0, none⟩, .int .i64 l1), (⟨z2, 1, none⟩, .int .i64 l2), (⟨z1, 0, none⟩, .int .i64 t), (⟨z1, 1, none⟩, .int .i64 c)])
   case first =>
    have k0a := h.cell (⟨z1, 0, none⟩, .int .i64 t) (by simp)
    have k0b := h.cell (⟨z1, 1, none⟩, .int .i64 c) (by simp)
    simp only at k0a k0b
    have hS1 : RS1 w' z1 ((t : Int), (c : Int)) w' := ⟨k0a, k0b, Below.refl _ _⟩
    have hz1 : z1 < w'.heap.size := lt_of_cell k0a
    have hw1 : IntKind.i64.wrap fewer = fewer := by rw [IntKind.wrap_i64]; omega
    have hw2 : fewer.tmod N = (m : Int) := by rw [Int.tmod_eq_emod_of_nonneg hn.1]; exact em
    clear k0a k0b
    go_region_held3 (RS1 w' z1 ((t : Int), (c : Int))) (first | exact RS1.drew hS1 | exact hX | exact RS1.alloc hX _ | exact (RS1.alloc hS1 _).drew | exact (RS1.alloc hS1 _).drew.drew | exact RS1.set (RS1.set hX hz1 (Nat.le_refl _) _) hz1 (Nat.le_refl _) _) (first | (go_at_call 10; (with_reducible refine (hlm _).mono ?_); rintro e wy ⟨rfl, hB⟩; have hX := RS1.call (by assumption) hB; (try (have c0 : wy.cell? ⟨w'.heap.size, 0, none⟩ = some (.int .i64 0) := keep_cell _ hB (new_cell w' #[.int .i64 0, .int .i64 0] 23 0 (by decide)); have c1 : wy.cell? ⟨w'.heap.size, 1, none⟩ = some (.int .i64 0) := keep_cell _ hB (new_cell w' #[.int .i64 0, .int .i64 0] 23 1 (by decide)); have q0 : wy.frozen? ⟨w'.heap.size, 0, none⟩ = false := keep_frozen _ hB (new_cell w' #[.int .i64 0, .int .i64 0] 23 0 (by decide)) (new_frozen w' #[.int .i64 0, .int .i64 0] 23 0 (by decide)); have q1 : wy.frozen? ⟨w'.heap.size, 1, none⟩ = false := keep_frozen _ hB (new_cell w' #[.int .i64 0, .int .i64 0] 23 1 (by decide)) (new_frozen w' #[.int .i64 0, .int .i64 0] 23 1 (by decide))))))
    all_goals (go_wp2_with fail; go_meet; first | exact ⟨_, rfl, rfl, (h.call (RS1.bel hX)).box2 _ _ _⟩ | exact ⟨_, rfl, rfl, KSt.set2 h (RS1.bel hX) c0 c1 _ _⟩)
   case rest =>
    obtain ⟨z4, rfl, rfl, h⟩ := hcut
    have k0a := h.cell (⟨z4, 0, none⟩, .int .i64 y1) (by simp)
    have k0b := h.cell (⟨z4, 1, none⟩, .int .i64 y2) (by simp)
    simp only at k0a k0b
    go_wp2
    clear k0a k0b
    go_at_call 12
    refine (hy1 _).mono ?_
    rintro e w' ⟨rfl, hB⟩
    replace h := h.call hB
    clear hB
    have k0a := h.cell (⟨z2, 0, none⟩, .int .i64 l1) (by simp)
    have k0b := h.cell (⟨z2, 1, none⟩, .int .i64 l2) (by simp)
    have k1a := h.cell (⟨z4, 0, none⟩, .int .i64 y1) (by simp)
    have k1b := h.cell (⟨z4, 1, none⟩, .int .i64 y2) (by simp)
    simp only at k0a k0b k1a k1b
    go_wp2
    clear k0a k0b k1a k1b
    go_at_call 18
    refine (hy2 _).mono ?_
    rintro e w' ⟨rfl, hB⟩
    replace h := h.call hB
    clear hB
    go_wp2
    go_at_call 14
    refine (HL _ h.gl).mono ?_
    rintro e w' ⟨rfl, hB⟩
    go_wp2
    go_ret
    exact ⟨rfl, (h.call hB).bw⟩
end Go.Proofs.Tryd
end
