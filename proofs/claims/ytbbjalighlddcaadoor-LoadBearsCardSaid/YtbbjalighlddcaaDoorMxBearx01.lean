/-
  A part of the proof (C59): lemmas about the program and about the machine that the last text of this claim rests upon; no condition.
-/
import Derived.Test.YtbbjalighlddcaaDoorMxBearxEnoux01
set_option linter.unusedSimpArgs false
set_option linter.unusedVariables false
section
namespace Go.Proofs.Tryd
open Go Go.Load Go.RowKit
theorem s7 : srcP.funcs[7]? = some f7 := by kernel_rfl
set_option maxHeartbeats 16000000 in
set_option maxRecDepth 100000 in
theorem LoadBears_of (HL : ∀ W, Globs W → Calls srcP 14 #[] W fun e w' => e = .returned (.bool true) ∧ Below W.heap.size W w') (top bottom part share trunks : Int) (ht : 0 ≤ top ∧ top ≤ 255) (hb : 0 ≤ bottom ∧ bottom ≤ 255) (hp : 0 ≤ part ∧ part ≤ 255) (hs : 0 ≤ share ∧ share ≤ 255) (hn : 0 ≤ trunks ∧ trunks ≤ 255) (w : World) (hG : Globs w) :
 Calls srcP 7 #[.int .u8 top, .int .u8 bottom, .int .u8 part, .int .u8 share, .int .u8 trunks] w fun e w' => e = .returned (.bool true) ∧ Below w.heap.size w w' := by
 have htr := fun W => traffic_any top bottom W ht hb
 have hli := fun W => limit_any part share W hp hs
 have hLim := lim_of part share hp hs
 obtain ⟨t, et, ht2⟩ : ∃ t : Nat, top % 13 = t ∧ t ≤ 12 := ⟨(top % 13).toNat, by omega, by omega⟩
 obtain ⟨c, eb, hcc⟩ : ∃ c : Nat, 1 + bottom % 4 = (c : Int) ∧ 1 ≤ c ∧ c ≤ 4 := ⟨(1 + bottom % 4).toNat, by omega, by omega, by omega⟩
 obtain ⟨n, en, hn2⟩ : ∃ n : Nat, trunks % 8 = n ∧ n ≤ 7 := ⟨(trunks % 8).toNat, by omega, by omega⟩
 rw [et, eb] at htr
 generalize part % (1 + share % 100 + 1) = l1 at *
 generalize 1 + share % 100 = l2 at *
 have hT : Traf ((t : Int), (c : Int)) := ⟨⟨by show (0 : Int) ≤ t; omega, by show (t : Int) ≤ 12; omega⟩, by show (1 : Int) ≤ c; omega, by show (c : Int) ≤ 4; omega⟩
 have hl2 : 0 < l2 := by have := hLim.1.1; simp only at this; omega
 have hen := fun W => Enough_any ((t : Int), (c : Int)) (l1, l2) W
 unfold enoughV at hen
 rw [if_pos ⟨hT, hLim⟩] at hen
 have hbe := fun W => Bears_yes n (c : Int) (l1, l2) hn2 ⟨by omega, by omega⟩ hLim W
 have q1 := bears_law (t := t) (b := c) (n := n) (l := (l1, l2)) hl2 ht2 hcc hn2
 have q2 := enough_law (t := t) (b := c) (n := n) (l := (l1, l2)) hl2 ht2 hcc hn2
 have q3 := bearsTop_le (p := (c : Int)) (T := n) (l := (l1, l2)) 13
 generalize bearsTop (c : Int) n (l1, l2) 13 = bt at *
 have hin := fun W => In_yes bt (Int.negSucc 0) 12 W ⟨q3.1, by omega⟩
 generalize borne ((t : Int), (c : Int)) n (l1, l2) = r at *
 have q1 : decide ((t : Int) ≤ bt) = r := by
  cases r
  ·exact decide_eq_false fun h => by simpa using q1.1 h
  ·exact decide_eq_true (q1.2 rfl)
 clear q3
 rcases he : enoughFrom ((t : Int), (c : Int)) (l1, l2) 0 with _ | k
 ·simp only [he] at hen q2
  subst q2
  clear he
  simp only [tv, fv] at *
  go_enter s7, ntmps7
  go_wp2
  go_at_call 9
  refine (htr _).mono ?_
  rintro e w' ⟨rfl, hB⟩
  have h : KSt w w' [] := ⟨fun p hp => (by cases hp), hG.keep hB, hB⟩
  clear hB hG
  go_wp2
  go_at_call 20
  refine (hli _).mono ?_
  rintro e w' ⟨rfl, hB⟩
  replace h := ((h.call hB).box2 (.int .i64 t) (.int .i64 c) 23).box2 (.int .i64 l1) (.int .i64 l2) 23
  clear hB
  simp only [asz] at h
  have k0a := h.cell (⟨w'.heap.size, 0, none⟩, .int .i64 t) (by simp)
  have k0b := h.cell (⟨w'.heap.size, 1, none⟩, .int .i64 c) (by simp)
  have k1a := h.cell (⟨(w'.heap.size + 1), 0, none⟩, .int .i64 l1) (by simp)
  have k1b := h.cell (⟨(w'.heap.size + 1), 1, none⟩, .int .i64 l2) (by simp)
  simp only at k0a k0b k1a k1b
  go_wp2
  try simp only [en]
  clear k0a k0b k1a k1b
  generalize (w'.alloc (.cells #[.int .i64 t, .int .i64 c] 23)).alloc (.cells #[.int .i64 l1, .int .i64 l2] 23) = W at h ⊢
  generalize w'.heap.size + 1 = z2 at h ⊢
  generalize w'.heap.size = z1 at h ⊢
  go_at_call 23
  refine (hbe _).mono ?_
  rintro e w' ⟨rfl, hB⟩
  replace h := (h.call hB).box2 (.int .i64 bt) (.int .i64 c) 23
  clear hB
  have k0a := h.cell (⟨z1, 0, none⟩, .int .i64 t) (by simp)
  have k0b := h.cell (⟨z1, 1, none⟩, .int .i64 c) (by simp)
  have k1a := h.cell (⟨z2, 0, none⟩, .int .i64 l1) (by simp)
  have k1b := h.cell (⟨z2, 1, none⟩, .int .i64 l2) (by simp)
  simp only at k0a k0b k1a k1b
  go_wp2
  clear k0a k0b k1a k1b
  generalize w'.alloc (.cells #[.int .i64 bt, .int .i64 c] 23) = W at h ⊢
  generalize w'.heap.size = z3 at h ⊢
  go_at_call 21
  refine (hen _).mono ?_
  rintro e w' ⟨rfl, hB⟩
  replace h := h.call hB
  clear hB
  have k0a := h.cell (⟨z1, 0, none⟩, .int .i64 t) (by simp)
  have k0b := h.cell (⟨z1, 1, none⟩, .int .i64 c) (by simp)
  have k1a := h.cell (⟨z3, 0, none⟩, .int .i64 bt) (by simp)
  have k1b := h.cell (⟨z3, 1, none⟩, .int .i64 c) (by simp)
  simp only at k0a k0b k1a k1b
  go_wp2
  clear k0a k0b k1a k1b
  go_at_call 22
  refine (hin _).mono ?_
  rintro e w' ⟨rfl, rfl⟩
  have k0a := h.cell (⟨z1, 0, none⟩, .int .i64 t) (by simp)
  have k0b := h.cell (⟨z1, 1, none⟩, .int .i64 c) (by simp)
  have k1a := h.cell (⟨z3, 0, none⟩, .int .i64 bt) (by simp)
  have k1b := h.cell (⟨z3, 1, none⟩, .int .i64 c) (by simp)
  simp only at k0a k0b k1a k1b
  go_wp2
  clear k0a k0b k1a k1b
  go_at_call 14
  refine (HL _ h.gl).mono ?_
  rintro e w' ⟨rfl, hB⟩
  go_wp2
  go_ret
  exact ⟨rfl, (h.call hB).bw⟩
 ·simp only [he] at hen q2
  have q4 : decide ((k : Int) ≤ (n : Int)) = r := by
   rw [← q2]
   exact decide_eq_decide.2 Int.ofNat_le
  have q5 : decide (k ≤ n) = r := q2
  clear q2 he
  cases r
  ·clear hLim hT
   simp only [tv, fv] at *
   go_enter s7, ntmps7
   go_wp2
   go_at_call 9
   refine (htr _).mono ?_
   rintro e w' ⟨rfl, hB⟩
   have h : KSt w w' [] := ⟨fun p hp => (by cases hp), hG.keep hB, hB⟩
   clear hB hG
   go_wp2
   go_at_call 20
   refine (hli _).mono ?_
   rintro e w' ⟨rfl, hB⟩
   replace h := ((h.call hB).box2 (.int .i64 t) (.int .i64 c) 23).box2 (.int .i64 l1) (.int .i64 l2) 23
   clear hB
   simp only [asz] at h
   have k0a := h.cell (⟨w'.heap.size, 0, none⟩, .int .i64 t) (by simp)
   have k0b := h.cell (⟨w'.heap.size, 1, none⟩, .int .i64 c) (by simp)
   have k1a := h.cell (⟨(w'.heap.size + 1), 0, none⟩, .int .i64 l1) (by simp)
   have k1b := h.cell (⟨(w'.heap.size + 1), 1, none⟩, .int .i64 l2) (by simp)
   simp only at k0a k0b k1a k1b
   go_wp2
   try simp only [en]
   clear k0a k0b k1a k1b
   generalize (w'.alloc (.cells #[.int .i64 t, .int .i64 c] 23)).alloc (.cells #[.int .i64 l1, .int .i64 l2] 23) = W at h ⊢
   generalize w'.heap.size + 1 = z2 at h ⊢
   generalize w'.heap.size = z1 at h ⊢
   go_at_call 23
   refine (hbe _).mono ?_
   rintro e w' ⟨rfl, hB⟩
   replace h := (h.call hB).box2 (.int .i64 bt) (.int .i64 c) 23
   clear hB
   have k0a := h.cell (⟨z1, 0, none⟩, .int .i64 t) (by simp)
   have k0b := h.cell (⟨z1, 1, none⟩, .int .i64 c) (by simp)
   have k1a := h.cell (⟨z2, 0, none⟩, .int .i64 l1) (by simp)
   have k1b := h.cell (⟨z2, 1, none⟩, .int .i64 l2) (by simp)
   simp only at k0a k0b k1a k1b
   go_wp2
   clear k0a k0b k1a k1b
   generalize w'.alloc (.cells #[.int .i64 bt, .int .i64 c] 23) = W at h ⊢
   generalize w'.heap.size = z3 at h ⊢
   go_at_call 21
   refine (hen _).mono ?_
   rintro e w' ⟨rfl, hB⟩
   replace h := h.call hB
   clear hB
   have k0a := h.cell (⟨z1, 0, none⟩, .int .i64 t) (by simp)
   have k0b := h.cell (⟨z1, 1, none⟩, .int .i64 c) (by simp)
   have k1a := h.cell (⟨z3, 0, none⟩, .int .i64 bt) (by simp)
   have k1b := h.cell (⟨z3, 1, none⟩, .int .i64 c) (by simp)
   simp only at k0a k0b k1a k1b
   go_wp2
   clear k0a k0b k1a k1b
   go_at_call 22
   refine (hin _).mono ?_
   rintro e w' ⟨rfl, rfl⟩
   have k0a := h.cell (⟨z1, 0, none⟩, .int .i64 t) (by simp)
   have k0b := h.cell (⟨z1, 1, none⟩, .int .i64 c) (by simp)
   have k1a := h.cell (⟨z3, 0, none⟩, .int .i64 bt) (by simp)
   have k1b := h.cell (⟨z3, 1, none⟩, .int .i64 c) (by simp)
   simp only at k0a k0b k1a k1b
   go_wp2
   clear k0a k0b k1a k1b
   go_at_call 14
   refine (HL _ h.gl).mono ?_
   rintro e w' ⟨rfl, hB⟩
   go_wp2
   go_ret
   exact ⟨rfl, (h.call hB).bw⟩
  ·clear hLim hT
   simp only [tv, fv] at *
   go_enter s7, ntmps7
   go_wp2
   go_at_call 9
   refine (htr _).mono ?_
   rintro e w' ⟨rfl, hB⟩
   have h : KSt w w' [] := ⟨fun p hp => (by cases hp), hG.keep hB, hB⟩
   clear hB hG
   go_wp2
   go_at_call 20
   refine (hli _).mono ?_
   rintro e w' ⟨rfl, hB⟩
   replace h := ((h.call hB).box2 (.int .i64 t) (.int .i64 c) 23).box2 (.int .i64 l1) (.int .i64 l2) 23
   clear hB
   simp only [asz] at h
   have k0a := h.cell (⟨w'.heap.size, 0, none⟩, .int .i64 t) (by simp)
   have k0b := h.cell (⟨w'.heap.size, 1, none⟩, .int .i64 c) (by simp)
   have k1a := h.cell (⟨(w'.heap.size + 1), 0, none⟩, .int .i64 l1) (by simp)
   have k1b := h.cell (⟨(w'.heap.size + 1), 1, none⟩, .int .i64 l2) (by simp)
   simp only at k0a k0b k1a k1b
   go_wp2
   try simp only [en]
   clear k0a k0b k1a k1b
   generalize (w'.alloc (.cells #[.int .i64 t, .int .i64 c] 23)).alloc (.cells #[.int .i64 l1, .int .i64 l2] 23) = W at h ⊢
   generalize w'.heap.size + 1 = z2 at h ⊢
   generalize w'.heap.size = z1 at h ⊢
   go_at_call 23
   refine (hbe _).mono ?_
   rintro e w' ⟨rfl, hB⟩
   replace h := (h.call hB).box2 (.int .i64 bt) (.int .i64 c) 23
   clear hB
   have k0a := h.cell (⟨z1, 0, none⟩, .int .i64 t) (by simp)
   have k0b := h.cell (⟨z1, 1, none⟩, .int .i64 c) (by simp)
   have k1a := h.cell (⟨z2, 0, none⟩, .int .i64 l1) (by simp)
   have k1b := h.cell (⟨z2, 1, none⟩, .int .i64 l2) (by simp)
   simp only at k0a k0b k1a k1b
   go_wp2
   clear k0a k0b k1a k1b
   generalize w'.alloc (.cells #[.int .i64 bt, .int .i64 c] 23) = W at h ⊢
   generalize w'.heap.size = z3 at h ⊢
   go_at_call 21
   refine (hen _).mono ?_
   rintro e w' ⟨rfl, hB⟩
   replace h := h.call hB
   clear hB
   have k0a := h.cell (⟨z1, 0, none⟩, .int .i64 t) (by simp)
   have k0b := h.cell (⟨z1, 1, none⟩, .int .i64 c) (by simp)
   have k1a := h.cell (⟨z3, 0, none⟩, .int .i64 bt) (by simp)
   have k1b := h.cell (⟨z3, 1, none⟩, .int .i64 c) (by simp)
   simp only at k0a k0b k1a k1b
   go_wp2
   clear k0a k0b k1a k1b
   go_at_call 22
   refine (hin _).mono ?_
   rintro e w' ⟨rfl, rfl⟩
   have k0a := h.cell (⟨z1, 0, none⟩, .int .i64 t) (by simp)
   have k0b := h.cell (⟨z1, 1, none⟩, .int .i64 c) (by simp)
   have k1a := h.cell (⟨z3, 0, none⟩, .int .i64 bt) (by simp)
   have k1b := h.cell (⟨z3, 1, none⟩, .int .i64 c) (by simp)
   simp only at k0a k0b k1a k1b
   go_wp2
   clear k0a k0b k1a k1b
   go_at_call 14
   refine (HL _ h.gl).mono ?_
   rintro e w' ⟨rfl, hB⟩
   go_wp2
   go_ret
   exact ⟨rfl, (h.call hB).bw⟩
end Go.Proofs.Tryd
end
