/-
  Lemmas about the program and the machine (B22 to B22), upon which the last text of this claim rests; no condition.
-/
import Derived.Deep.CutBlock
import Derived.Test.YtnnhaklgndahdaaGreatDoorM20
import Derived.Test.YtnnhaklgndahdaaGreatDoorMxGrowx01
set_option linter.unusedSimpArgs false
set_option linter.unusedVariables false
section
namespace Go.Proofs.Tryz
open Go Go.Load Go.RowKit
open Go.Proofs.YtnnhaklgndahdaaGreatDoor (BookIn)
theorem s4 : qf.funcs[4]? = some f4 := by kernel_rfl
theorem qN.symm {a b : List Grp} (h : qN a b) : qN b a := ⟨h.1.symm, fun i x y hx hy => let ⟨p, q, r⟩ := h.2 i y x hy hx; ⟨p.symm, q.symm, r.symm⟩⟩
def bkZ : Bk := ⟨(0, 0), 0, 0, [], none, 0⟩
theorem bkZ_at (w : World) : BookAt w bkZ := ⟨fun h => absurd h (by decide), fun g hg => (by cases hg), ⟨by decide, fun g hg => (by cases hg)⟩, by decide⟩
def YJ (B : Bk) (N : Nat) (A : Bk) : Prop := (checkN (qo B N) = 0 ∧ A.lim = B.lim ∧ A.growth = B.growth ∧ A.hours = B.hours ∧ qN (qo B N).gs A.gs) ∨ (checkN (qo B N) ≠ 0 ∧ A = bkZ)
theorem YA {B : Bk} (N : Nat) (w : World) (h : BookAt w B) (hG : Globs w) (hc : checkN B = 0) (hn : N ≤ 6) : Calls qf 15 #[bv B, .int .i64 N] w fun e w' => (∃ A, e = .returned (.tuple #[bv A, .int .i64 (checkN (qo B N))]) ∧ BookAt w' A ∧ YJ B N A) ∧ Below w.heap.size w w' := by
 have hsm := h.small
 refine (qeC B N w h hG hc hn).mono fun e w' k => ⟨?_, k.2⟩
 have k1 := k.1
 unfold qao at k1
 by_cases h0 : checkN (qo B N) = 0
 ·rw [if_neg (fun e => e h0)] at k1
  obtain ⟨g, gc, l, tb, rfl, hN⟩ := k1
  exact ⟨{ B with gs := l, ga := some ⟨g, 0, none⟩, gc := gc }, by rw [h0], hN.book hsm, .inl ⟨h0, rfl, rfl, rfl, hN.1⟩⟩
 ·rw [if_pos h0] at k1
  subst k1
  exact ⟨bkZ, rfl, bkZ_at _, .inr ⟨h0, rfl⟩⟩
theorem xA {B A : Bk} {N : Nat} (h : YJ B N A) (h0 : checkN (qo B N) = 0) : checkN A = 0 ∧ A.lim = B.lim ∧ A.growth = B.growth ∧ A.hours = B.hours ∧ qN (qo B N).gs A.gs := by
 rcases h with ⟨_, a, b, c, d⟩ | ⟨h1, _⟩
 ·refine ⟨?_, a, b, c, d⟩
  have e := za B N
  obtain ⟨p1, p2, p3, p4, p5, p6⟩ := A
  simp only at a b c d
  have := xH d p5 p6
  rw [e.1, e.2.1, e.2.2.1, h0] at this
  rw [a, b, c]
  exact this
 ·exact absurd h0 h1
theorem qcW {B A : Bk} {N : Nat} (h : YJ B N A) (h0 : checkN (qo B N) = 0) : A.gs.length = B.gs.length := by
 rw [(xA h h0).2.2.2.2.1, xB]
theorem qaM {B X : Bk} {n : Nat} (h : YJ B n X) (h0 : checkN (qo B n) = 0) (m : Nat) : checkN (qo X m) = checkN (qo B (n + m)) ∧ qN (qo B (n + m)).gs (qo X m).gs := by
 obtain ⟨_, a, b, c, d⟩ := xA h h0
 obtain ⟨p1, p2, p3, p4, p5, p6⟩ := X
 simp only at a b c d
 subst a b c
 exact ⟨qdx d p5 p6 m, QQ d p5 p6 m⟩
theorem qfl {B X A Y : Bk} {n m : Nat} (h : YJ B n X) (h0 : checkN (qo B n) = 0) (hA : YJ B (n + m) A) (hY : YJ X m Y) : Y.lim = A.lim ∧ Y.growth = A.growth ∧ Y.hours = A.hours ∧ qN A.gs Y.gs := by
 obtain ⟨e, hs⟩ := qaM h h0 m
 obtain ⟨_, a, b, c, _⟩ := xA h h0
 rcases hA with ⟨k, a1, b1, c1, d1⟩ | ⟨k, rfl⟩
 ·obtain ⟨_, a2, b2, c2, d2⟩ := xA hY (by rw [e, k])
  exact ⟨by rw [a2, a, a1], by rw [b2, b, b1], by rw [c2, c, c1], d1.symm.trans (hs.trans d2)⟩
 ·rcases hY with ⟨k2, _⟩ | ⟨_, rfl⟩
  ·rw [e] at k2
   exact absurd k2 k
  ·exact ⟨rfl, rfl, rfl, .refl _⟩
theorem KSt.box5 {w W : World} {l : List (Addr × Value)} (h : KSt w W l) (v0 v1 v2 v3 v4 : Value) (ty : TypeId) : KSt w (W.alloc (.cells #[v0, v1, v2, v3, v4] ty)) ((⟨W.heap.size, 0, none⟩, v0) :: (⟨W.heap.size, 1, none⟩, v1) :: (⟨W.heap.size, 2, none⟩, v2) :: (⟨W.heap.size, 3, none⟩, v3) :: (⟨W.heap.size, 4, none⟩, v4) :: l) := by
 have h' := h.call ((Below.refl _ W).alloc (Nat.le_refl _) (.cells #[v0, v1, v2, v3, v4] ty))
 have hF := (Five.new W v0 v1 v2 v3 v4 ty).c
 refine ⟨fun p hp => ?_, h'.gl, h'.bw⟩
 simp only [List.mem_cons] at hp
 rcases hp with rfl | rfl | rfl | rfl | rfl | hp
 ·exact hF.1
 ·exact hF.2.1
 ·exact hF.2.2.1
 ·exact hF.2.2.2.1
 ·exact hF.2.2.2.2
 ·exact h'.cs p hp
set_option maxHeartbeats 8000000 in
set_option maxRecDepth 100000 in
theorem Jt (HL : ∀ W, Globs W → Calls qf 6 #[] W fun e w' => e = .returned (.bool true) ∧ Below W.heap.size W w') (B : Bk) (one two : Int) (hh : 0 ≤ one ∧ one ≤ 255) (ho : 0 ≤ two ∧ two ≤ 255) (w : World) (hG : Globs w) (hB : BookIn w B) (hc : B.gs.length ≤ B.gc) (hf : fitB B = true) :
 Calls qf 4 #[bv B, .int .u8 one, .int .u8 two] w fun e w' => e = .returned (.bool true) ∧ Below w.heap.size w w' := by
 have hfi := fun W (h : Below w.heap.size w W) => Jq B W (hB.keep h) hc
 obtain ⟨hmo, hck, hV⟩ := qfi hf
 simp only [hf] at hfi
 have hat := hB.at (ZQ hmo) hc
 have hl1 := hV.len1
 have hl4 := hV.len4
 have ww1 : IntKind.i64.wrap one = one := by rw [IntKind.wrap_i64]; omega
 have ww2 : IntKind.i64.wrap two = two := by rw [IntKind.wrap_i64]; omega
 have e7 : one.tmod 7 = one % 7 := Int.tmod_eq_emod_of_nonneg hh.1
 obtain ⟨n, en, hn6⟩ : ∃ n : Nat, one.tmod 7 = n ∧ n ≤ 6 := ⟨(one.tmod 7).toNat, by omega, by omega⟩
 have h1 := Int.emod_nonneg two (show (7 : Int) - n ≠ 0 by omega)
 have h2 := Int.emod_lt_of_pos two (show 0 < (7 : Int) - n by omega)
 have em' : two.tmod (7 - (n : Int)) = two % (7 - (n : Int)) := Int.tmod_eq_emod_of_nonneg ho.1
 obtain ⟨m, em, hm6⟩ : ∃ m : Nat, two.tmod (7 - (n : Int)) = m ∧ n + m ≤ 6 := ⟨(two % (7 - (n : Int))).toNat, by omega, by omega⟩
 have ww3 : IntKind.i64.wrap (7 - (n : Int)) = 7 - (n : Int) := by rw [IntKind.wrap_i64]; omega
 have ww4 : IntKind.i64.wrap ((n : Int) + m) = (n : Int) + m := by rw [IntKind.wrap_i64]; omega
 have ww5 : IntKind.i64.wrap (m : Int) = (m : Int) := by rw [IntKind.wrap_i64]; omega
 have nz : ¬ (7 : Int) - n = 0 := by omega
 have hga := fun W (h : Below w.heap.size w W) => YA (n + m) W (hat.keep h) (hG.keep h) hck (by omega)
 have hgx := fun W (h : Below w.heap.size w W) => YA n W (hat.keep h) (hG.keep h) hck (by omega)
 rw [show ((n + m : Nat) : Int) = (n : Int) + m by omega] at hga
 have hrow := hB.row hl1
 have HAT := Lib.hid hat
 have HCK := Lib.hid hck
 have HV := Lib.hid hV
 have HG := Lib.hid hG
 have HBI := Lib.hid hB
 clear hat hf hmo hc hB hV hck e7 em' h1 h2
 obtain ⟨b, o, hga', _⟩ := hrow
 obtain ⟨lim, gr, hr, gs, ga, gc⟩ := B
 simp only [bv] at hga' hga hgx hfi ⊢
 subst hga'
 go_enter s4, ntmps4
 go_upto_region 3 with (go_at_call 5; (with_reducible refine (hfi _ (by go_grown)).mono ?_); rintro e w1 ⟨rfl, hB1⟩; (first | (replace hB := bcl (by with_reducible assumption) hB1) | (replace hB := bcl (by go_grown) hB1) | (have hB := hB1)); (try clear hc hg hz); obtain ⟨hc, hg⟩ := qA hB; have hz := hB.size; clear hB1; (try simp at hz); (try have hlt0 : w.heap.size < w1.heap.size := by omega))
 obtain ⟨wz, hwz⟩ : ∃ wz, wz = w.heap.size := ⟨_, rfl⟩
 have h : KSt w w1 [(⟨wz, 0, none⟩, .int .i64 lim.1), (⟨wz, 1, none⟩, .int .i64 lim.2), (⟨wz, 2, none⟩, .int .i64 gr), (⟨wz, 3, none⟩, .int .i64 hr), (⟨wz, 4, none⟩, .slice (some ⟨b, o, none⟩) gs.length gc)] := by
  have hBW : Below w.heap.size w w1 := bcl (w := w) (by go_grown) hB
  refine ⟨fun p hp => ?_, HG.out.keep hBW, hBW⟩
  simp only [List.mem_cons, List.not_mem_nil, or_false] at hp
  rcases hp with rfl | rfl | rfl | rfl | rfl <;> (rw [hwz]; go_cell)
 obtain ⟨⟨q0, q1, q2, q3, q4⟩, _⟩ := h.c5
 have qz := lt_of_cell q0
 rw [← hwz]
 clear hc hg hB hz hwz hfi
 go_upto_region 5 with fail
 by_cases h0 : checkN (qo ⟨lim, gr, hr, gs, some ⟨b, o, none⟩, gc⟩ n) = 0
 case neg =>
  obtain ⟨a1, a2⟩ := qbC HCK.out h0 m
  rw [a1] at hgx
  rw [a2] at hga
  have hga1 : ∀ W, Below w.heap.size w W → Calls qf 15 #[.agg #[.int .i64 lim.1, .int .i64 lim.2, .int .i64 gr, .int .i64 hr, .slice (some ⟨b, o, none⟩) gs.length gc], .int .i64 ((n : Int) + m)] W fun e w' => e = .returned (.tuple #[.agg #[.int .i64 0, .int .i64 0, .int .i64 0, .int .i64 0, .slice none 0 0], .int .i64 1]) ∧ Below W.heap.size W w' := fun W hW => (hga W hW).mono fun e w' k => ⟨by
   obtain ⟨A, e1, _, hA⟩ := k.1
   rcases hA with ⟨k0, _⟩ | ⟨_, rfl⟩
   ·rw [a2] at k0; cases k0
   ·exact e1, k.2⟩
  have hgx1 : ∀ W, Below w.heap.size w W → Calls qf 15 #[.agg #[.int .i64 lim.1, .int .i64 lim.2, .int .i64 gr, .int .i64 hr, .slice (some ⟨b, o, none⟩) gs.length gc], .int .i64 n] W fun e w' => e = .returned (.tuple #[.agg #[.int .i64 0, .int .i64 0, .int .i64 0, .int .i64 0, .slice none 0 0], .int .i64 1]) ∧ Below W.heap.size W w' := fun W hW => (hgx W hW).mono fun e w' k => ⟨by
   obtain ⟨A, e1, _, hA⟩ := k.1
   rcases hA with ⟨k0, _⟩ | ⟨_, rfl⟩
   ·exact absurd k0 h0
   ·exact e1, k.2⟩
  clear hga hgx a1 a2 h0
  go_wp2_with (first | (go_at_call 15; (with_reducible refine (hga1 _ h.bw).mono ?_); rintro e w2 ⟨rfl, hB⟩; replace h := h.call hB; clear q0 q1 q2 q3 q4; clear hB; obtain ⟨⟨q0, q1, q2, q3, q4⟩, _⟩ := h.c5; have qz := lt_of_cell q0) | (go_at_call 15; (with_reducible refine (hgx1 _ (h.call ((Below.refl _ _).alloc (Nat.le_refl _) _)).bw).mono ?_); rintro e w3 ⟨rfl, hB⟩; replace h := (h.call ((Below.refl _ _).alloc (Nat.le_refl _) _)).call hB; clear q0 q1 q2 q3 q4; clear hB; obtain ⟨⟨q0, q1, q2, q3, q4⟩, _⟩ := h.c5; have qz := lt_of_cell q0) | (go_at_call 6; (refine (HL _ (h.call ((Below.refl _ _).alloc (Nat.le_refl _) _)).gl).mono ?_); rintro e w9 ⟨rfl, hB9⟩))
  go_ret
  exact ⟨rfl, ((h.call ((Below.refl _ _).alloc (Nat.le_refl _) _)).call hB9).bw⟩
 case pos =>
  obtain ⟨s0, es0⟩ : ∃ s0, checkN (qo ⟨lim, gr, hr, gs, some ⟨b, o, none⟩, gc⟩ (n + m)) = s0 := ⟨_, rfl⟩
  rw [h0] at hgx
  rw [es0] at hga
  have H0 := Lib.hid h0
  have HS0 := Lib.hid es0
  clear h0 es0
  go_upto_region 6 with (go_at_call 15; (with_reducible refine (hga _ h.bw).mono ?_); rintro e w2 ⟨⟨⟨Al, Ag, Ah, As, Aa, Ac⟩, rfl, hAt, hAg⟩, hB⟩; simp only [bv]; replace h := (h.call hB).box5 (.int .i64 Al.1) (.int .i64 Al.2) (.int .i64 Ag) (.int .i64 Ah) (.slice Aa As.length Ac) 26; clear q0 q1 q2 q3 q4; clear hB; obtain ⟨⟨a0, a1, a2, a3, a4⟩, hq⟩ := h.c5; obtain ⟨⟨q0, q1, q2, q3, q4⟩, _⟩ := hq.c5; clear hq; have az := lt_of_cell a0; have qz := lt_of_cell q0)
  have HAa := Lib.hid (hAt.keep ((Below.refl _ w2).alloc (Nat.le_refl _) (.cells #[.int .i64 Al.1, .int .i64 Al.2, .int .i64 Ag, .int .i64 Ah, .slice Aa As.length Ac] 26)))
  have HAg := Lib.hid hAg
  clear hAt hAg hga
  go_upto_region 7 with (go_at_call 15; (with_reducible refine (hgx _ h.bw).mono ?_); rintro e w3 ⟨⟨⟨Xl, Xg, Xh, Xs, Xa, Xc⟩, rfl, hXt, hXg⟩, hB⟩; simp only [bv]; replace HAa := Lib.hid ((HAa.out.keep hB).keep ((Below.refl _ w3).alloc (Nat.le_refl _) (.cells #[.int .i64 Xl.1, .int .i64 Xl.2, .int .i64 Xg, .int .i64 Xh, .slice Xa Xs.length Xc] 26))); replace h := (h.call hB).box5 (.int .i64 Xl.1) (.int .i64 Xl.2) (.int .i64 Xg) (.int .i64 Xh) (.slice Xa Xs.length Xc) 26; clear a0 a1 a2 a3 a4 q0 q1 q2 q3 q4; clear hB; obtain ⟨⟨x0, x1, x2, x3, x4⟩, hq⟩ := h.c5; obtain ⟨⟨a0, a1, a2, a3, a4⟩, hq⟩ := hq.c5; obtain ⟨⟨q0, q1, q2, q3, q4⟩, _⟩ := hq.c5; clear hq; have xz := lt_of_cell x0; have az := lt_of_cell a0; have qz := lt_of_cell q0)
  obtain ⟨hcx, e1, e2, e3, hSx⟩ := xA hXg H0.out
  simp only at e1 e2 e3
  obtain rfl : lim = Xl := e1.symm
  obtain rfl : gr = Xg := e2.symm
  obtain rfl : hr = Xh := e3.symm
  have HXt := Lib.hid (hXt.keep ((Below.refl _ w3).alloc (Nat.le_refl _) (.cells #[.int .i64 lim.1, .int .i64 lim.2, .int .i64 gr, .int .i64 hr, .slice Xa Xs.length Xc] 26)))
  generalize w3.alloc (.cells #[.int .i64 lim.1, .int .i64 lim.2, .int .i64 gr, .int .i64 hr, .slice Xa Xs.length Xc] 26) = WX at *
  have HXg := Lib.hid hXg
  have HCX := Lib.hid hcx
  have hxl := qcW hXg H0.out
  simp only at hxl
  have hck := ZU _ _ HXt.out
  rw [hcx] at hck
  simp only [bv, hxl] at hck
  clear hXt hXg hcx hSx hgx
  go_upto_region 11 with (go_at_call 16; (with_reducible refine hck.mono ?_); rintro e w4 ⟨rfl, hB⟩; replace h := h.call hB; replace HAa := Lib.hid (HAa.out.keep hB); replace HXt := Lib.hid (HXt.out.keep hB); clear x0 x1 x2 x3 x4 a0 a1 a2 a3 a4 q0 q1 q2 q3 q4; clear hB; obtain ⟨⟨x0, x1, x2, x3, x4⟩, hq⟩ := h.c5; obtain ⟨⟨a0, a1, a2, a3, a4⟩, hq⟩ := hq.c5; obtain ⟨⟨q0, q1, q2, q3, q4⟩, _⟩ := hq.c5; clear hq; have xz := lt_of_cell x0; have az := lt_of_cell a0; have qz := lt_of_cell q0)
  clear hck
  have hgy := YA m _ HXt.out h.gl HCX.out (by omega)
  rw [(qaM HXg.out H0.out m).1, HS0.out] at hgy
  simp only [bv, hxl] at hgy
  go_upto_region 12 with (go_at_call 15; (with_reducible refine hgy.mono ?_); rintro e w5 ⟨⟨⟨Yl, Yg, Yh, Ys, Ya, Yc⟩, rfl, hYt, hYg⟩, hB⟩; simp only [bv]; replace HAa := Lib.hid ((HAa.out.keep hB).keep ((Below.refl _ w5).alloc (Nat.le_refl _) (.cells #[.int .i64 Yl.1, .int .i64 Yl.2, .int .i64 Yg, .int .i64 Yh, .slice Ya Ys.length Yc] 26))); replace HXt := Lib.hid ((HXt.out.keep hB).keep ((Below.refl _ w5).alloc (Nat.le_refl _) (.cells #[.int .i64 Yl.1, .int .i64 Yl.2, .int .i64 Yg, .int .i64 Yh, .slice Ya Ys.length Yc] 26))); replace h := (h.call hB).box5 (.int .i64 Yl.1) (.int .i64 Yl.2) (.int .i64 Yg) (.int .i64 Yh) (.slice Ya Ys.length Yc) 26; clear x0 x1 x2 x3 x4 a0 a1 a2 a3 a4 q0 q1 q2 q3 q4; clear hB; obtain ⟨⟨y0, y1, y2, y3, y4⟩, hq⟩ := h.c5; obtain ⟨⟨x0, x1, x2, x3, x4⟩, hq⟩ := hq.c5; obtain ⟨⟨a0, a1, a2, a3, a4⟩, hq⟩ := hq.c5; obtain ⟨⟨q0, q1, q2, q3, q4⟩, _⟩ := hq.c5; clear hq; have yz := lt_of_cell y0; have xz := lt_of_cell x0; have az := lt_of_cell a0; have qz := lt_of_cell q0)
  obtain ⟨f1, f2, f3, f4⟩ := qfl HXg.out H0.out HAg.out hYg
  have hsm := Same_yes _ HAa.out (hYt.keep ((Below.refl _ w5).alloc (Nat.le_refl _) (.cells #[.int .i64 Yl.1, .int .i64 Yl.2, .int .i64 Yg, .int .i64 Yh, .slice Ya Ys.length Yc] 26))) f1 f2 f3 f4
  simp only [bv] at hsm
  clear hgy hYt hYg f1 f2 f3 f4
  go_upto_region 14 with (go_at_call 17; (with_reducible refine hsm.mono ?_); rintro e w6 ⟨rfl, hB⟩; replace h := h.call hB; replace HXt := Lib.hid (HXt.out.keep hB); clear y0 y1 y2 y3 y4 x0 x1 x2 x3 x4 a0 a1 a2 a3 a4 q0 q1 q2 q3 q4; clear hB; obtain ⟨⟨y0, y1, y2, y3, y4⟩, hq⟩ := h.c5; obtain ⟨⟨x0, x1, x2, x3, x4⟩, hq⟩ := hq.c5; obtain ⟨⟨a0, a1, a2, a3, a4⟩, hq⟩ := hq.c5; obtain ⟨⟨q0, q1, q2, q3, q4⟩, _⟩ := hq.c5; clear hq; have yz := lt_of_cell y0; have xz := lt_of_cell x0; have az := lt_of_cell a0; have qz := lt_of_cell q0)
  clear hsm HAa HAg
  have h1x := qeH HCX.out 1
  have hgz := YA 1 _ HXt.out h.gl HCX.out (by omega)
  rw [show ((1 : Nat) : Int) = 1 from rfl] at hgz
  simp only [bv, hxl] at hgz
  rcases h1x with z1 | z1
  case inr =>
   rw [z1] at hgz
   have hgz1 := hgz.mono (R' := fun e w' => e = .returned (.tuple #[.agg #[.int .i64 0, .int .i64 0, .int .i64 0, .int .i64 0, .slice none 0 0], .int .i64 1]) ∧ Below _ _ w') fun e w' k => ⟨by
    obtain ⟨A, e1, _, hA⟩ := k.1
    rcases hA with ⟨k0, _⟩ | ⟨_, rfl⟩
    ·rw [z1] at k0; cases k0
    ·exact e1, k.2⟩
   clear hgz z1
   go_wp2_with (first | (go_at_call 15; (with_reducible refine hgz1.mono ?_); rintro e w7 ⟨rfl, hB⟩; replace h := h.call hB; clear y0 y1 y2 y3 y4 x0 x1 x2 x3 x4 a0 a1 a2 a3 a4 q0 q1 q2 q3 q4; clear hB; obtain ⟨⟨y0, y1, y2, y3, y4⟩, hq⟩ := h.c5; obtain ⟨⟨x0, x1, x2, x3, x4⟩, hq⟩ := hq.c5; obtain ⟨⟨a0, a1, a2, a3, a4⟩, hq⟩ := hq.c5; obtain ⟨⟨q0, q1, q2, q3, q4⟩, _⟩ := hq.c5; clear hq; have yz := lt_of_cell y0; have xz := lt_of_cell x0; have az := lt_of_cell a0; have qz := lt_of_cell q0) | (go_at_call 6; (refine (HL _ (h.call ((Below.refl _ _).alloc (Nat.le_refl _) _)).gl).mono ?_); rintro e w9 ⟨rfl, hB9⟩))
   go_ret
   exact ⟨rfl, ((h.call ((Below.refl _ _).alloc (Nat.le_refl _) _)).call hB9).bw⟩
  case inl =>
   rw [z1] at hgz
   have Z1 := Lib.hid z1
   clear z1
   go_upto_region 15 with (go_at_call 15; (with_reducible refine hgz.mono ?_); rintro e w7 ⟨⟨⟨Zl, Zg, Zh, Zs, Za, Zc⟩, rfl, hZt, hZg⟩, hB⟩; simp only [bv]; replace HXt := Lib.hid ((HXt.out.keep hB).keep ((Below.refl _ w7).alloc (Nat.le_refl _) (.cells #[.int .i64 Zl.1, .int .i64 Zl.2, .int .i64 Zg, .int .i64 Zh, .slice Za Zs.length Zc] 26))); replace h := (h.call hB).box5 (.int .i64 Zl.1) (.int .i64 Zl.2) (.int .i64 Zg) (.int .i64 Zh) (.slice Za Zs.length Zc) 26; clear y0 y1 y2 y3 y4 x0 x1 x2 x3 x4 a0 a1 a2 a3 a4 q0 q1 q2 q3 q4; clear hB; obtain ⟨⟨z0, z1, z2, z3, z4⟩, hq⟩ := h.c5; obtain ⟨⟨y0, y1, y2, y3, y4⟩, hq⟩ := hq.c5; obtain ⟨⟨x0, x1, x2, x3, x4⟩, hq⟩ := hq.c5; obtain ⟨⟨a0, a1, a2, a3, a4⟩, hq⟩ := hq.c5; obtain ⟨⟨q0, q1, q2, q3, q4⟩, _⟩ := hq.c5; clear hq; have zz := lt_of_cell z0; have yz := lt_of_cell y0; have xz := lt_of_cell x0; have az := lt_of_cell a0; have qz := lt_of_cell q0)
   obtain ⟨hcz, e1, e2, e3, hSz⟩ := xA hZg Z1.out
   simp only at e1 e2 e3
   obtain rfl : lim = Zl := e1.symm
   obtain rfl : gr = Zg := e2.symm
   obtain rfl : hr = Zh := e3.symm
   have HZt := Lib.hid (hZt.keep ((Below.refl _ w7).alloc (Nat.le_refl _) (.cells #[.int .i64 lim.1, .int .i64 lim.2, .int .i64 gr, .int .i64 hr, .slice Za Zs.length Zc] 26)))
   generalize w7.alloc (.cells #[.int .i64 lim.1, .int .i64 lim.2, .int .i64 gr, .int .i64 hr, .slice Za Zs.length Zc] 26) = WZ at *
   have HSz := Lib.hid hSz
   have hzl := qcW hZg Z1.out
   simp only [hxl] at hzl
   have hck := ZU _ _ HZt.out
   rw [hcz] at hck
   simp only [bv, hzl] at hck
   clear hZt hZg hcz hSz hgz
   go_upto_region 19 with (go_at_call 16; (with_reducible refine hck.mono ?_); rintro e w8 ⟨rfl, hB⟩; replace h := h.call hB; replace HXt := Lib.hid (HXt.out.keep hB); replace HZt := Lib.hid (HZt.out.keep hB); clear z0 z1 z2 z3 z4 y0 y1 y2 y3 y4 x0 x1 x2 x3 x4 a0 a1 a2 a3 a4 q0 q1 q2 q3 q4; clear hB; obtain ⟨⟨z0, z1, z2, z3, z4⟩, hq⟩ := h.c5; obtain ⟨⟨y0, y1, y2, y3, y4⟩, hq⟩ := hq.c5; obtain ⟨⟨x0, x1, x2, x3, x4⟩, hq⟩ := hq.c5; obtain ⟨⟨a0, a1, a2, a3, a4⟩, hq⟩ := hq.c5; obtain ⟨⟨q0, q1, q2, q3, q4⟩, _⟩ := hq.c5; clear hq; have zz := lt_of_cell z0; have yz := lt_of_cell y0; have xz := lt_of_cell x0; have az := lt_of_cell a0; have qz := lt_of_cell q0)
   clear hck
   obtain ⟨xb, xo, exa, hxc⟩ := HXt.out.row (show 1 ≤ Xs.length by omega)
   obtain ⟨zb, zo, eza, hzc⟩ := HZt.out.row (show 1 ≤ Zs.length by omega)
   simp only at exa eza
   subst exa eza
   have HXC := Lib.hid hxc
   have HZC := Lib.hid hzc
   have hr3 := HV.out.num.2.2
   obtain ⟨HR, rfl⟩ : ∃ HR : Nat, hr = (HR : Int) := ⟨hr.toNat, by have := hr3.1; simp only at this; omega⟩
   have hgr0 := HV.out.num.2.1
   simp only at hr3 hgr0
   have HVX := Lib.hid (qB HCX.out)
   clear hxc hzc
   obtain ⟨WL, rfl⟩ : ∃ W, W = w8 := ⟨_, rfl⟩
   go_wp2
   go_loopw [17] (fun i wr => ∃ j : Nat, i = .int .i64 j ∧ j ≤ gs.length ∧ Below WL.heap.size WL wr) (fun i _ => gs.length - (intOf i).toNat)
   case atStart => exact ⟨0, rfl, Nat.zero_le _, .refl _ _⟩
   case round =>
    obtain ⟨j, rfl, hj, hBr⟩ := hrel
    have x4' := qb _ hBr x4
    have x3' := qb _ hBr x3
    have q2' := qb _ hBr q2
    by_cases hlt : j < gs.length
    ·obtain ⟨gx, hgx⟩ : ∃ g, Xs[j]? = some g := ⟨Xs[j]'(by omega), List.getElem?_eq_getElem _⟩
     obtain ⟨gz, hgz⟩ : ∃ g, Zs[j]? = some g := ⟨Zs[j]'(by omega), List.getElem?_eq_getElem _⟩
     have hS := (HSz.out.2 j (jC gr gx) gz (by show (Xs.map (jC gr))[j]? = _; rw [List.getElem?_map, hgx]; rfl) hgz).2.2
     have hlen := (HVX.out.grp gx (List.mem_of_getElem? hgx)).len
     have htrx := (HVX.out.grp gx (List.mem_of_getElem? hgx)).traf
     simp only at hlen
     have hlz : gz.traffic.length = gx.traffic.length := by rw [hS]; simp [jC]
     obtain ⟨tb, tq, etx, hpx⟩ := HXt.out.traf gx (List.mem_of_getElem? hgx) (by omega)
     obtain ⟨ub, uq, etz, hpz⟩ := HZt.out.traf gz (List.mem_of_getElem? hgz) (by omega)
     obtain ⟨_, _, c2⟩ := HXC.out j gx hgx
     obtain ⟨_, _, d2⟩ := HZC.out j gz hgz
     rw [etx] at c2
     rw [etz, hlz] at d2
     have HPX := Lib.hid hpx
     have HPZ := Lib.hid hpz
     have HT := Lib.hid htrx
     have HSS := Lib.hid hS
     have j1 : (j : Int) < (gs.length : Int) := by omega
     have j0 : (0 : Int) ≤ (j : Int) := Int.natCast_nonneg j
     have hgl : gx.traffic.length = HR := by omega
     rw [hgl] at c2 d2
     clear hgx hgz hS hlen htrx hlz etx etz hpx hpz
     go_wp2
     go_loopw [18] (fun i wr2 => ∃ k : Nat, i = .int .i64 k ∧ k ≤ HR ∧ Below WL.heap.size WL wr2) (fun i _ => HR - (intOf i).toNat)
     case atStart => exact ⟨0, rfl, Nat.zero_le _, hBr⟩
     case round =>
      obtain ⟨k, rfl, hk, hB2⟩ := hrel
      have x4' := qb _ hB2 x4
      have x3' := qb _ hB2 x3
      have z4' := qb _ hB2 z4
      have q2' := qb _ hB2 q2
      have c2 := qb _ hB2 c2
      have d2 := qb _ hB2 d2
      by_cases hk2 : k < HR
      ·obtain ⟨was, hw⟩ : ∃ was, gx.traffic[k]? = some was := ⟨gx.traffic[k]'(by omega), List.getElem?_eq_getElem _⟩
       have hnow : gz.traffic[k]? = some (grw gr was) := by rw [HSS.out]; show (gx.traffic.map (grw gr))[k]? = _; rw [List.getElem?_map, hw]; rfl
       obtain ⟨v0, v1⟩ := HPX.out k was hw
       obtain ⟨n0, n1⟩ := HPZ.out k _ hnow
       have v0 := qb _ hB2 v0
       have v1 := qb _ hB2 v1
       have n0 := qb _ hB2 n0
       have n1 := qb _ hB2 n1
       have hT := HT.out was (List.mem_of_getElem? hw)
       obtain ⟨g1, g2, g3, g4⟩ := qfo hgr0.1 hT
       rw [g1] at n1
       have hw0 := hT.1.1
       have hw1 := hT.1.2
       obtain ⟨P, hP⟩ : ∃ P : Int, was.1 * (100 + gr) = P := ⟨_, rfl⟩
       have hPb : 0 ≤ P ∧ P ≤ 2400 := by
        rw [← hP]
        exact ⟨Int.mul_nonneg hw0 (by omega), Int.le_trans (Int.mul_le_mul hw1 (show 100 + gr ≤ 200 by omega) (by omega) (by omega)) (by decide)⟩
       rw [hP] at g2 g3
       obtain ⟨N1, hN1⟩ : ∃ N1 : Int, (grw gr was).1 = N1 := ⟨_, rfl⟩
       rw [hN1] at g2 g3 g4 n0
       have wA : IntKind.i64.wrap (100 * N1) = 100 * N1 := by rw [IntKind.wrap_i64]; omega
       have wB : IntKind.i64.wrap (100 + gr) = 100 + gr := by rw [IntKind.wrap_i64]; omega
       have wC : IntKind.i64.wrap P = P := by rw [IntKind.wrap_i64]; omega
       have wD : IntKind.i64.wrap (N1 - 1) = N1 - 1 := by rw [IntKind.wrap_i64]; omega
       have wE : IntKind.i64.wrap (100 * (N1 - 1)) = 100 * (N1 - 1) := by rw [IntKind.wrap_i64]; omega
       have cA : ¬ 100 * N1 < P := by omega
       have cB : ¬ P ≤ 100 * (N1 - 1) := by omega
       have k1 : (k : Int) < (HR : Int) := by omega
       have k0 : (0 : Int) ≤ (k : Int) := Int.natCast_nonneg k
       clear hw hnow hT g1 g2 g3 g4 hN1
       go_upto_region 25 with fail
       go_cut [19, 20] from 142 to 159 (fun p r wx => ∃ x y : Nat, p = .pointer (some ⟨x, 0, none⟩) ∧ r = .pointer (some ⟨y, 0, none⟩) ∧ wx.cell? ⟨x, 0, none⟩ = some (.int .i64 was.1) ∧ wx.cell? ⟨x, 1, none⟩ = some (.int .i64 was.2) ∧ wx.cell? ⟨y, 0, none⟩ = some (.int .i64 N1) ∧ wx.cell? ⟨y, 1, none⟩ = some (.int .i64 was.2) ∧ Below wr.heap.size wr wx)
       case first =>
        have l1 := lt_of_cell x4'
        have l2 := lt_of_cell z4'
        have l3 := lt_of_cell c2
        have l4 := lt_of_cell d2
        have l5 := lt_of_cell v0
        have l6 := lt_of_cell n0
        have m1 := Nat.lt_succ_of_lt l1
        have m2 := Nat.lt_succ_of_lt l2
        have m3 := Nat.lt_succ_of_lt l3
        have m4 := Nat.lt_succ_of_lt l4
        have m5 := Nat.lt_succ_of_lt l5
        have m6 := Nat.lt_succ_of_lt l6
        go_region
        all_goals
         go_wp2_with fail
         go_meet
         exact ⟨_, _, rfl, rfl, by go_cell, by go_cell, by go_cell, by go_cell, by go_grown⟩
       case rest =>
        obtain ⟨xx, yy, rfl, rfl, r0, r1, r2, r3, hB⟩ := hcut
        have q2'' := qb _ hB q2'
        have hBk := bcl hB2 hB
        clear v0 v1 n0 n1 c2 d2 x4' z4' q2'
        go_wp2
        go_roundw
        case rel => exact ⟨k + 1, rfl, by omega, hBk⟩
        case measure => simp [intOf]; omega
      ·obtain rfl : k = HR := by omega
       go_wp2
       go_roundw
       case rel => exact ⟨j + 1, rfl, by omega, hB2⟩
       case measure => simp [intOf]; omega
    ·obtain rfl : j = gs.length := by omega
     go_wp2_with (go_at_call 6; (refine (HL _ (h.call hBr).gl).mono ?_); rintro e w9 ⟨rfl, hB9⟩)
     go_ret
     exact ⟨rfl, ((h.call hBr).call hB9).bw⟩
set_option maxHeartbeats 8000000 in
set_option maxRecDepth 100000 in
theorem YK (HL : ∀ W, Globs W → Calls qf 6 #[] W fun e w' => e = .returned (.bool true) ∧ Below W.heap.size W w') (B : Bk) (one two : Int) (w : World) (hG : Globs w) (hB : BookIn w B) (hc : B.gs.length ≤ B.gc) (hf : fitB B = false) :
 Calls qf 4 #[bv B, .int .u8 one, .int .u8 two] w fun e w' => e = .returned (.bool true) ∧ Below w.heap.size w w' := by
 have hfi := fun W (h : Below w.heap.size w W) => Jq B W (hB.keep h) hc
 simp only [hf] at hfi
 have HLL := fun W (h : Below w.heap.size w W) => HL W (hG.keep h)
 obtain ⟨lim, gr, hr, gs, ga, gc⟩ := B
 simp only [bv] at *
 clear hB hf HL hG
 go_enter s4, ntmps4
 go_wp2_with (first | (go_at_call 5; (with_reducible refine (hfi _ (by go_grown)).mono ?_); rintro e w1 ⟨rfl, hB1⟩; have hB : Below w.heap.size w w1 := Below.call (by go_grown) hB1 (by simp)) | (go_at_call 6; (refine (HLL _ hB).mono ?_); rintro e w2 ⟨rfl, hB2⟩))
 go_ret
 exact ⟨rfl, bcl hB hB2⟩
theorem qaq (HL : ∀ W, Globs W → Calls qf 6 #[] W fun e w' => e = .returned (.bool true) ∧ Below W.heap.size W w') (B : Bk) (one two : Int) (hh : 0 ≤ one ∧ one ≤ 255) (ho : 0 ≤ two ∧ two ≤ 255) (w : World) (hG : Globs w) (hB : BookIn w B) (hc : B.gs.length ≤ B.gc) :
 Calls qf 4 #[bv B, .int .u8 one, .int .u8 two] w fun e w' => e = .returned (.bool true) ∧ Below w.heap.size w w' := by
 cases hf : fitB B with
 | false => exact YK HL B one two w hG hB hc hf
 | true => exact Jt HL B one two hh ho w hG hB hc hf
end Go.Proofs.Tryz
end
