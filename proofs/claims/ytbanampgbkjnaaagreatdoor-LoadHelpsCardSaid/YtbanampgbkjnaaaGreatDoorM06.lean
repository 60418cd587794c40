/-
  A part of the proof (C33 C34 SrcL C40 C8 C26 C42 C43 C44 C48 C51 C45 C46 C55 R0 CK C9 C10 C54 CL SrcR R1 B1 B2 B4 B5): lemmas about the program and about the machine that the last text of this claim rests upon; no condition.
-/
import Derived.Deep.DeepCutAuto
import Derived.Maps.AppendAt
import Derived.Test.YtbanampgbkjnaaaGreatDoorM04
import Derived.Test.YtbanampgbkjnaaaGreatDoorM05
import Derived.Test.YtbanampgbkjnaaaGreatDoorM03
set_option linter.unusedSimpArgs false
set_option linter.unusedVariables false
namespace Go.Proofs.Tryz
open Go Go.Load Go.RowKit
def blank (g : Grp) : Grp := { g with ta := none, tc := 0 }
theorem Zc {l l' : List Grp} (h : zX l l') : l'.map blank = l.map blank := by
 refine List.ext_getElem? fun i => ?_
 rw [List.getElem?_map, List.getElem?_map]
 cases h1 : l[i]? with
 | none => rw [List.getElem?_eq_none (by have := List.getElem?_eq_none_iff.1 h1; have := h.1; omega)]
 | some g =>
   have hi := (List.getElem?_eq_some_iff.1 h1).1
   obtain ⟨g', h2⟩ : ∃ g', l'[i]? = some g' := ⟨l'[i]'(by have := h.1; omega), by simp⟩
   obtain ⟨a, b, c⟩ := h.2 i g g' h1 h2
   rw [h2]
   simp [blank, a, b, c]
theorem zX.trans {a b c : List Grp} (h : zX a b) (k : zX b c) : zX a c := ⟨k.1.trans h.1, fun i x z hx hz => by
 have hi := (List.getElem?_eq_some_iff.1 hx).1
 obtain ⟨y, hy⟩ : ∃ y, b[i]? = some y := ⟨b[i]'(by have := h.1; omega), by simp⟩
 obtain ⟨p, q, r⟩ := h.2 i x y hx hy
 obtain ⟨p', q', r'⟩ := k.2 i y z hy hz
 exact ⟨p'.trans p, q'.trans q, r'.trans r⟩⟩
theorem YQ (gs : List Grp) (hours : Int) (i : Nat) (g : Grp) : zx (gs.map blank) hours i (blank g) = zx gs hours i g := by
 unfold zx
 rw [← List.map_take, List.any_map]
 rfl
theorem jw (f f' : Nat → Grp → Int) (h : ∀ i g, f' i (blank g) = f i g) : ∀ (l : List Grp) (i : Nat), qV f' i (l.map blank) = qV f i l
 | [], _ => rfl
 | g :: l, i => by
   simp only [List.map_cons, qV, h, jw f f' h l]
theorem Zr (B : Bk) : checkN { B with gs := B.gs.map blank, ga := none, gc := 0 } = checkN B := by
 unfold checkN
 have e1 : zK { B with gs := B.gs.map blank, ga := none, gc := 0 } = zK B := rfl
 have e2 : yM { B with gs := B.gs.map blank, ga := none, gc := 0 } = yM B := by
  unfold yM
  simp only [List.length_map]
  rw [jw _ _ (YQ B.gs B.hours)]
 rw [e1, e2]
theorem Yx {B : Bk} {l : List Grp} (h : zX B.gs l) (ga : Option Addr) (gc : Nat) : checkN { B with gs := l, ga := ga, gc := gc } = checkN B := by
 rw [← Zr, ← Zr B]
 simp only [Zc h]
def qY (B : Bk) : Nat → Bk
 | 0 => B
 | n + 1 => ZW (qY B n)
theorem Qd (B : Bk) : ∀ n, (qY B n).gs.length = B.gs.length
 | 0 => rfl
 | n + 1 => by simp [qY, ZW, Qd B n]
theorem xM (B : Bk) : ∀ n, (qY B n).lim = B.lim ∧ (qY B n).growth = B.growth ∧ (qY B n).hours = B.hours ∧ (qY B n).ga = B.ga ∧ (qY B n).gc = B.gc
 | 0 => ⟨rfl, rfl, rfl, rfl, rfl⟩
 | n + 1 => xM B n
theorem xL (B : Bk) : ∀ (n i : Nat) (x : Grp), (qY B n).gs[i]? = some x → ∃ y : Grp, B.gs[i]? = some y ∧ x.name = y.name ∧ x.trunks = y.trunks ∧ x.traffic.length = y.traffic.length
 | 0, i, x, h => ⟨x, h, rfl, rfl, rfl⟩
 | n + 1, i, x, h => by
   simp only [qY, ZW, List.getElem?_map] at h
   obtain ⟨z, hz, rfl⟩ := Option.map_eq_some_iff.1 h
   obtain ⟨y, hy, a, b, c⟩ := xL B n i z hz
   exact ⟨y, hy, a, b, by simpa [ZE] using c⟩
def YV (base : Nat) (B : Bk) (n : Nat) (W : World) (g gc : Nat) (l : List Grp) (tb : Nat → Nat) : Prop := zX (qY B n).gs l ∧ OwnGs base W g l l.length tb ∧ l.length ≤ gc
theorem YV.book {base g gc n : Nat} {B : Bk} {W : World} {l : List Grp} {tb : Nat → Nat} (h : YV base B n W g gc l tb) (hsm : B.gs.length ≤ 20 ∧ ∀ x ∈ B.gs, x.traffic.length ≤ 20 ∧ x.name.size ≤ 100) : BookAt W { B with gs := l, ga := some ⟨g, 0, none⟩, gc := gc } := by
 obtain ⟨hS, hO, hc⟩ := h
 have hb := Ye (B := qY B n) hS hO hc ⟨by rw [Qd]; exact hsm.1, fun x hx => by
  obtain ⟨i, hi⟩ := List.getElem?_of_mem hx
  obtain ⟨y, hy, a, _, b⟩ := xL B n i x hi
  rw [a, b]; exact hsm.2 y (List.mem_of_getElem? hy)⟩
 exact ⟨hb.row, hb.traf, hb.small, hb.cap⟩
theorem YV.keep {base g gc n : Nat} {B : Bk} {W W1 : World} {l : List Grp} {tb : Nat → Nat} (h : YV base B n W g gc l tb) (hB : Below W.heap.size W W1) : YV base B n W1 g gc l tb := ⟨h.1, h.2.1.keep hB, h.2.2⟩
theorem YV.filled {base g gc n : Nat} {B : Bk} {W : World} {l : List Grp} {tb : Nat → Nat} (h : YV base B n W g gc l tb) (ht : ∀ x ∈ B.gs, 1 ≤ x.traffic.length) : ∀ x ∈ l, 1 ≤ x.traffic.length := fun x hx => by
 obtain ⟨i, hi, rfl⟩ := List.getElem_of_mem hx
 have hl := h.1.1
 obtain ⟨z, hz⟩ : ∃ z, (qY B n).gs[i]? = some z := ⟨(qY B n).gs[i]'(by omega), by simp⟩
 obtain ⟨_, _, c⟩ := h.1.2 i z l[i] hz (by simp)
 obtain ⟨y, hy, _, _, b⟩ := xL B n i z hz
 rw [c, b]; exact ht y (List.mem_of_getElem? hy)
theorem YV.year {base b' g gc n : Nat} {B : Bk} {W W1 : World} {l : List Grp} {tb : Nat → Nat} {e : Ending} (h : YV base B n W g gc l tb) (hb : base ≤ b') (k : OwnP b' (ZW { B with gs := l, ga := some ⟨g, 0, none⟩, gc := gc }) W1 e) :
 ∃ g gc l tb, e = .returned (bv { B with gs := l, ga := some ⟨g, 0, none⟩, gc := gc }) ∧ YV base B (n + 1) W1 g gc l tb := by
 obtain ⟨g1, gc1, l1, tb1, e1, hS, hO, hc⟩ := k
 refine ⟨g1, gc1, l1, tb1, e1, ?_, hO.mono hb, hc⟩
 have := Yt (r := B.growth) h.1
 have e := (xM B n).2.1
 simp only [qY, ZW, e]
 exact this.trans hS
theorem OwnP.first {base : Nat} {B : Bk} {W : World} {e : Ending} (k : OwnP base B W e) : ∃ g gc l tb, e = .returned (bv { B with gs := l, ga := some ⟨g, 0, none⟩, gc := gc }) ∧ YV base B 0 W g gc l tb := by
 obtain ⟨g1, gc1, l1, tb1, e1, hS, hO, hc⟩ := k
 exact ⟨g1, gc1, l1, tb1, e1, hS, hO, hc⟩
structure Five (W : World) (b : Nat) (v0 v1 v2 v3 v4 : Value) : Prop where
 c : W.cell? ⟨b, 0, none⟩ = some v0 ∧ W.cell? ⟨b, 1, none⟩ = some v1 ∧ W.cell? ⟨b, 2, none⟩ = some v2 ∧ W.cell? ⟨b, 3, none⟩ = some v3 ∧ W.cell? ⟨b, 4, none⟩ = some v4
 f : W.frozen? ⟨b, 0, none⟩ = false ∧ W.frozen? ⟨b, 1, none⟩ = false ∧ W.frozen? ⟨b, 2, none⟩ = false ∧ W.frozen? ⟨b, 3, none⟩ = false ∧ W.frozen? ⟨b, 4, none⟩ = false
theorem Five.keep {W W1 : World} {b : Nat} {v0 v1 v2 v3 v4 : Value} (h : Five W b v0 v1 v2 v3 v4) (hB : Below W.heap.size W W1) : Five W1 b v0 v1 v2 v3 v4 := by
 obtain ⟨⟨a0, a1, a2, a3, a4⟩, ⟨f0, f1, f2, f3, f4⟩⟩ := h
 exact ⟨⟨qb _ hB a0, qb _ hB a1, qb _ hB a2, qb _ hB a3, qb _ hB a4⟩, ⟨qg _ hB a0 f0, qg _ hB a1 f1, qg _ hB a2 f2, qg _ hB a3 f3, qg _ hB a4 f4⟩⟩
theorem Five.put {W : World} {b : Nat} {v0 v1 v2 v3 v4 : Value} (u0 u1 u2 u3 u4 : Value) (h : Five W b v0 v1 v2 v3 v4) : Five (set5 W b u0 u1 u2 u3 u4) b u0 u1 u2 u3 u4 := by
 obtain ⟨⟨a0, a1, a2, a3, a4⟩, ⟨f0, f1, f2, f3, f4⟩⟩ := h
 exact ⟨put5 u0 u1 u2 u3 u4 a0 a1 a2 a3 a4, by simpa [set5] using f0, by simpa [set5] using f1, by simpa [set5] using f2, by simpa [set5] using f3, by simpa [set5] using f4⟩
theorem Five.other {W : World} {b c : Nat} {v0 v1 v2 v3 v4 : Value} (u0 u1 u2 u3 u4 : Value) (h : Five W b v0 v1 v2 v3 v4) (e : b ≠ c) : Five (set5 W c u0 u1 u2 u3 u4) b v0 v1 v2 v3 v4 := by
 obtain ⟨⟨a0, a1, a2, a3, a4⟩, ⟨f0, f1, f2, f3, f4⟩⟩ := h
 exact ⟨⟨(qN e).trans a0, (qN e).trans a1, (qN e).trans a2, (qN e).trans a3, (qN e).trans a4⟩, by simpa [set5] using f0, by simpa [set5] using f1, by simpa [set5] using f2, by simpa [set5] using f3, by simpa [set5] using f4⟩
theorem Five.new (W : World) (v0 v1 v2 v3 v4 : Value) (ty : TypeId) : Five (W.alloc (.cells #[v0, v1, v2, v3, v4] ty)) W.heap.size v0 v1 v2 v3 v4 :=
 ⟨⟨by go_cell, by go_cell, by go_cell, by go_cell, by go_cell⟩, ⟨by go_cell, by go_cell, by go_cell, by go_cell, by go_cell⟩⟩
theorem Five.new' {b : Nat} (W : World) (v0 v1 v2 v3 v4 : Value) (ty : TypeId) (e : b = W.heap.size) : Five (W.alloc (.cells #[v0, v1, v2, v3, v4] ty)) b v0 v1 v2 v3 v4 := by subst e; exact .new W v0 v1 v2 v3 v4 ty
theorem OwnGs.five' {base g k b : Nat} {W : World} {l : List Grp} {tb : Nat → Nat} {v0 v1 v2 v3 v4 : Value} (h : OwnGs base W g l k tb) (hk : k = l.length) (hb : b < base) : OwnGs base (set5 W b v0 v1 v2 v3 v4) g l k tb :=
 h.five (by have := h.lo; omega) fun i y hi hy => by have := (h.ta i y hi hy).2.1; omega
theorem YV.five {base g gc n b : Nat} {B : Bk} {W : World} {l : List Grp} {tb : Nat → Nat} {v0 v1 v2 v3 v4 : Value} (h : YV base B n W g gc l tb) (hb : b < base) : YV base B n (set5 W b v0 v1 v2 v3 v4) g gc l tb := ⟨h.1, h.2.1.five' rfl hb, h.2.2⟩
theorem YV.mono {a b g gc n : Nat} {B : Bk} {W : World} {l : List Grp} {tb : Nat → Nat} (h : YV b B n W g gc l tb) (e : a ≤ b) : YV a B n W g gc l tb := ⟨h.1, h.2.1.mono e, h.2.2⟩
def qbC (base : Nat) (B : Bk) (N : Nat) (W : World) (e : Ending) : Prop :=
 if checkN (qY B N) ≠ 0 then e = .returned (.tuple #[bz, .int .i64 (checkN (qY B N))])
 else ∃ g gc l tb, e = .returned (.tuple #[bv { B with gs := l, ga := some ⟨g, 0, none⟩, gc := gc }, .int .i64 0]) ∧ YV base B N W g gc l tb
set_option maxHeartbeats 4000000 in
set_option maxRecDepth 100000 in
theorem Grow_ok (B : Bk) (N : Nat) (w : World) (h : BookAt w B) (hG : Globs w) (hc : checkN B = 0) (hn : N ≤ 6) : Calls qf 26 #[bv B, .int .i64 N] w fun e w' => qbC w.heap.size B N w' e ∧ Below w.heap.size w w' := by
 have hop := fun W (hB : Below w.heap.size w W) => ym B true W (h.keep hB) (hG.keep hB)
 simp only [Qo, if_pos hc] at hop
 have hbt := fun W => qB (N : Int) 0 6 W ⟨by omega, by omega⟩
 have hV := qW hc
 have hsm := h.small
 have hfl : ∀ g ∈ B.gs, 1 ≤ g.traffic.length := fun g hg => by have := (hV.grp g hg).len; have := hV.num.2.2.1; omega
 have hown := fun W (hB : Below w.heap.size w W) => qaY B W (h.keep hB) hV.len1 hfl
 have HS := Lib.hid hsm
 have HF := Lib.hid hfl
 have HV := Lib.hid hV
 have HG := Lib.hid hG
 have H1 := Lib.hid hV.num.2.1
 clear hsm hfl hV
 obtain ⟨lim, gr, hr, gs, ga, gc⟩ := B
 simp only [bv, bz] at *
 clear h hG hc
 go_enter s26, ntmps26
 go_upto_region 6 with (first | ((go_at_call 31; (with_reducible refine (hop _ (by go_grown)).mono ?_); rintro e w1 ⟨rfl, hB1⟩; (first | (replace hB := Below.call (by with_reducible assumption) hB1 (Nat.le_refl _)) | (replace hB := Below.call (by go_grown) hB1 (Nat.le_refl _)) | (have hB := hB1)); (try clear hc hg hz); obtain ⟨hc, hg⟩ := qy hB; have hz := hB.size; clear hB1; (try simp at hz); (try have hlt0 : w.heap.size < w1.heap.size := by omega)); have hz5 : w.heap.size + 1 < w1.heap.size := (by omega); have hz6 : w.heap.size + 1 < w1.heap.size + 1 := (by omega)) | (go_at_call 51; (with_reducible refine (hbt _).mono ?_); rintro e w1 ⟨rfl, rfl⟩))
 have hF := ((Five.new' (b := w.heap.size + 1) _ _ _ _ _ _ 26 (by simp)).keep hB).keep ((Below.refl _ w1).alloc (Nat.le_refl _) (.cells #[.int .i64 lim.1, .int .i64 lim.2, .int .i64 gr, .int .i64 hr, .slice ga gs.length gc] 67))
 have hF6 := Five.new w1 (.int .i64 lim.1) (.int .i64 lim.2) (.int .i64 gr) (.int .i64 hr) (.slice ga gs.length gc) 67
 have hBw := (Below.call (B := w.heap.size) (by go_grown) hB (Nat.le_refl _)).alloc (w := w1) (by omega) (.cells #[.int .i64 lim.1, .int .i64 lim.2, .int .i64 gr, .int .i64 hr, .slice ga gs.length gc] 67)
 obtain ⟨W, hW⟩ : ∃ W, w1.alloc (.cells #[.int .i64 lim.1, .int .i64 lim.2, .int .i64 gr, .int .i64 hr, .slice ga gs.length gc] 67) = W := ⟨_, rfl⟩
 have hWs : w1.heap.size < W.heap.size := by rw [← hW]; simp
 rw [hW] at hF hF6 hBw ⊢
 clear hW hc hg hB hz hz6
 obtain ⟨q, hq⟩ : ∃ q, w1.heap.size = q := ⟨_, rfl⟩
 rw [hq] at hF6 hWs ⊢
 have hF6' := hF6
 obtain ⟨⟨e0, e1, e2, e3, e4⟩, _⟩ := hF6'
 go_wp2
 go_at_call 59
 refine (hown _ hBw).mono ?_
 rintro e w2 ⟨hP, hB2⟩
 obtain ⟨g, cg, l, tb, rfl, hN⟩ := hP.first
 replace hN := hN.mono (show q + 1 ≤ W.heap.size from hWs)
 have hqn : w.heap.size + 1 < q := by omega
 have hF := hF.keep hB2
 have hF6 := hF6.keep hB2
 have hBx := Below.call hBw hB2 (Nat.le_refl _)
 clear hB2 e0 e1 e2 e3 e4 hown hop hbt hP hz5 hBw hWs hq
 obtain ⟨⟨e0, e1, e2, e3, e4⟩, ⟨k0, k1, k2, k3, k4⟩⟩ := id hF6
 simp only [bv]
 go_wp2
 have hN5 := hN.five (show q < q + 1 by omega) (v0 := .int .i64 lim.1) (v1 := .int .i64 lim.2) (v2 := .int .i64 gr) (v3 := .int .i64 hr) (v4 := .slice (some ⟨g, 0, none⟩) l.length cg)
 have hF5 := hF.other (.int .i64 lim.1) (.int .i64 lim.2) (.int .i64 gr) (.int .i64 hr) (.slice (some ⟨g, 0, none⟩) l.length cg) (show w.heap.size + 1 ≠ q by omega)
 have hF65 := hF6.put (.int .i64 lim.1) (.int .i64 lim.2) (.int .i64 gr) (.int .i64 hr) (.slice (some ⟨g, 0, none⟩) l.length cg)
 have hB5 := Below.set5 hBx (b := q) (by omega) (v0 := .int .i64 lim.1) (v1 := .int .i64 lim.2) (v2 := .int .i64 gr) (v3 := .int .i64 hr) (v4 := .slice (some ⟨g, 0, none⟩) l.length cg)
 obtain ⟨W5, hW5⟩ : ∃ W5, set5 w2 q (.int .i64 lim.1) (.int .i64 lim.2) (.int .i64 gr) (.int .i64 hr) (.slice (some ⟨g, 0, none⟩) l.length cg) = W5 := ⟨_, rfl⟩
 rw [hW5] at hN5 hF5 hF65 hB5
 unfold set5 at hW5
 rw [hW5]
 clear hW5 e0 e1 e2 e3 e4 k0 k1 k2 k3 k4 hF hF6 hBx hN
 go_loopw [27] (fun i wr => ∃ k : Nat, i = .int .i64 k ∧ k ≤ N ∧ Below w.heap.size w wr ∧ ∃ g gc' l tb, Hid (YV (q + 1) ⟨lim, gr, hr, gs, ga, gc⟩ k wr g gc' l tb) ∧ Hid (Five wr (w.heap.size + 1) (.int .i64 0) (.int .i64 0) (.int .i64 0) (.int .i64 0) (.slice none 0 0)) ∧ Hid (Five wr q (.int .i64 lim.1) (.int .i64 lim.2) (.int .i64 gr) (.int .i64 hr) (.slice (some ⟨g, 0, none⟩) l.length gc'))) (fun i _ => N - (intOf i).toNat)
 case atStart => exact ⟨0, rfl, by omega, hB5, g, cg, l, tb, Lib.hid hN5, Lib.hid hF5, Lib.hid hF65⟩
 case round =>
  clear hN5 hF5 hF65 hB5
  obtain ⟨k, rfl, hk, hBr, g, gc', l, tb, hN, hF, hF6⟩ := hrel
  obtain ⟨⟨e0, e1, e2, e3, e4⟩, ⟨k0, k1, k2, k3, k4⟩⟩ := id hF6.out
  by_cases hlt : k < N
  ·have hgr := Jv ⟨lim, gr, hr, l, some ⟨g, 0, none⟩, gc'⟩ wr (hN.out.book HS.out) (by rw [hN.out.1.1, Qd]; exact HV.out.len1) (hN.out.filled HF.out) H1.out.1 (by have := H1.out.2; simp only at this ⊢; omega)
   have hk1 : (k : Int) < (N : Int) := by omega
   have hk0 : (0 : Int) ≤ (k : Int) := Int.natCast_nonneg k
   have hql : q < wr.heap.size := lt_of_cell e0
   simp only [bv] at hgr
   go_wp2
   go_at_call 64
   refine hgr.mono ?_
   rintro e w3 ⟨hP, hB3⟩
   obtain ⟨g1, gc1, l1, tb1, rfl, hN1⟩ := hN.out.year (show q + 1 ≤ wr.heap.size from hql) hP
   have hF := hF.out.keep hB3
   have hF6 := hF6.out.keep hB3
   have hBx := Below.call hBr hB3 (Nat.le_refl _)
   clear hB3 e0 e1 e2 e3 e4 k0 k1 k2 k3 k4 hgr hP
   obtain ⟨⟨e0, e1, e2, e3, e4⟩, ⟨k0, k1, k2, k3, k4⟩⟩ := id hF6
   simp only [bv]
   go_wp2
   go_roundw
   case rel => exact ⟨k + 1, rfl, by omega, Below.set5 hBx (by omega), g1, gc1, l1, tb1, Lib.hid (hN1.five (by omega)), Lib.hid (hF.other _ _ _ _ _ (by omega)), Lib.hid (hF6.put _ _ _ _ _)⟩
   case measure => simp [intOf]; omega
  ·obtain rfl : k = N := by omega
   have hch := QP ⟨lim, gr, hr, l, some ⟨g, 0, none⟩, gc'⟩ wr (hN.out.book HS.out) (HG.out.keep hBr)
   have hcN : checkN ⟨lim, gr, hr, l, some ⟨g, 0, none⟩, gc'⟩ = checkN (qY ⟨lim, gr, hr, gs, ga, gc⟩ k) := by
    rw [← Yx hN.out.1 (some ⟨g, 0, none⟩) gc']
    have e := xM ⟨lim, gr, hr, gs, ga, gc⟩ k
    simp only at e
    rw [e.1, e.2.1, e.2.2.1]
   rw [hcN] at hch
   have hql : q < wr.heap.size := lt_of_cell e0
   obtain ⟨⟨c0, c1, c2, c3, c4⟩, ⟨f0, f1, f2, f3, f4⟩⟩ := id hF.out
   have hNN := Lib.hid hN.out
   obtain ⟨r, hr⟩ : ∃ r, checkN (qY ⟨lim, gr, hr, gs, ga, gc⟩ k) = r := ⟨_, rfl⟩
   rw [hr] at hch
   have HR := Lib.hid hr
   have hBq := Lib.hid hBr
   clear hcN hr hN hF hF6
   simp only [bv] at hch
   have hnl : w.heap.size + 1 < wr.heap.size := lt_of_cell c0
   by_cases hr0 : r = 0
   ·subst hr0
    go_wp2_with (go_at_call 65; refine hch.mono ?_; rintro e w1 ⟨rfl, hB⟩; obtain ⟨hc, hg⟩ := qy hB; have hz1 : w.heap.size + 1 < w1.heap.size := (Nat.lt_of_lt_of_le hnl hB.size); have hz2 : q < w1.heap.size := (Nat.lt_of_lt_of_le hql hB.size))
    have hbB := Below.call hBq.out hB (Nat.le_refl _)
    refine ZY results26 YC QX rfl rfl (qb _ hB c0) (qb _ hB c1) (qb _ hB c2) (qb _ hB c3) (qb _ hB c4) ⟨?_, Below.set5 hbB (Nat.le_succ _)⟩
    unfold qbC
    rw [if_neg (fun e => e HR.out)]
    exact ⟨g, gc', l, tb, rfl, ((hNN.out.keep hB).five (b := w.heap.size + 1) (by omega)).mono (show w.heap.size ≤ q + 1 by omega)⟩
   ·have hrb : (r != 0) = true := by simp [hr0]
    go_wp2_with (go_at_call 65; refine hch.mono ?_; rintro e w1 ⟨rfl, hB⟩; obtain ⟨hc, hg⟩ := qy hB; have hz1 : w.heap.size + 1 < w1.heap.size := (Nat.lt_of_lt_of_le hnl hB.size); have hz2 : q < w1.heap.size := (Nat.lt_of_lt_of_le hql hB.size))
    have hbB := Below.call hBq.out hB (Nat.le_refl _)
    refine ZY results26 YC QX rfl rfl (qb _ hB c0) (qb _ hB c1) (qb _ hB c2) (qb _ hB c3) (qb _ hB c4) ⟨?_, Below.set5 hbB (Nat.le_succ _)⟩
    unfold qbC
    rw [if_pos (by rw [HR.out]; exact hr0), HR.out]
    rfl
end Go.Proofs.Tryz
namespace Go.Proofs.Tryz
open Go Go.Sim
@[go_sem] theorem s9 : qf.funcs[9]? = some f9 := by kernel_rfl
@[go_sem] theorem c9 (args : Array Value) (w : World) : (callFunc 9 args).run qf w = .ok (.enter 9 args) w := qh s9 (by kernel_rfl) (by kernel_rfl) args w
@[go_sem] theorem s7 : qf.funcs[7]? = some f7 := by kernel_rfl
@[go_sem] theorem c7 (args : Array Value) (w : World) : (callFunc 7 args).run qf w = .ok (.enter 7 args) w := qh s7 (by kernel_rfl) (by kernel_rfl) args w
@[go_sem] theorem s35 : qf.funcs[35]? = some f35 := by kernel_rfl
@[go_sem] theorem c35 (args : Array Value) (w : World) : (callFunc 35 args).run qf w = .ok (.enter 35 args) w := qh s35 (by kernel_rfl) (by kernel_rfl) args w
@[go_sem] theorem s5 : qf.funcs[5]? = some f5 := by kernel_rfl
@[go_sem] theorem c5 (args : Array Value) (w : World) : (callFunc 5 args).run qf w = .ok (.enter 5 args) w := qh s5 (by kernel_rfl) (by kernel_rfl) args w
@[go_sem] theorem s36 : qf.funcs[36]? = some f36 := by kernel_rfl
@[go_sem] theorem c36 (args : Array Value) (w : World) : (callFunc 36 args).run qf w = .ok (.enter 36 args) w := qh s36 (by kernel_rfl) (by kernel_rfl) args w
@[go_sem] theorem s11 : qf.funcs[11]? = some f11 := by kernel_rfl
@[go_sem] theorem c11 (args : Array Value) (w : World) : (callFunc 11 args).run qf w = .ok (.enter 11 args) w := qh s11 (by kernel_rfl) (by kernel_rfl) args w
@[go_sem] theorem s8 : qf.funcs[8]? = some f8 := by kernel_rfl
@[go_sem] theorem c8 (args : Array Value) (w : World) : (callFunc 8 args).run qf w = .ok (.enter 8 args) w := qh s8 (by kernel_rfl) (by kernel_rfl) args w
@[go_sem] theorem s14 : qf.funcs[14]? = some f14 := by kernel_rfl
@[go_sem] theorem c14 (args : Array Value) (w : World) : (callFunc 14 args).run qf w = .ok (.enter 14 args) w := qh s14 (by kernel_rfl) (by kernel_rfl) args w
@[go_sem] theorem s29 : qf.funcs[29]? = some f29 := by kernel_rfl
@[go_sem] theorem c29 (args : Array Value) (w : World) : (callFunc 29 args).run qf w = .ok (.enter 29 args) w := qh s29 (by kernel_rfl) (by kernel_rfl) args w
@[go_sem] theorem s30 : qf.funcs[30]? = some f30 := by kernel_rfl
@[go_sem] theorem c30 (args : Array Value) (w : World) : (callFunc 30 args).run qf w = .ok (.enter 30 args) w := qh s30 (by kernel_rfl) (by kernel_rfl) args w
@[go_sem] theorem s72 : qf.funcs[72]? = some f72 := by kernel_rfl
@[go_sem] theorem c72 (args : Array Value) (w : World) : (callFunc 72 args).run qf w = .ok (.enter 72 args) w := qh s72 (by kernel_rfl) (by kernel_rfl) args w
@[go_sem] theorem s101 : qf.funcs[101]? = some f101 := by kernel_rfl
@[go_sem] theorem c101 (args : Array Value) (w : World) : (callFunc 101 args).run qf w = .ok (.enter 101 args) w := qh s101 (by kernel_rfl) (by kernel_rfl) args w
end Go.Proofs.Tryz
namespace Go.Proofs.Tryz
open Go Go.Load Go.RowKit
def west : ByteArray := ⟨#[119, 101, 115, 116]⟩
def east : ByteArray := ⟨#[101, 97, 115, 116]⟩
def exB (g a b : Nat) : Bk := ⟨(1, 5), 50, 2, [⟨west, 1, [(1, 1), (1, 2)], some ⟨a, 0, none⟩, 2⟩, ⟨east, 2, [(2, 1), (1, 1)], some ⟨b, 0, none⟩, 2⟩], some ⟨g, 0, none⟩, 2⟩
set_option maxHeartbeats 1000000 in
theorem Xy (a b : Int) (w : World) : Calls qf 9 #[.int .i64 a, .int .i64 b] w fun e w' => e = .returned (fv (a, b)) ∧ Below w.heap.size w w' := by
 simp only [fv]
 go_enter s9, ntmps9
 go_wp2
 have c0 := qC w #[.int .i64 a, .int .i64 b] 23 0 (by simp)
 have c1 := qC w #[.int .i64 a, .int .i64 b] 23 1 (by simp)
 exact bodyPost_ret (QM results9 rfl (yG ze qP c0 c1)) rfl ⟨rfl, (Below.refl _ w).alloc (Nat.le_refl _) _⟩
theorem Xa {W : World} {a o b : Nat} {v0 v1 v2 v3 v4 : Value} {l : List (Int × Int)} (h : qO W a o l) (e : a ≠ b) : qO (set5 W b v0 v1 v2 v3 v4) a o l := fun i x hx =>
 ⟨(qN (by show a ≠ b; exact e)).trans (h i x hx).1, (qN (by show a ≠ b; exact e)).trans (h i x hx).2⟩
theorem YK (W : World) (a b c d : Int) (ty : TypeId) : qO (W.alloc (.cells #[.int .i64 a, .int .i64 b, .int .i64 c, .int .i64 d] ty)) W.heap.size 0 [(a, b), (c, d)] := fun i x hx => by
 have n := fun j hj => qC W #[.int .i64 a, .int .i64 b, .int .i64 c, .int .i64 d] ty j hj
 match i, hx with
 | 0, hx => obtain rfl := Option.some.inj hx; exact ⟨n 0 (by simp), n 1 (by simp)⟩
 | 1, hx => obtain rfl := Option.some.inj hx; exact ⟨n 2 (by simp), n 3 (by simp)⟩
set_option maxHeartbeats 400000 in
theorem ZU (w : World) : Calls qf 14 #[] w fun e w' => (∃ g a b, e = .returned (bv (exB g a b)) ∧ BookAt w' (exB g a b)) ∧ Below w.heap.size w w' := by
 have hof := fun a b W => Xy a b W
 simp only [fv] at hof
 go_enter s14, ntmps14
 go_wp2
 go_at_call 9
 refine (hof _ _ _).mono ?_
 rintro e w1 ⟨rfl, h1⟩
 go_wp2
 go_at_call 9
 refine (hof _ _ _).mono ?_
 rintro e w2 ⟨rfl, h2⟩
 go_wp2
 go_at_call 9
 refine (hof _ _ _).mono ?_
 rintro e w3 ⟨rfl, h3⟩
 have F3 := (((Five.new w (.int .i64 0) (.int .i64 0) (.int .i64 0) (.int .i64 0) (.slice none 0 0) 26).keep h1).keep h2).keep h3
 have B3 := Below.call (Below.call (Below.call ((Below.refl _ w).alloc (Nat.le_refl _) _) h1 (Nat.le_refl _)) h2 (Nat.le_refl _)) h3 (Nat.le_refl _)
 clear h1 h2 h3
 go_wp2
 go_at_call 9
 refine (hof _ _ _).mono ?_
 rintro e w4 ⟨rfl, h4⟩
 go_wp2
 go_at_call 9
 refine (hof _ _ _).mono ?_
 rintro e w5 ⟨rfl, h5⟩
 have F5 := ((F3.keep ((Below.refl _ w3).alloc (Nat.le_refl _) (.cells #[.int .i64 1, .int .i64 1, .int .i64 1, .int .i64 2] 23))).keep h4).keep h5
 have B5 := Below.call (Below.call (B3.alloc B3.size (.cells #[.int .i64 1, .int .i64 1, .int .i64 1, .int .i64 2] 23)) h4 (Nat.le_refl _)) h5 (Nat.le_refl _)
 have P5 : qO w5 w3.heap.size 0 [(1, 1), (1, 2)] := fun i x hx => by
  have n := fun j hj => qC w3 #[.int .i64 1, .int .i64 1, .int .i64 1, .int .i64 2] 23 j hj
  match i, hx with
  | 0, hx => obtain rfl := Option.some.inj hx; exact ⟨qb _ h5 (qb _ h4 (n 0 (by decide))), qb _ h5 (qb _ h4 (n 1 (by decide)))⟩
  | 1, hx => obtain rfl := Option.some.inj hx; exact ⟨qb _ h5 (qb _ h4 (n 2 (by decide))), qb _ h5 (qb _ h4 (n 3 (by decide)))⟩
 have hw13 : w.heap.size < w3.heap.size := lt_of_cell F3.c.1
 clear F3 B3 h4 h5
 have F7 := (F5.keep ((Below.refl _ w5).alloc (Nat.le_refl _) (.cells #[.int .i64 2, .int .i64 1, .int .i64 1, .int .i64 1] 23))).keep ((Below.refl _ _).alloc (Nat.le_refl _) (.cells #[.string ⟨#[119, 101, 115, 116]⟩, .int .i64 1, .slice (some ⟨w3.heap.size, 0, none⟩) 2 2, .string ⟨#[101, 97, 115, 116]⟩, .int .i64 2, .slice (some ⟨w5.heap.size, 0, none⟩) 2 2] 37))
 have B7 := (B5.alloc B5.size (.cells #[.int .i64 2, .int .i64 1, .int .i64 1, .int .i64 1] 23)).alloc (by have := B5.size; simp; omega) (.cells #[.string ⟨#[119, 101, 115, 116]⟩, .int .i64 1, .slice (some ⟨w3.heap.size, 0, none⟩) 2 2, .string ⟨#[101, 97, 115, 116]⟩, .int .i64 2, .slice (some ⟨w5.heap.size, 0, none⟩) 2 2] 37)
 obtain ⟨⟨c0, c1, c2, c3, c4⟩, ⟨f0, f1, f2, f3, f4⟩⟩ := F7
 have P5 := Lib.hid P5
 have B7 := Lib.hid B7
 clear hof F5 B5
 go_wp2
 have P5 := P5.out
 have P6 := (YK w5 2 1 1 1 23)
 have hw3 : w3.heap.size < w5.heap.size := lt_of_cell (P5 0 _ rfl).1
 have hn : w.heap.size < w3.heap.size := hw13
 refine qfi results14 YC QX rfl c0 c1 c2 c3 c4 ⟨⟨w5.heap.size + 1, w3.heap.size, w5.heap.size, rfl, ?_⟩, Below.set5 B7.out (Nat.le_refl _)⟩
 have A1 : Below w5.heap.size w5 (w5.alloc (.cells #[.int .i64 2, .int .i64 1, .int .i64 1, .int .i64 1] 23)) := (Below.refl _ w5).alloc (Nat.le_refl _) _
 have A2 : ∀ (W : World) o, Below W.heap.size W (W.alloc o) := fun W o => (Below.refl _ W).alloc (Nat.le_refl _) o
 refine ⟨fun _ => ⟨w5.heap.size + 1, 0, rfl, fun i x hx => ?_⟩, fun x hx _ => ?_, ⟨by show (2 : Nat) ≤ 20; decide, fun x hx => ?_⟩, by show (2 : Nat) ≤ 2; decide⟩
 ·have n := fun j hj => QE (b := w5.heap.size + 1) (w5.alloc (.cells #[.int .i64 2, .int .i64 1, .int .i64 1, .int .i64 1] 23)) #[.string ⟨#[119, 101, 115, 116]⟩, .int .i64 1, .slice (some ⟨w3.heap.size, 0, none⟩) 2 2, .string ⟨#[101, 97, 115, 116]⟩, .int .i64 2, .slice (some ⟨w5.heap.size, 0, none⟩) 2 2] 37 j hj (by simp)
  have o : ∀ j, (⟨w5.heap.size + 1, j, none⟩ : Addr).block ≠ w.heap.size := fun j => by show w5.heap.size + 1 ≠ w.heap.size; omega
  match i, hx with
  | 0, hx => obtain rfl := Option.some.inj hx; exact ⟨(qN (o _)).trans (n 0 (by simp)), (qN (o _)).trans (n 1 (by simp)), (qN (o _)).trans (n 2 (by simp))⟩
  | 1, hx => obtain rfl := Option.some.inj hx; exact ⟨(qN (o _)).trans (n 3 (by simp)), (qN (o _)).trans (n 4 (by simp)), (qN (o _)).trans (n 5 (by simp))⟩
 ·rcases List.mem_cons.1 hx with rfl | hx
  ·exact ⟨w3.heap.size, 0, rfl, Xa ((P5.keep A1).keep (A2 _ _)) (by omega)⟩
  ·obtain rfl := List.mem_singleton.1 hx
   exact ⟨w5.heap.size, 0, rfl, Xa (P6.keep (A2 _ _)) (by omega)⟩
 ·rcases List.mem_cons.1 hx with rfl | hx
  ·exact ⟨by show (2 : Nat) ≤ 20; decide, by show west.size ≤ 100; decide⟩
  ·obtain rfl := List.mem_singleton.1 hx
   exact ⟨by show (2 : Nat) ≤ 20; decide, by show east.size ≤ 100; decide⟩
theorem Jb (T : Nat) (x : Int × Int) (h : yu x) (hT : T ≤ 7) (w : World) :
 Calls qf 42 #[fv x, .int .i64 T, .func (.func 43) #[] #[]] w fun e w' => e = .returned (tv (qX (low x.1 x.2) T) 0) ∧ Below w.heap.size w w' := by
 obtain ⟨k1, k2, k3, k4⟩ := xN h.1.1 h.1.2 h.2.1 h.2.2
 exact XE _ (fun args w => c43 args w) T x _ h hT (fun W => Zm T _ k1 k2 k3 k4 hT W) w
theorem Jd (T : Nat) (x : Int × Int) (h : yu x) (hT : T ≤ 7) (w : World) :
 Calls qf 42 #[fv x, .int .i64 T, .func (.func 44) #[] #[]] w fun e w' => e = .returned (tv (qJ (low x.1 x.2) T) 0) ∧ Below w.heap.size w w' := by
 obtain ⟨k1, k2, k3, k4⟩ := xN h.1.1 h.1.2 h.2.1 h.2.2
 exact XE _ (fun args w => c44 args w) T x _ h hT (fun W => Ql T _ k1 k2 k3 k4 hT W) w
def jf (x : Int × Int) (T : Nat) : Int × Int := low (x.1 * (qJ x T).2 - (qJ x T).1 * x.2) (x.2 * (qJ x T).2)
theorem yS {x : Int × Int} (h1 : 0 ≤ x.1) (h2 : x.1 ≤ 12) (h3 : 1 ≤ x.2) (h4 : x.2 ≤ 4) (T : Nat) (hT : T ≤ 7) : 0 ≤ (qJ x T).1 ∧ 1 ≤ (qJ x T).2 ∧ (qJ x T).2 ≤ 655360000000 ∧ (qJ x T).1 ≤ 1966080000000 ∧ (qJ x T).1 * x.2 ≤ x.1 * (qJ x T).2 := by
 obtain ⟨q1, q2, q3, q4⟩ := xQ h1 h2 h3 h4 T hT
 have hp : (40 : Int) ^ T ≤ 40 ^ 7 := by exact_mod_cast Nat.pow_le_pow_right (by decide) hT
 simp only [qJ]
 generalize qX x T = q at *
 have q5 : q.2 ≤ 163840000000 := Int.le_trans q4 (Int.le_trans hp (by decide))
 have m0 : 0 ≤ x.1 * q.1 := Int.mul_nonneg h1 q1
 have m2 : x.1 * q.1 ≤ 12 * q.2 := Int.le_trans (Int.mul_le_mul_of_nonneg_right h2 q1) (by omega)
 have m3 : x.2 * q.2 ≤ 4 * q.2 := Int.mul_le_mul_of_nonneg_right h4 (by omega)
 have m4 : 0 < x.2 * q.2 := Int.mul_pos (by omega) (by omega)
 obtain ⟨t1, t2, t3, t4, _⟩ := xm m0 m4
 refine ⟨t1, t3, by omega, by omega, ?_⟩
 have hg := qfn (a := x.1 * q.1) m4
 have e1 : (low (x.1 * q.1) (x.2 * q.2)).1 * (Int.gcd (x.1 * q.1) (x.2 * q.2) : Int) = x.1 * q.1 := Int.ediv_mul_cancel (Int.gcd_dvd_left ..)
 have e2 : (low (x.1 * q.1) (x.2 * q.2)).2 * (Int.gcd (x.1 * q.1) (x.2 * q.2) : Int) = x.2 * q.2 := Int.ediv_mul_cancel (Int.gcd_dvd_right ..)
 refine Int.le_of_mul_le_mul_right ?_ hg
 have c1 : (low (x.1 * q.1) (x.2 * q.2)).1 * x.2 * (Int.gcd (x.1 * q.1) (x.2 * q.2) : Int) = x.1 * q.1 * x.2 := by rw [Int.mul_right_comm, e1]
 have c2 : x.1 * (low (x.1 * q.1) (x.2 * q.2)).2 * (Int.gcd (x.1 * q.1) (x.2 * q.2) : Int) = x.1 * (x.2 * q.2) := by rw [Int.mul_assoc, e2]
 rw [c1, c2, Int.mul_assoc, Int.mul_comm q.1]
 exact Int.mul_le_mul_of_nonneg_left (Int.mul_le_mul_of_nonneg_left q2 (by omega)) h1
set_option maxHeartbeats 1000000 in
theorem qaL (T : Nat) (x : Int × Int) (h1 : 0 ≤ x.1) (h2 : x.1 ≤ 12) (h3 : 1 ≤ x.2) (h4 : x.2 ≤ 4) (hT : T ≤ 7) (w : World) :
 Calls qf 45 #[fv x, .int .i64 T] w fun e w' => e = .returned (fv (jf x T)) ∧ Below w.heap.size w w' := by
 obtain ⟨q1, q2, q3, q4, q5⟩ := yS h1 h2 h3 h4 T hT
 have hlost := fun W => Ql T x h1 h2 h3 h4 hT W
 simp only [jf]
 generalize qJ x T = q at *
 have m1 : x.1 * q.2 ≤ 12 * q.2 := Int.mul_le_mul_of_nonneg_right h2 (by omega)
 have m2 : x.2 * q.2 ≤ 4 * q.2 := Int.mul_le_mul_of_nonneg_right h4 (by omega)
 have hminus := fun W => JK x q W h1 (by omega) q1 (by omega) (by omega) (by omega) q5
 simp only [fv] at *
 clear m1 m2 q5
 go_enter s45, ntmps45
 go_wp2_with fail
 go_region_held3 (fun w' => w'.cell? ⟨w.heap.size, 0, none⟩ = some (.int .i64 x.1) ∧ w'.cell? ⟨w.heap.size, 1, none⟩ = some (.int .i64 x.2) ∧ w'.frozen? ⟨w.heap.size + 1, 0, none⟩ = false ∧ w'.frozen? ⟨w.heap.size + 1, 1, none⟩ = false ∧
  w'.cell? ⟨w.heap.size + 1, 0, none⟩ = some (atD w' ⟨w.heap.size + 1, 0, none⟩) ∧ w'.cell? ⟨w.heap.size + 1, 1, none⟩ = some (atD w' ⟨w.heap.size + 1, 1, none⟩) ∧ Below w.heap.size w w')
  (first | exact ⟨by go_cell, by go_cell, by go_cell, by go_cell, qL (qw (v := .int .i64 0) (by go_cell)), qL (qw (v := .int .i64 0) (by go_cell)), by go_grown⟩ | exact held22 ‹_› hB | exact Xi _ _ ‹_› (by simp) (by simp)) (first | (go_at_call 44; refine (hlost _).mono ?_; rintro e w1 ⟨rfl, hB⟩) | (go_at_call 46; refine (hminus _).mono ?_; rintro e w1 ⟨rfl, hB⟩))
 go_wp2
 rename_i hH
 obtain ⟨c0, c1, hG⟩ := Xf hH
 exact yP results45 zQ zD rfl c0 c1 ⟨rfl, hG⟩
theorem ZG (T : Nat) (x : Int × Int) (h : yu x) (hT : T ≤ 7) (w : World) :
 Calls qf 42 #[fv x, .int .i64 T, .func (.func 45) #[] #[]] w fun e w' => e = .returned (tv (jf (low x.1 x.2) T) 0) ∧ Below w.heap.size w w' := by
 obtain ⟨k1, k2, k3, k4⟩ := xN h.1.1 h.1.2 h.2.1 h.2.2
 exact XE _ (fun args w => c45 args w) T x _ h hT (fun W => qaL T _ k1 k2 k3 k4 hT W) w
def jX (what : Int × Int → Nat → Int × Int) (x : Int × Int) (T : Int) : Value := if yu x ∧ 0 ≤ T ∧ T ≤ 7 then tv (what (low x.1 x.2) T.toNat) 0 else tv (0, 0) 1
theorem JE (T : Int) (x : Int × Int) (w : World) : Calls qf 42 #[fv x, .int .i64 T, .func (.func 43) #[] #[]] w fun e w' => e = .returned (jX qX x T) ∧ Below w.heap.size w w' := by
 unfold jX
 by_cases h : yu x ∧ 0 ≤ T ∧ T ≤ 7
 ·obtain ⟨n, rfl⟩ := Int.eq_ofNat_of_zero_le h.2.1
  rw [if_pos h]
  exact Jb n x h.1 (by omega) w
 ·rw [if_neg h]; exact qbr _ T x h w
theorem qeZ (T : Int) (x : Int × Int) (w : World) : Calls qf 42 #[fv x, .int .i64 T, .func (.func 44) #[] #[]] w fun e w' => e = .returned (jX qJ x T) ∧ Below w.heap.size w w' := by
 unfold jX
 by_cases h : yu x ∧ 0 ≤ T ∧ T ≤ 7
 ·obtain ⟨n, rfl⟩ := Int.eq_ofNat_of_zero_le h.2.1
  rw [if_pos h]
  exact Jd n x h.1 (by omega) w
 ·rw [if_neg h]; exact qbr _ T x h w
theorem Jk (T : Int) (x : Int × Int) (w : World) : Calls qf 42 #[fv x, .int .i64 T, .func (.func 45) #[] #[]] w fun e w' => e = .returned (jX jf x T) ∧ Below w.heap.size w w' := by
 unfold jX
 by_cases h : yu x ∧ 0 ≤ T ∧ T ≤ 7
 ·obtain ⟨n, rfl⟩ := Int.eq_ofNat_of_zero_le h.2.1
  rw [if_pos h]
  exact ZG n x h.1 (by omega) w
 ·rw [if_neg h]; exact qbr _ T x h w
theorem ZR (what : Int × Int → Nat → Int × Int) (x : Int × Int) (T : Int) : ∃ r a, jX what x T = tv r a := by
 unfold jX; split <;> exact ⟨_, _, rfl⟩
set_option maxHeartbeats 1000000 in
theorem Loss_any (T : Int) (x : Int × Int) (w : World) : Calls qf 15 #[fv x, .int .i64 T] w fun e w' => e = .returned (jX qX x T) ∧ Below w.heap.size w w' := by
 have ht := fun W => JE T x W
 obtain ⟨r, a, hr⟩ := ZR qX x T
 simp only [hr] at ht ⊢
 simp only [fv, tv] at *
 go_enter s15, ntmps15
 go_wp2_with (go_at_call 42; (with_reducible refine (ht _).mono ?_); rintro e w1 ⟨rfl, hB1⟩; (first | (replace hB := Below.call (by with_reducible assumption) hB1 (Nat.le_refl _)) | (replace hB := Below.call (by go_grown) hB1 (Nat.le_refl _)) | (have hB := hB1)); (try clear hc hg hz); obtain ⟨hc, hg⟩ := qy hB; have hz := hB.size; clear hB1; (try simp at hz); (try have hlt0 : w.heap.size < w1.heap.size := by omega))
 have c0 : w1.cell? ⟨w.heap.size + 1, 0, none⟩ = some (.int .i64 0) := by rw [hc _ _ (by simp)]; go_cell
 have c1 : w1.cell? ⟨w.heap.size + 1, 1, none⟩ = some (.int .i64 0) := by rw [hc _ _ (by simp)]; go_cell
 have hp := Zb (.int .i64 r.1) (.int .i64 r.2) c0 c1
 refine bodyPost_ret (qU results15 rfl rfl (yG ze qP hp.1 hp.2)) rfl ⟨rfl, ?_⟩
 exact ((Below.call (B := w.heap.size) (by go_grown) hB (Nat.le_refl _)).setCell (by simp) _).setCell (by simp) _
set_option maxHeartbeats 1000000 in
theorem XH (T : Int) (x : Int × Int) (w : World) : Calls qf 16 #[fv x, .int .i64 T] w fun e w' => e = .returned (jX qJ x T) ∧ Below w.heap.size w w' := by
 have ht := fun W => qeZ T x W
 obtain ⟨r, a, hr⟩ := ZR qJ x T
 simp only [hr] at ht ⊢
 simp only [fv, tv] at *
 go_enter s16, ntmps16
 go_wp2_with (go_at_call 42; (with_reducible refine (ht _).mono ?_); rintro e w1 ⟨rfl, hB1⟩; (first | (replace hB := Below.call (by with_reducible assumption) hB1 (Nat.le_refl _)) | (replace hB := Below.call (by go_grown) hB1 (Nat.le_refl _)) | (have hB := hB1)); (try clear hc hg hz); obtain ⟨hc, hg⟩ := qy hB; have hz := hB.size; clear hB1; (try simp at hz); (try have hlt0 : w.heap.size < w1.heap.size := by omega))
 have c0 : w1.cell? ⟨w.heap.size + 1, 0, none⟩ = some (.int .i64 0) := by rw [hc _ _ (by simp)]; go_cell
 have c1 : w1.cell? ⟨w.heap.size + 1, 1, none⟩ = some (.int .i64 0) := by rw [hc _ _ (by simp)]; go_cell
 have hp := Zb (.int .i64 r.1) (.int .i64 r.2) c0 c1
 refine bodyPost_ret (qU results16 rfl rfl (yG ze qP hp.1 hp.2)) rfl ⟨rfl, ?_⟩
 exact ((Below.call (B := w.heap.size) (by go_grown) hB (Nat.le_refl _)).setCell (by simp) _).setCell (by simp) _
set_option maxHeartbeats 1000000 in
theorem qaM (T : Int) (x : Int × Int) (w : World) : Calls qf 17 #[fv x, .int .i64 T] w fun e w' => e = .returned (jX jf x T) ∧ Below w.heap.size w w' := by
 have ht := fun W => Jk T x W
 obtain ⟨r, a, hr⟩ := ZR jf x T
 simp only [hr] at ht ⊢
 simp only [fv, tv] at *
 go_enter s17, ntmps17
 go_wp2_with (go_at_call 42; (with_reducible refine (ht _).mono ?_); rintro e w1 ⟨rfl, hB1⟩; (first | (replace hB := Below.call (by with_reducible assumption) hB1 (Nat.le_refl _)) | (replace hB := Below.call (by go_grown) hB1 (Nat.le_refl _)) | (have hB := hB1)); (try clear hc hg hz); obtain ⟨hc, hg⟩ := qy hB; have hz := hB.size; clear hB1; (try simp at hz); (try have hlt0 : w.heap.size < w1.heap.size := by omega))
 have c0 : w1.cell? ⟨w.heap.size + 1, 0, none⟩ = some (.int .i64 0) := by rw [hc _ _ (by simp)]; go_cell
 have c1 : w1.cell? ⟨w.heap.size + 1, 1, none⟩ = some (.int .i64 0) := by rw [hc _ _ (by simp)]; go_cell
 have hp := Zb (.int .i64 r.1) (.int .i64 r.2) c0 c1
 refine bodyPost_ret (qU results17 rfl rfl (yG ze qP hp.1 hp.2)) rfl ⟨rfl, ?_⟩
 exact ((Below.call (B := w.heap.size) (by go_grown) hB (Nat.le_refl _)).setCell (by simp) _).setCell (by simp) _
def overN (m n : Int) (x : Int × Int) : Value := if (0 ≤ m ∧ m ≤ 7) ∧ 0 ≤ n ∧ n ≤ 7 then jX qX x (m + n) else tv (0, 0) 1
set_option maxHeartbeats 1000000 in
theorem Over_any (m n : Int) (x : Int × Int) (w : World) : Calls qf 20 #[.int .i64 m, .int .i64 n, fv x] w fun e w' => e = .returned (overN m n x) ∧ Below w.heap.size w w' := by
 unfold overN
 by_cases hm : 0 ≤ m ∧ m ≤ 7
 ·by_cases hn : 0 ≤ n ∧ n ≤ 7
  ·rw [if_pos ⟨hm, hn⟩]
   have ht := fun W => JE (m + n) x W
   obtain ⟨r, a, hr⟩ := ZR qX x (m + n)
   simp only [hr] at ht ⊢
   simp only [fv, tv] at *
   go_enter s20, ntmps20
   go_wp2_with (first | (go_at_call 42; (with_reducible refine (ht _).mono ?_); rintro e w1 ⟨rfl, hB1⟩; (first | (replace hB := Below.call (by with_reducible assumption) hB1 (Nat.le_refl _)) | (replace hB := Below.call (by go_grown) hB1 (Nat.le_refl _)) | (have hB := hB1)); (try clear hc hg hz); obtain ⟨hc, hg⟩ := qy hB; have hz := hB.size; clear hB1; (try simp at hz); (try have hlt0 : w.heap.size < w1.heap.size := by omega)) | (go_at_call 50; (with_reducible refine (zM _ _ hm).mono ?_); rintro e w1 ⟨rfl, rfl⟩) | (go_at_call 50; (with_reducible refine (zM _ _ hn).mono ?_); rintro e w1 ⟨rfl, rfl⟩))
   have c0 : w1.cell? ⟨w.heap.size + 1, 0, none⟩ = some (.int .i64 0) := by rw [hc _ _ (by simp)]; go_cell
   have c1 : w1.cell? ⟨w.heap.size + 1, 1, none⟩ = some (.int .i64 0) := by rw [hc _ _ (by simp)]; go_cell
   have hp := Zb (.int .i64 r.1) (.int .i64 r.2) c0 c1
   refine bodyPost_ret (qU results20 rfl rfl (yG ze qP hp.1 hp.2)) rfl ⟨rfl, ?_⟩
   exact ((Below.call (B := w.heap.size) (by go_grown) hB (Nat.le_refl _)).setCell (by simp) _).setCell (by simp) _
  ·rw [if_neg (fun h => hn h.2)]
   simp only [fv, tv] at *
   go_enter s20, ntmps20
   go_wp2_with (first | (go_at_call 50; (with_reducible refine (zM _ _ hm).mono ?_); rintro e w1 ⟨rfl, rfl⟩) | (go_at_call 50; (with_reducible refine (jd _ _ hn).mono ?_); rintro e w1 ⟨rfl, rfl⟩))
   go_returns
   exact ⟨rfl, by go_grown⟩
 ·rw [if_neg (fun h => hm h.1)]
  simp only [fv, tv] at *
  go_enter s20, ntmps20
  go_wp2_with (first | (go_at_call 50; (with_reducible refine (jd _ _ hm).mono ?_); rintro e w1 ⟨rfl, rfl⟩))
  go_returns
  exact ⟨rfl, by go_grown⟩
end Go.Proofs.Tryz
namespace Go.Proofs.Tryz
open Go Go.Load Go.RowKit Go.Instr
def kv (x : Int × Int) (T : Nat) : Value := .agg #[.int .i64 x.1, .int .i64 x.2, .int .i64 T]
theorem ck (e : Bool) (a b c : Int) (w : World) : (checkKey e 10000 149 (.agg #[.int .i64 a, .int .i64 b, .int .i64 c])).run qf w = .ok () w := by kernel_rfl
theorem sq151 : qf.underlying 149 = some (.struct (qf.fieldsOf 149)) := by kernel_rfl
theorem sp74 : qf.underlying 72 = some (.struct (qf.fieldsOf 72)) := by kernel_rfl
theorem hq151 : qf.stoodInHeld 149 = false := by kernel_rfl
theorem hp74 : qf.stoodInHeld 72 = false := by kernel_rfl
theorem eqp (d : Nat) (a b a' b' : Int) (w : World) : (Op.equalIn (d + 2) 72 (.agg #[.int .i64 a, .int .i64 b]) (.agg #[.int .i64 a', .int .i64 b'])).run qf w = .ok (a == a' && b == b') w := by
 rw [run_equalIn_agg w (d + 1) 72 _ _ sp74 hp74]
 have e0 : (Op.eqFields (d + 1) #[.int .i64 a, .int .i64 b] #[.int .i64 a', .int .i64 b'] (qf.fieldsOf 72).toList).run qf w = (if (!(a == a')) = true then (pure false : Sem Bool) else Op.eqFields (d + 1) #[.int .i64 a, .int .i64 b] #[.int .i64 a', .int .i64 b'] (qf.fieldsOf 72).toList.tail).run qf w := by kernel_rfl
 rw [e0]
 cases h : (a == a') with
 | false => simp
 | true =>
   have e1 : (Op.eqFields (d + 1) #[.int .i64 a, .int .i64 b] #[.int .i64 a', .int .i64 b'] (qf.fieldsOf 72).toList.tail).run qf w = (if (!(b == b')) = true then (pure false : Sem Bool) else pure true).run qf w := by kernel_rfl
   simp only [Bool.not_true, Bool.false_eq_true, if_false]
   rw [e1]
   cases h : (b == b') <;> simp
theorem eqk (a b c a' b' c' : Int) (w : World) : (Op.equal 149 (.agg #[.int .i64 a, .int .i64 b, .int .i64 c]) (.agg #[.int .i64 a', .int .i64 b', .int .i64 c'])).run qf w = .ok ((a == a' && b == b') && c == c') w := by
 show (Op.equalIn (9999 + 1) 149 _ _).run qf w = _
 rw [run_equalIn_agg w 9999 149 _ _ sq151 hq151]
 have e0 : (Op.eqFields 9999 #[.int .i64 a, .int .i64 b, .int .i64 c] #[.int .i64 a', .int .i64 b', .int .i64 c'] (qf.fieldsOf 149).toList).run qf w = (Op.equalIn 9999 72 (.agg #[.int .i64 a, .int .i64 b]) (.agg #[.int .i64 a', .int .i64 b']) >>= fun r => if (!r) = true then (pure false : Sem Bool) else Op.eqFields 9999 #[.int .i64 a, .int .i64 b, .int .i64 c] #[.int .i64 a', .int .i64 b', .int .i64 c'] (qf.fieldsOf 149).toList.tail).run qf w := by kernel_rfl
 rw [e0, Sem.run_bind, show (9999 : Nat) = 9997 + 2 from rfl, eqp, Result.andThen_ok]
 cases h : (a == a' && b == b') with
 | false => simp
 | true =>
   have e1 : (Op.eqFields (9997 + 2) #[.int .i64 a, .int .i64 b, .int .i64 c] #[.int .i64 a', .int .i64 b', .int .i64 c'] (qf.fieldsOf 149).toList.tail).run qf w = (if (!(c == c')) = true then (pure false : Sem Bool) else pure true).run qf w := by kernel_rfl
   simp only [Bool.not_true, Bool.false_eq_true, if_false]
   rw [e1]
   cases h : (c == c') <;> simp
theorem eqkv (p q : (Int × Int) × Nat) (w : World) : (Op.equal 149 (kv p.1 p.2) (kv q.1 q.2)).run qf w = .ok (decide (p = q)) w := by
 obtain ⟨⟨a, b⟩, c⟩ := p
 obtain ⟨⟨a', b'⟩, c'⟩ := q
 have e : ((a == a' && b == b') && (c : Int) == (c' : Int)) = decide (((a, b), c) = ((a', b'), c')) := by
  rw [Bool.eq_iff_iff]
  simp only [Bool.and_eq_true, beq_iff_eq, decide_eq_true_eq, Prod.mk.injEq, Int.natCast_inj]
 show (Op.equal 149 (.agg #[.int .i64 a, .int .i64 b, .int .i64 c]) (.agg #[.int .i64 a', .int .i64 b', .int .i64 c'])).run qf w = _
 rw [eqk, e]
def Ents (es : List MapEntry) (L : List ((Int × Int) × Nat)) : Prop := es.map (fun e => (e.key, e.val)) = L.map fun p => (kv p.1 p.2, fv (qJ p.1 p.2))
theorem qbY (p : (Int × Int) × Nat) : ∀ (es : List MapEntry) (L : List ((Int × Int) × Nat)) (i : Nat) (w : World), Ents es L → ∃ r, (findAsking 149 (kv p.1 p.2) es i).run qf w = .ok r w ∧ (p ∈ L → ∃ j, r = some (j, fv (qJ p.1 p.2))) ∧ (p ∉ L → r = none)
 | [], L, i, w, h => by
   cases L with
   | nil => exact ⟨none, rfl, (fun h => absurd h List.not_mem_nil), fun _ => rfl⟩
   | cons q L => simp [Ents] at h
 | e :: es, L, i, w, h => by
   cases L with
   | nil => simp [Ents] at h
   | cons q L =>
     simp only [Ents, List.map_cons, List.cons.injEq, Prod.mk.injEq] at h
     obtain ⟨⟨hk, hv⟩, ht⟩ := h
     obtain ⟨r, h1, h2, h3⟩ := qbY p es L (i + 1) w ht
     unfold findAsking
     rw [Sem.run_bind, hk, eqkv, Result.andThen_ok]
     by_cases hpq : p = q
     ·subst hpq
      exact ⟨_, by rw [if_pos (by simp)]; rfl, fun _ => ⟨i, by rw [hv]⟩, fun h => absurd List.mem_cons_self h⟩
     ·refine ⟨r, by rw [if_neg (by simpa using hpq)]; exact h1, fun h => h2 ?_, fun h => h3 fun h' => h (List.mem_cons_of_mem _ h')⟩
      rcases List.mem_cons.1 h with h | h
      ·exact absurd h hpq
      ·exact h
theorem Yf (p : (Int × Int) × Nat) (es : List MapEntry) (L : List ((Int × Int) × Nat)) (w : World) (h : Ents es L) : ∃ r, (findKey 149 (kv p.1 p.2) es).run qf w = .ok r w ∧ (p ∈ L → ∃ j, r = some (j, fv (qJ p.1 p.2))) ∧ (p ∉ L → r = none) := by
 unfold findKey
 rw [Sem.run_bind]
 rw [run_underlying sq151, Result.andThen_ok]
 cases es with
 | nil =>
   cases L with
   | nil => exact ⟨none, rfl, (fun h => absurd h List.not_mem_nil), fun _ => rfl⟩
   | cons q L => simp [Ents] at h
 | cons e es => exact qbY p (e :: es) L 0 w h
def Jg (W : World) (m : Nat) (L : List ((Int × Int) × Nat)) : Prop := ∃ es clock, W.heap[m]? = some (.map es clock) ∧ Ents es.toList L
theorem qcz {W : World} {m : Nat} {L : List ((Int × Int) × Nat)} (h : Jg W m L) (x : Int × Int) (T : Nat) : (Instr.lookup 76 (.map (some m)) (.agg #[.int .i64 x.1, .int .i64 x.2, .int .i64 T]) true).run qf W = .ok (if (x, T) ∈ L then .tuple #[fv (qJ x T), .bool true] else .tuple #[fv (0, 0), .bool false]) W := by
 obtain ⟨es, clock, h1, h2⟩ := h
 obtain ⟨r, hr, h3, h4⟩ := Yf (x, T) es.toList L W h2
 unfold Instr.lookup
 have hu : (Go.underlying 76).run qf W = .ok (.map 149 72) W := by kernel_rfl
 have hg : (getObj m).run qf W = .ok (.map es clock) W := by simp [getObj, Sem.run, h1]
 have hz : (zeroValue 72).run qf W = .ok (fv (0, 0)) W := by kernel_rfl
 simp only [Sem.run_bind, hu, hg, Result.andThen_ok, Sem.run_pure, ck]
 show ((findKey 149 (kv x T) es.toList).run qf W).andThen _ = _
 rw [hr, Result.andThen_ok]
 by_cases hm : (x, T) ∈ L
 ·obtain ⟨j, rfl⟩ := h3 hm
  simp [hm]
 ·obtain rfl := h4 hm
  simp [hm, hz]
theorem qdf {W : World} {m : Nat} {L : List ((Int × Int) × Nat)} (h : Jg W m L) (x : Int × Int) (T : Nat) (hn : (x, T) ∉ L) : ∃ W1, (Instr.mapUpdate 76 (.map (some m)) (.agg #[.int .i64 x.1, .int .i64 x.2, .int .i64 T]) (fv (qJ x T))).run qf W = .ok () W1 ∧ Jg W1 m (L ++ [(x, T)]) ∧ W.grownBy W1 (some m) ∧ W1.heap.size = W.heap.size := by
 obtain ⟨es, clock, h1, h2⟩ := h
 obtain ⟨r, hr, h3, h4⟩ := Yf (x, T) es.toList L W h2
 obtain rfl := h4 hn
 have hu : (Go.underlying 76).run qf W = .ok (.map 149 72) W := by kernel_rfl
 have hg : (getObj m).run qf W = .ok (.map es clock) W := by simp [getObj, Sem.run, h1]
 have hlt : m < W.heap.size := (Array.getElem?_eq_some_iff.1 h1).1
 refine ⟨W.putObj m (.map (es.push { key := kv x T, val := fv (qJ x T), born := clock }) (clock + 1)), ?_, ⟨_, _, World.putObj_heap_same hlt, ?_⟩, grownBy_putObj' W _ _, by simp [World.putObj]⟩
 ·unfold Instr.mapUpdate
  simp only [Sem.run_bind, hu, hg, Result.andThen_ok, ck]
  show ((findKey 149 (kv x T) es.toList).run qf W).andThen _ = _
  rw [hr, Result.andThen_ok]
  show (setObj m _).run qf W = _
  unfold setObj
  simp [Sem.run, h1, World.putObj]
  rfl
 ·unfold Ents at h2 ⊢
  simp [h2]
def Zw (m : Nat) (w w' : World) : Prop := (∃ L, Jg w' m L) ∧ w.grownBy w' (some m)
theorem Jg.block {W W1 : World} {m : Nat} {L : List ((Int × Int) × Nat)} (h : Jg W m L) (e : W1.heap[m]? = W.heap[m]?) : Jg W1 m L := by
 obtain ⟨es, c, h1, h2⟩ := h
 exact ⟨es, c, e.trans h1, h2⟩
theorem Jg.lt {W : World} {m : Nat} {L : List ((Int × Int) × Nat)} (h : Jg W m L) : m < W.heap.size := by
 obtain ⟨es, c, h1, h2⟩ := h
 exact (Array.getElem?_eq_some_iff.1 h1).1
theorem Jg.keep {W W1 : World} {m : Nat} {L : List ((Int × Int) × Nat)} (h : Jg W m L) (hB : Below W.heap.size W W1) : Jg W1 m L := h.block (hB.block m h.lt)
theorem zL {w w1 w2 : World} {r : Option Nat} (h : w.grownBy w1 r) (k : w1.grownBy w2 r) : w.grownBy w2 r :=
 ⟨k.os.trans h.os, k.tape.trans h.tape, k.output.trans h.output, Nat.le_trans h.size k.size, fun b hb hr => (k.block b (Nat.lt_of_lt_of_le hb h.size) hr).trans (h.block b hb hr)⟩
theorem zi {w w1 : World} {r : Option Nat} (h : Below w.heap.size w w1) : w.grownBy w1 r := ⟨h.os, h.tape, h.output, h.size, fun k hk _ => h.block k hk⟩
theorem yD {w w1 : World} {r : Option Nat} (h : w.grownBy w1 r) {p : Addr} (hp : w.heap.size ≤ p.block) (v : Value) : w.grownBy (w1.setCell p v) r :=
 ⟨h.os, h.tape, h.output, by simpa using h.size, fun k hk hr => (Below.heap_setCell _ _ _ _ (by omega)).trans (h.block k hk hr)⟩
theorem qo {w w1 : World} {m : Nat} (h : w.grownBy w1 (some m)) {p : Addr} {v : Value} (hc : w.cell? p = some v) (hp : p.block ≠ m) : w1.cell? p = some v := h.cell hc (by simpa using hp)
theorem qA {w w1 : World} {m : Nat} (h : w.grownBy w1 (some m)) {p : Addr} {v : Value} (hc : w.cell? p = some v) (hf : w.frozen? p = false) (hp : p.block ≠ m) : w1.frozen? p = false :=
 (World.frozen?_of_block (w := w) (h.block p.block (lt_of_cell hc) (by simpa using hp))).trans hf
set_option maxHeartbeats 2000000 in
set_option maxRecDepth 100000 in
theorem lost_any (m : Nat) (L : List ((Int × Int) × Nat)) (T : Nat) (x : Int × Int) (h1 : 0 ≤ x.1) (h2 : x.1 ≤ 12) (h3 : 1 ≤ x.2) (h4 : x.2 ≤ 4) (hT : T ≤ 7) (w : World) (hL : Jg w m L) :
 Calls qf 102 #[.map (some m), fv x, .int .i64 T] w fun e w' => e = .returned (fv (qJ x T)) ∧ Zw m w w' := by
 have hlo := fun W => Ql T x h1 h2 h3 h4 hT W
 have hlt := hL.lt
 have HL := Lib.hid fun (W : World) (h : Jg W m L) => qcz h x T
 have HU := Lib.hid fun (W : World) (h : Jg W m L) (hn : (x, T) ∉ L) => qdf h x T hn
 generalize qJ x T = r at *
 simp only [fv] at *
 have HM := Lib.hid hL
 clear hL
 have pre : ∀ {W : World}, Below w.heap.size w W → Zw m w W := fun hB => ⟨⟨L, HM.out.keep hB⟩, zi hB⟩
 by_cases hin : (x, T) ∈ L
 ·go_enter s102, ntmps102
  go_wp2
  obtain ⟨W, hW⟩ : ∃ W, ((w.alloc (Obj.cells #[.int .i64 x.1, .int .i64 x.2] 72)).alloc (Obj.cells #[.int .i64 0, .int .i64 0] 72)).alloc (Obj.cells #[.int .i64 x.1, .int .i64 x.2, .int .i64 T] 149) = W := ⟨_, rfl⟩
  have hB : Below w.heap.size w W := by subst hW; go_grown
  have c0 : W.cell? ⟨w.heap.size + 1, 0, none⟩ = some (.int .i64 0) := by subst hW; go_cell
  have c1 : W.cell? ⟨w.heap.size + 1, 1, none⟩ = some (.int .i64 0) := by subst hW; go_cell
  have f0 : W.frozen? ⟨w.heap.size + 1, 0, none⟩ = false := by subst hW; go_cell
  have f1 : W.frozen? ⟨w.heap.size + 1, 1, none⟩ = false := by subst hW; go_cell
  have hs : w.heap.size + 1 < W.heap.size := by subst hW; simp
  rw [hW]
  clear hW
  rw [HL.out W (HM.out.keep hB), if_pos hin]
  go_wp2
  have hp := Zb (.int .i64 r.1) (.int .i64 r.2) c0 c1
  refine bodyPost_ret (QM results102 rfl (yG zQ zD (qi hp.1) (qi hp.2))) rfl ⟨rfl, pre ?_⟩
  exact ((hB.setCell (p := ⟨w.heap.size + 1, 0, none⟩) (Nat.le_succ _) _).setCell (p := ⟨w.heap.size + 1, 1, none⟩) (Nat.le_succ _) _).alloc (by simp; omega) _
 ·go_enter s102, ntmps102
  go_wp2
  obtain ⟨W, hW⟩ : ∃ W, ((w.alloc (Obj.cells #[.int .i64 x.1, .int .i64 x.2] 72)).alloc (Obj.cells #[.int .i64 0, .int .i64 0] 72)).alloc (Obj.cells #[.int .i64 x.1, .int .i64 x.2, .int .i64 T] 149) = W := ⟨_, rfl⟩
  have hB : Below w.heap.size w W := by subst hW; go_grown
  have a0 : W.cell? ⟨w.heap.size, 0, none⟩ = some (.int .i64 x.1) := by subst hW; go_cell
  have a1 : W.cell? ⟨w.heap.size, 1, none⟩ = some (.int .i64 x.2) := by subst hW; go_cell
  have c0 : W.cell? ⟨w.heap.size + 1, 0, none⟩ = some (.int .i64 0) := by subst hW; go_cell
  have c1 : W.cell? ⟨w.heap.size + 1, 1, none⟩ = some (.int .i64 0) := by subst hW; go_cell
  have f0 : W.frozen? ⟨w.heap.size + 1, 0, none⟩ = false := by subst hW; go_cell
  have f1 : W.frozen? ⟨w.heap.size + 1, 1, none⟩ = false := by subst hW; go_cell
  have q0 : W.cell? ⟨w.heap.size + 1 + 1, 0, none⟩ = some (.int .i64 x.1) := by subst hW; go_cell
  have q1 : W.cell? ⟨w.heap.size + 1 + 1, 1, none⟩ = some (.int .i64 x.2) := by subst hW; go_cell
  have q2 : W.cell? ⟨w.heap.size + 1 + 1, 2, none⟩ = some (.int .i64 T) := by subst hW; go_cell
  have hs : w.heap.size + 1 + 1 < W.heap.size := by subst hW; simp
  have hs1 : w.heap.size + 1 < W.heap.size := by omega
  have hs2 : w.heap.size < W.heap.size := by omega
  rw [hW]
  clear hW
  rw [HL.out W (HM.out.keep hB), if_neg hin]
  go_wp2_with (go_at_call 44; refine (hlo _).mono ?_; rintro e w1 ⟨rfl, hB1⟩; have z0 := qb ⟨W.heap.size, 0, none⟩ hB1 (v := .int .i64 0) (by go_cell); have z1 := qb ⟨W.heap.size, 1, none⟩ hB1 (v := .int .i64 0) (by go_cell); have y0 := qg ⟨W.heap.size, 0, none⟩ hB1 (v := .int .i64 0) (by go_cell) (by go_cell); have y1 := qg ⟨W.heap.size, 1, none⟩ hB1 (v := .int .i64 0) (by go_cell) (by go_cell); have c0 := qb _ hB1 (qi c0); have c1 := qb _ hB1 (qi c1); have f0 := qg _ hB1 (qi ‹W.cell? ⟨w.heap.size + 1, 0, none⟩ = _›) (qm ‹W.cell? ⟨w.heap.size + 1, 0, none⟩ = _› f0); have f1 := qg _ hB1 (qi ‹W.cell? ⟨w.heap.size + 1, 1, none⟩ = _›) (qm ‹W.cell? ⟨w.heap.size + 1, 1, none⟩ = _› f1); have q0 := qb _ hB1 (qi q0); have q1 := qb _ hB1 (qi q1); have q2 := qb _ hB1 (qi q2); have hz := hB1.size; simp at hz; have hBx := Below.call (B := w.heap.size) (by go_grown) hB1 (Nat.le_refl _))
  obtain ⟨W2, hW2⟩ : ∃ W2, (w1.setCell ⟨W.heap.size, 0, none⟩ (.int .i64 r.1)).setCell ⟨W.heap.size, 1, none⟩ (.int .i64 r.2) = W2 := ⟨_, rfl⟩
  have hB2 : Below w.heap.size w W2 := by subst hW2; exact (hBx.setCell (by simp <;> omega) _).setCell (by simp <;> omega) _
  have z0' : W2.cell? ⟨W.heap.size, 0, none⟩ = some (.int .i64 r.1) := by subst hW2; exact (Zb _ _ z0 z1).1
  have z1' : W2.cell? ⟨W.heap.size, 1, none⟩ = some (.int .i64 r.2) := by subst hW2; exact (Zb _ _ z0 z1).2
  have nq : ∀ i j k, k ≠ W.heap.size → (⟨W.heap.size, i, none⟩ : Addr) ≠ ⟨k, j, none⟩ := fun i j k h e => h (congrArg Addr.block e).symm
  have c0 : W2.cell? ⟨w.heap.size + 1, 0, none⟩ = some (.int .i64 0) := by subst hW2; exact qc (nq _ _ _ (by omega)) (qc (nq _ _ _ (by omega)) c0)
  have c1 : W2.cell? ⟨w.heap.size + 1, 1, none⟩ = some (.int .i64 0) := by subst hW2; exact qc (nq _ _ _ (by omega)) (qc (nq _ _ _ (by omega)) c1)
  have f0 : W2.frozen? ⟨w.heap.size + 1, 0, none⟩ = false := by subst hW2; simpa using f0
  have f1 : W2.frozen? ⟨w.heap.size + 1, 1, none⟩ = false := by subst hW2; simpa using f1
  rw [hW2]
  obtain ⟨W3, h3, h4, h5, h6⟩ := HU.out W2 (HM.out.keep hB2) hin
  rw [h3]
  have hmw : m ≠ W.heap.size := by omega
  have hmw1 : m ≠ w.heap.size + 1 := by omega
  have z0' := qo h5 z0' (Ne.symm hmw)
  have z1' := qo h5 z1' (Ne.symm hmw)
  have f0 := qA h5 c0 f0 (Ne.symm hmw1)
  have f1 := qA h5 c1 f1 (Ne.symm hmw1)
  have c0 := qo h5 c0 (Ne.symm hmw1)
  have c1 := qo h5 c1 (Ne.symm hmw1)
  clear h3 hW2 hB1 hBx
  go_wp2
  refine yP results102 zQ zD rfl c0 c1 ⟨rfl, ⟨L ++ [(x, T)], ?_⟩, ?_⟩
  ·exact h4.block ((Below.heap_setCell _ _ _ _ (by simp <;> omega)).trans (Below.heap_setCell _ _ _ _ (by simp <;> omega)))
  ·exact yD (yD (zL (zi hB2) h5) (p := ⟨w.heap.size + 1, 0, none⟩) (Nat.le_succ _) _) (p := ⟨w.heap.size + 1, 1, none⟩) (Nat.le_succ _) _
theorem sp23 : qf.underlying 23 = some (.struct (qf.fieldsOf 23)) := by kernel_rfl
theorem hp23 : qf.stoodInHeld 23 = false := by kernel_rfl
theorem eqf (d : Nat) (a b a' b' : Int) (w : World) : (Op.equalIn (d + 2) 23 (.agg #[.int .i64 a, .int .i64 b]) (.agg #[.int .i64 a', .int .i64 b'])).run qf w = .ok (a == a' && b == b') w := by
 rw [run_equalIn_agg w (d + 1) 23 _ _ sp23 hp23]
 have e0 : (Op.eqFields (d + 1) #[.int .i64 a, .int .i64 b] #[.int .i64 a', .int .i64 b'] (qf.fieldsOf 23).toList).run qf w = (if (!(a == a')) = true then (pure false : Sem Bool) else Op.eqFields (d + 1) #[.int .i64 a, .int .i64 b] #[.int .i64 a', .int .i64 b'] (qf.fieldsOf 23).toList.tail).run qf w := by kernel_rfl
 rw [e0]
 cases h : (a == a') with
 | false => simp
 | true =>
   have e1 : (Op.eqFields (d + 1) #[.int .i64 a, .int .i64 b] #[.int .i64 a', .int .i64 b'] (qf.fieldsOf 23).toList.tail).run qf w = (if (!(b == b')) = true then (pure false : Sem Bool) else pure true).run qf w := by kernel_rfl
   simp only [Bool.not_true, Bool.false_eq_true, if_false]
   rw [e1]
   cases h : (b == b') <;> simp
@[go_sem] theorem eqf_run (a b a' b' : Int) (w : World) : (Op.equalIn 10000 23 (.agg #[.int .i64 a, .int .i64 b]) (.agg #[.int .i64 a', .int .i64 b'])).run qf w = .ok (a == a' && b == b') w := eqf 9998 a b a' b' w
@[go_sem] theorem neqf_run (a b a' b' : Int) (w : World) : (binOp .neq 23 (.agg #[.int .i64 a, .int .i64 b]) (.agg #[.int .i64 a', .int .i64 b'])).run qf w = .ok (.bool (!(a == a' && b == b'))) w := by
  rw [run_neq_struct, eqf_run]; rfl
theorem hm23 : qf.eqGuardType qf.depth 23 = false := by kernel_rfl
@[go_sem] theorem guardf_run (op : BinOp) (p q : Operand) (xs ys : Array Value) (w : World) : (eqGuard op 23 p q (.agg xs) (.agg ys)).run qf w = .ok () w := run_eqGuard_agg w op _ p q xs ys hm23
def xH (w : World) (v : Value) (L : List (Int × Int)) : Prop := ∃ a c, v = .slice a L.length c ∧ (1 ≤ L.length → ∃ b o, a = some ⟨b, o, none⟩ ∧ qO w b o L)
set_option maxHeartbeats 2000000 in
set_option maxRecDepth 100000 in
theorem jW (va vb : Value) (A B : List (Int × Int)) (w : World) (hA : xH w va A) (hB : xH w vb B) (h1 : A.length ≤ 100) (h2 : B.length ≤ 100) : Calls qf 30 #[va, vb] w fun e w' => e = .returned (.bool (decide (A = B))) ∧ Below w.heap.size w w' := by
 obtain ⟨aa, ca, rfl, ha⟩ := hA
 obtain ⟨ab, cb, rfl, hb⟩ := hB
 have HA := Lib.hid ha
 have HB := Lib.hid hb
 clear ha hb
 by_cases hl : A.length = B.length
 ·have hli : (A.length : Int) = (B.length : Int) := by omega
  have HL := Lib.hid hl
  clear hl
  go_enter s30, ntmps30
  go_wp2
  go_loopw [5] (fun i wr => ∃ k : Nat, i = .int .i64 k ∧ k ≤ A.length ∧ Below w.heap.size w wr ∧ Hid (∀ j, j < k → A[j]? = B[j]?)) (fun i _ => A.length - (intOf i).toNat)
  case atStart => exact ⟨0, rfl, by omega, .refl _ _, Lib.hid fun j hj => absurd hj (by omega)⟩
  case round =>
   obtain ⟨k, rfl, hk, hBr, HK⟩ := hrel
   have hk0 : (0 : Int) ≤ (k : Int) := Int.natCast_nonneg k
   by_cases l1 : k < A.length
   ·have l2 : k < B.length := by have := HL.out; omega
    obtain ⟨x, hx⟩ : ∃ x, A[k]? = some x := ⟨A[k], by simp [l1]⟩
    obtain ⟨y, hy⟩ : ∃ y, B[k]? = some y := ⟨B[k], by simp [l2]⟩
    obtain ⟨ba, oa, rfl, ra⟩ := HA.out (by omega)
    obtain ⟨bb, ob, rfl, rb⟩ := HB.out (by omega)
    obtain ⟨a0, a1⟩ := ra k x hx
    obtain ⟨b0, b1⟩ := rb k y hy
    have a0 := qb _ hBr a0
    have a1 := qb _ hBr a1
    have b0 := qb _ hBr b0
    have b1 := qb _ hBr b1
    have i1 : (k : Int) < (A.length : Int) := by omega
    have i2 : (k : Int) < (B.length : Int) := by omega
    have HX := Lib.hid (And.intro hx hy)
    clear ra rb hx hy hli
    by_cases e : x = y
    ·subst e
     have hq : (!(x.1 == x.1 && x.2 == x.2)) = false := by simp
     go_wp2
     go_region
     go_wp2
     go_roundw
     case rel => exact ⟨k + 1, rfl, by omega, (by first | exact hBr.drew | exact below_drewN hBr _ | go_grown), Lib.hid fun j hj => by
      by_cases e : j = k
      ·subst e; rw [HX.out.1, HX.out.2]
      ·exact HK.out j (by omega)⟩
     case measure => simp [intOf]; omega
    ·have hq : (x.1 == y.1 && x.2 == y.2) = false := by
      cases hq : (x.1 == y.1 && x.2 == y.2) with
      | false => rfl
      | true => simp at hq; exact absurd (Prod.ext hq.1 hq.2) e
     have HN : Hid (decide (A = B) = false) := Lib.hid (decide_eq_false fun h => e (by rw [h] at HX; exact Option.some.inj (HX.out.1.symm.trans HX.out.2)))
     go_wp2
     go_region
     go_wp2
     go_ret
     exact ⟨by rw [HN.out]; rfl, (by first | exact hBr.drew | exact below_drewN hBr _ | go_grown)⟩
   ·have i1 : ¬ (k : Int) < (A.length : Int) := by omega
    have HT : Hid (decide (A = B) = true) := Lib.hid (decide_eq_true (List.ext_getElem? fun j => by
     by_cases hj : j < k
     ·exact HK.out j hj
     ·rw [List.getElem?_eq_none (by omega), List.getElem?_eq_none (by have := HL.out; omega)]))
    go_wp2
    go_ret
    exact ⟨by rw [HT.out]; rfl, hBr⟩
 ·have hli : ((A.length : Int) != (B.length : Int)) = true := bne_iff_ne.2 (by omega)
  have HN : Hid (decide (A = B) = false) := Lib.hid (decide_eq_false fun e => hl (by rw [e]))
  clear hl
  go_enter s30, ntmps30
  go_wp2
  go_ret
  exact ⟨by rw [HN.out]; rfl, .refl _ _⟩
end Go.Proofs.Tryz
namespace Go.Proofs.Tryz
open Go Go.Load Go.RowKit
def qdh (a b : Nat) : Int × Int := (((a / Nat.gcd a b : Nat) : Int), ((b / Nat.gcd a b : Nat) : Int))
set_option maxHeartbeats 1000000 in
theorem Yb (a b : Nat) (w : World) (ha : a < 4611686018427387904) (hb : 1 ≤ b ∧ b < 4611686018427387904) : Calls qf 35 #[.int .i64 a, .int .i64 b] w fun e w' => e = .returned (fv (qdh a b)) ∧ Below w.heap.size w w' := by
 have HG : Hid (1 ≤ Nat.gcd a b) := Lib.hid (Nat.gcd_pos_of_pos_right _ hb.1)
 simp only [fv]
 go_enter s35, ntmps35
 go_wp2
 go_loopw [5, 6] (fun p q wr => ∃ u v : Nat, p = .int .i64 u ∧ q = .int .i64 v ∧ u < 4611686018427387904 ∧ v < 4611686018427387904 ∧ Hid (Nat.gcd u v = Nat.gcd a b) ∧ Below w.heap.size w wr ∧ wr.cell? ⟨w.heap.size, 0, none⟩ = some (.int .i64 0) ∧ wr.cell? ⟨w.heap.size, 1, none⟩ = some (.int .i64 0) ∧ wr.frozen? ⟨w.heap.size, 0, none⟩ = false ∧ wr.frozen? ⟨w.heap.size, 1, none⟩ = false) (fun _ q _ => (intOf q).toNat)
 case atStart => exact ⟨a, b, rfl, rfl, ha, hb.2, Lib.hid rfl, by go_grown, by go_cell, by go_cell, by go_cell, by go_cell⟩
 case round =>
  obtain ⟨u, v, rfl, rfl, hu, hv, HUV, hBr, c0, c1, f0, f1⟩ := hrel
  have hu0 : (0 : Int) ≤ (u : Int) := Int.natCast_nonneg u
  have hv0 : (0 : Int) ≤ (v : Int) := Int.natCast_nonneg v
  by_cases h : 0 < v
  ·have h1 : (0 : Int) < (v : Int) := by omega
   have h2 : ((v : Int) == 0) = false := by rw [beq_eq_false_iff_ne]; omega
   go_wp2
   go_region
   go_wp2
   go_roundw
   case rel => exact ⟨v, u % v, rfl, by rw [Int.natCast_emod], hv, Nat.lt_of_lt_of_le (Nat.mod_lt _ h) (by omega), Lib.hid (by rw [← HUV.out, Nat.gcd_comm v, ← Nat.gcd_rec, Nat.gcd_comm]), hBr.drew, c0, c1, f0, f1⟩
   case measure =>
    have := Nat.mod_lt u h
    have e : ((u : Int) % (v : Int)) = ((u % v : Nat) : Int) := (Int.natCast_emod u v).symm
    show ((u : Int) % (v : Int)).toNat < (v : Int).toNat
    rw [e, Int.toNat_natCast, Int.toNat_natCast]; exact this
  ·obtain rfl : v = 0 := by omega
   have hg : u = Nat.gcd a b := by rw [← HUV.out]; simp
   have hu1 : (1 : Int) ≤ (u : Int) := by have := HG.out; omega
   have hu2 : ((u : Int) == 0) = false := by rw [beq_eq_false_iff_ne]; omega
   have q0 := Int.ediv_nonneg (show (0 : Int) ≤ (a : Int) by omega) (show (0 : Int) ≤ (u : Int) by omega)
   have q1 := Int.ediv_le_self (u : Int) (show (0 : Int) ≤ (a : Int) by omega)
   have q2 := Int.ediv_nonneg (show (0 : Int) ≤ (b : Int) by omega) (show (0 : Int) ≤ (u : Int) by omega)
   have q3 := Int.ediv_le_self (u : Int) (show (0 : Int) ≤ (b : Int) by omega)
   have e1 : (qdh a b).1 = (a : Int) / (u : Int) := by rw [hg]; simp [qdh]
   have e2 : (qdh a b).2 = (b : Int) / (u : Int) := by rw [hg]; simp [qdh]
   have E1 := Lib.hid e1
   have E2 := Lib.hid e2
   have HQ := Lib.hid hg
   clear e1 e2
   clear hg
   go_wp2
   go_region
   go_wp2
   exact yP (w1 := wr.drew) (b := w.heap.size) (v0 := .int .i64 ((a : Int) / (u : Int))) (v1 := .int .i64 ((b : Int) / (u : Int))) results35 ze qP rfl c0 c1 ⟨by rw [E1.out, E2.out], (hBr.drew.setCell (Nat.le_refl _) _).setCell (Nat.le_refl _) _⟩
def qau (x : Int × Int) : Bool := x == qdh x.1.toNat x.2.toNat
abbrev qeY (w : World) (x : Int × Int) (X : World) : Prop := X.cell? ⟨w.heap.size, 0, none⟩ = some (.int .i64 x.1) ∧ X.cell? ⟨w.heap.size, 1, none⟩ = some (.int .i64 x.2) ∧ Below w.heap.size w X ∧ w.heap.size ≤ X.heap.size
theorem qeY.call {w X Y : World} {x : Int × Int} (h : qeY w x X) (hB : Below X.heap.size X Y) : qeY w x Y :=
 ⟨qb _ hB h.1, qb _ hB h.2.1, Below.call h.2.2.1 hB (Nat.le_refl _), Nat.le_trans h.2.2.2 hB.size⟩
set_option maxHeartbeats 4000000 in
set_option maxRecDepth 100000 in
theorem Jc (x : Int × Int) (w : World) (h1 : 0 ≤ x.1) (h2 : 0 < x.2) (h3 : x.1 < 4611686018427387904) (h4 : x.2 < 4611686018427387904) :
 Calls qf 7 #[fv x] w fun e w' => e = .returned (.bool (qau x)) ∧ Below w.heap.size w w' := by
 have hr := fun W => Yb x.1.toNat x.2.toNat W (by omega) (by omega)
 rw [Int.toNat_of_nonneg h1, Int.toNat_of_nonneg (Int.le_of_lt h2)] at hr
 have hF : qau x = (x.1 == (qdh x.1.toNat x.2.toNat).1 && x.2 == (qdh x.1.toNat x.2.toNat).2) := rfl
 rw [hF]
 clear hF
 generalize qdh x.1.toNat x.2.toNat = r at hr ⊢
 obtain ⟨a, b⟩ := x
 simp only [fv] at *
 go_enter s7, ntmps7
 go_wp2_with fail
 go_region_held3 (qeY w (a, b)) (first | exact ⟨by go_cell, by go_cell, by go_grown, by simp⟩ | exact qeY.call ‹_› hB) (first | (go_at_call 35; refine (hr _).mono ?_; rintro e wx ⟨rfl, hB⟩))
 all_goals (rename_i hH; go_wp2; go_ret; exact ⟨rfl, hH.2.2.1⟩)
def okF (x : Int × Int) : Prop := 0 ≤ x.1 ∧ x.1 ≤ x.2 ∧ 0 < x.2 ∧ x.2 ≤ 8589934592
instance (x : Int × Int) : Decidable (okF x) := by unfold okF; infer_instance
set_option maxHeartbeats 1000000 in
theorem qeI (x y : Int × Int) (w : World) (h1 : 0 ≤ x.1) (h2 : 0 < x.2) (h3 : 0 ≤ y.1) (h4 : 0 < y.2) (h5 : x.1 * y.2 < 4611686018427387904) (h6 : x.2 * y.2 < 4611686018427387904) (h7 : y.1 * x.2 ≤ x.1 * y.2) :
 Calls qf 36 #[fv x, fv y] w fun e w' => e = .returned (fv (qdh (x.1 * y.2 - y.1 * x.2).toNat (x.2 * y.2).toNat)) ∧ Below w.heap.size w w' := by
 obtain ⟨a, b⟩ := x
 obtain ⟨c, d⟩ := y
 simp only at h1 h2 h3 h4 h5 h6 h7
 have m1 := Int.mul_nonneg h1 (Int.le_of_lt h4)
 have m2 := Int.mul_pos h2 h4
 have m3 := Int.mul_nonneg h3 (Int.le_of_lt h2)
 have hr := fun W => Yb (a * d - c * b).toNat (b * d).toNat W (by omega) (by omega)
 rw [Int.toNat_of_nonneg (show 0 ≤ a * d - c * b by omega), Int.toNat_of_nonneg (show 0 ≤ b * d by omega)] at hr
 simp only [fv] at *
 go_enter s36, ntmps36
 go_wp2_with (go_at_call 35; refine (hr _).mono ?_; rintro e w1 ⟨rfl, hB⟩; have c0 := qb ⟨w.heap.size + 2, 0, none⟩ hB (v := .int .i64 0) (by go_cell); have c1 := qb ⟨w.heap.size + 2, 1, none⟩ hB (v := .int .i64 0) (by go_cell); have f0 := qg ⟨w.heap.size + 2, 0, none⟩ hB (v := .int .i64 0) (by go_cell) (by go_cell); have f1 := qg ⟨w.heap.size + 2, 1, none⟩ hB (v := .int .i64 0) (by go_cell) (by go_cell))
 refine yP results36 ze qP rfl c0 c1 ⟨rfl, ?_⟩
 exact ((Below.call (by go_grown) hB (Nat.le_refl _)).setCell (by simp <;> omega) _).setCell (by simp <;> omega) _
set_option maxHeartbeats 6000000 in
theorem Jf (x y : Int × Int) (w : World) (h1 : 0 ≤ x.1) (h2 : 0 < x.2) (h3 : 0 ≤ y.1) (h4 : 0 < y.2) (h5 : x.1 < 4611686018427387904) (h6 : x.2 < 4611686018427387904) (h7 : y.1 < 4611686018427387904) (h8 : y.2 < 4611686018427387904) :
 Calls qf 11 #[fv x, fv y] w fun e w' => e = .returned (.bool (above y x)) ∧ Below w.heap.size w w' := by
 obtain ⟨a0, b0⟩ := x
 obtain ⟨c0, d0⟩ := y
 simp only [fv] at *
 go_enter s11, ntmps11
 go_wp2
 go_loopw [] (fun wr => ∃ a b c d : Int, 0 ≤ a ∧ 0 < b ∧ 0 ≤ c ∧ 0 < d ∧ a < 4611686018427387904 ∧ b < 4611686018427387904 ∧ c < 4611686018427387904 ∧ d < 4611686018427387904 ∧ Hid (above (c, d) (a, b) = above (c0, d0) (a0, b0)) ∧
  wr.cell? ⟨w.heap.size, 0, none⟩ = some (.int .i64 a) ∧ wr.cell? ⟨w.heap.size, 1, none⟩ = some (.int .i64 b) ∧ wr.cell? ⟨w.heap.size + 1, 0, none⟩ = some (.int .i64 c) ∧ wr.cell? ⟨w.heap.size + 1, 1, none⟩ = some (.int .i64 d) ∧
  wr.frozen? ⟨w.heap.size, 0, none⟩ = false ∧ wr.frozen? ⟨w.heap.size, 1, none⟩ = false ∧ wr.frozen? ⟨w.heap.size + 1, 0, none⟩ = false ∧ wr.frozen? ⟨w.heap.size + 1, 1, none⟩ = false ∧ w.heap.size + 2 ≤ wr.heap.size ∧ Below w.heap.size w wr)
  (fun wr => cellNat wr ⟨w.heap.size, 1, none⟩ + cellNat wr ⟨w.heap.size + 1, 1, none⟩)
 case atStart => exact ⟨a0, b0, c0, d0, h1, h2, h3, h4, h5, h6, h7, h8, Lib.hid rfl, by go_cell, by go_cell, by go_cell, by go_cell, by go_cell, by go_cell, by go_cell, by go_cell, by simp, by go_grown⟩
 case round =>
  clear h1 h2 h3 h4 h5 h6 h7 h8
  obtain ⟨a, b, c, d, h1, h2, h3, h4, h5, h6, h7, h8, HA, k0, k1, k2, k3, g0, g1, g2, g3, hsz, hB⟩ := hrel
  have e1 := Int.ediv_nonneg h1 (Int.le_of_lt h2)
  have e2 := Int.ediv_nonneg h3 (Int.le_of_lt h4)
  have e3 := Int.ediv_le_self b h1
  have e4 := Int.ediv_le_self d h3
  have e5 := Int.emod_nonneg a (Int.ne_of_gt h2)
  have e6 := Int.emod_lt_of_pos a h2
  have e7 := Int.emod_nonneg c (Int.ne_of_gt h4)
  have e8 := Int.emod_lt_of_pos c h4
  have n1 : (b == 0) = false := by rw [beq_eq_false_iff_ne]; omega
  have n2 : (d == 0) = false := by rw [beq_eq_false_iff_ne]; omega
  go_wp2
  go_region
  all_goals go_wp2
  all_goals go_region
  all_goals go_wp2
  ·have hne : (a / b != c / d) = true := by assumption
   have hne' : c / d ≠ a / b := fun e => by simp [e] at hne
   go_returns
   refine ⟨?_, (hB.drew).drew⟩
   rw [← HA.out]
   unfold above
   simp only [qbu h4 h2 hne']
   rfl
  ·have heq : (a / b != c / d) = false := by assumption
   have heq' : c / d = a / b := (bne_eq_false_iff_eq.1 heq).symm
   have z1 : a % b = 0 := by assumption
   go_returns
   refine ⟨?_, (hB.drew).drew⟩
   rw [← HA.out]
   unfold above
   simp only [ZN h4 h2 heq', z1, Int.zero_mul]
   have : (0 < c % d * b) ↔ (0 < c % d) := ⟨fun h => (Int.lt_or_eq_of_le e7).elim id fun h0 => by rw [← h0, Int.zero_mul] at h; omega, fun h => Int.mul_pos h h2⟩
   simp only [this]
   rfl
  ·have heq : (a / b != c / d) = false := by assumption
   have heq' : c / d = a / b := (bne_eq_false_iff_eq.1 heq).symm
   have z1 : ¬ a % b = 0 := by assumption
   have zz : (a % b == 0) = true ∨ (c % d == 0) = true := by assumption
   have z2 : c % d = 0 := by
    rcases zz with h | h
    ·exact absurd (beq_iff_eq.1 h) z1
    ·exact beq_iff_eq.1 h
   go_returns
   refine ⟨?_, (hB.drew).drew⟩
   rw [← HA.out]
   unfold above
   have hn : ¬ a % b * d < 0 := Int.not_lt.2 (Int.mul_nonneg e5 (Int.le_of_lt h4))
   simp only [ZN h4 h2 heq', z2, Int.zero_mul, hn, decide_false]
   rfl
  ·have heq : (a / b != c / d) = false := by assumption
   have heq' : c / d = a / b := (bne_eq_false_iff_eq.1 heq).symm
   have z1 : ¬ a % b = 0 := by assumption
   have zz : (a % b == 0) = false ∧ (c % d == 0) = false := by assumption
   have z2 : c % d ≠ 0 := beq_eq_false_iff_ne.1 zz.2
   have hA : above (c, d) (a, b) = decide ((a % b) * d < (c % d) * b) := by
    unfold above
    exact decide_eq_decide.2 (ZN h4 h2 heq')
   go_roundw
   case rel =>
    refine ⟨d, c % d, b, a % b, by omega, by omega, by omega, by omega, by omega, by omega, by omega, by omega, Lib.hid ?_, by go_cell, by go_cell, by go_cell, by go_cell, by go_cell, by go_cell, by go_cell, by go_cell, by simpa using hsz, ?_⟩
    ·rw [← HA.out, hA]
     unfold above
     simp only [Int.mul_comm]
    ·exact (((((hB.setCell (p := ⟨w.heap.size, 0, none⟩) (Nat.le_refl _) _).setCell (p := ⟨w.heap.size, 1, none⟩) (Nat.le_refl _) _).setCell (p := ⟨w.heap.size + 1, 0, none⟩) (Nat.le_succ _) _).setCell (p := ⟨w.heap.size + 1, 1, none⟩) (Nat.le_succ _) _).drew).drew
   case measure =>
    rw [zY k1, zY k3, zY (n := c % d) (by go_cell), zY (n := a % b) (by go_cell)]
    omega
def okS (x : Int × Int) (m : Int) : Prop := 0 ≤ x.1 ∧ x.1 ≤ 16 * m ∧ 0 < x.2 ∧ x.2 ≤ m
instance (x : Int × Int) (m : Int) : Decidable (okS x m) := by unfold okS; infer_instance
def yc (t b n : Nat) : Int × Int := qJ (low (t : Int) (b : Int)) n
theorem JB {t b n : Nat} (ht : t ≤ 12) (hb : 1 ≤ b ∧ b ≤ 4) (hn : n ≤ 7) : jX qJ ((t : Int), (b : Int)) (n : Int) = tv (yc t b n) 0 := by
 unfold jX yc
 rw [if_pos ⟨⟨⟨by omega, by omega⟩, by omega, by omega⟩, by omega, by omega⟩]
 rfl
def JF (t b n : Nat) : Int × Int := qdh ((yc t b n).1 * (yc t b (n + 1)).2 - (yc t b (n + 1)).1 * (yc t b n).2).toNat ((yc t b n).2 * (yc t b (n + 1)).2).toNat
structure KSt (w W : World) (l : List (Addr × Value)) : Prop where
 cs : ∀ p ∈ l, W.cell? p.1 = some p.2
 gl : Globs W
 bw : Below w.heap.size w W
section
variable {w W w1 : World} {l : List (Addr × Value)}
theorem KSt.call (h : KSt w W l) (hB : Below W.heap.size W w1) : KSt w w1 l := ⟨fun p hp => qb _ hB (h.cs p hp), h.gl.keep hB, Below.call h.bw hB (Nat.le_refl _)⟩
theorem KSt.cell (h : KSt w W l) (p : Addr × Value) (hp : p ∈ l) : W.cell? p.1 = some p.2 := h.cs p hp
theorem KSt.box2 (h : KSt w W l) (x y : Value) (t : TypeId) : KSt w (W.alloc (.cells #[x, y] t)) ((⟨W.heap.size, 0, none⟩, x) :: (⟨W.heap.size, 1, none⟩, y) :: l) := by
 have hB : Below W.heap.size W (W.alloc (.cells #[x, y] t)) := (Below.refl _ W).alloc (Nat.le_refl _) _
 have h' := h.call hB
 refine ⟨fun p hp => ?_, h'.gl, h'.bw⟩
 rcases List.mem_cons.1 hp with rfl | hp
 ·exact qC W #[x, y] t 0 (by simp)
 rcases List.mem_cons.1 hp with rfl | hp
 ·exact qC W #[x, y] t 1 (by simp)
 ·exact h'.cs p hp
end
abbrev RS4 (W : World) (x1 x2 x3 x4 : Nat) (a b c d : Int × Int) (X : World) : Prop :=
 X.cell? ⟨x1, 0, none⟩ = some (.int .i64 a.1) ∧ X.cell? ⟨x1, 1, none⟩ = some (.int .i64 a.2) ∧ X.cell? ⟨x2, 0, none⟩ = some (.int .i64 b.1) ∧ X.cell? ⟨x2, 1, none⟩ = some (.int .i64 b.2) ∧ X.cell? ⟨x3, 0, none⟩ = some (.int .i64 c.1) ∧ X.cell? ⟨x3, 1, none⟩ = some (.int .i64 c.2) ∧
 X.cell? ⟨x4, 0, none⟩ = some (.int .i64 d.1) ∧ X.cell? ⟨x4, 1, none⟩ = some (.int .i64 d.2) ∧ Below W.heap.size W X
theorem RS4.call {W X Y : World} {x1 x2 x3 x4 : Nat} {a b c d : Int × Int} (h : RS4 W x1 x2 x3 x4 a b c d X) (hB : Below X.heap.size X Y) : RS4 W x1 x2 x3 x4 a b c d Y := by
 obtain ⟨a0, a1, b0, b1, c0, c1, d0, d1, hW⟩ := h
 exact ⟨qb _ hB a0, qb _ hB a1, qb _ hB b0, qb _ hB b1, qb _ hB c0, qb _ hB c1, qb _ hB d0, qb _ hB d1, Below.call hW hB (Nat.le_refl _)⟩
theorem RS4.drew {W X : World} {x1 x2 x3 x4 : Nat} {a b c d : Int × Int} (h : RS4 W x1 x2 x3 x4 a b c d X) : RS4 W x1 x2 x3 x4 a b c d X.drew := by
 obtain ⟨a0, a1, b0, b1, c0, c1, d0, d1, hW⟩ := h
 exact ⟨a0, a1, b0, b1, c0, c1, d0, d1, ⟨hW.os, hW.tape, hW.output, hW.size, hW.block⟩⟩
theorem RS4.bel {W X : World} {x1 x2 x3 x4 : Nat} {a b c d : Int × Int} (h : RS4 W x1 x2 x3 x4 a b c d X) : Below W.heap.size W X := h.2.2.2.2.2.2.2.2
abbrev RS1 (W : World) (x1 : Nat) (a : Int × Int) (X : World) : Prop := X.cell? ⟨x1, 0, none⟩ = some (.int .i64 a.1) ∧ X.cell? ⟨x1, 1, none⟩ = some (.int .i64 a.2) ∧ Below W.heap.size W X
theorem RS1.call {W X Y : World} {x1 : Nat} {a : Int × Int} (h : RS1 W x1 a X) (hB : Below X.heap.size X Y) : RS1 W x1 a Y := ⟨qb _ hB h.1, qb _ hB h.2.1, Below.call h.2.2 hB (Nat.le_refl _)⟩
theorem RS1.drew {W X : World} {x1 : Nat} {a : Int × Int} (h : RS1 W x1 a X) : RS1 W x1 a X.drew := ⟨h.1, h.2.1, ⟨h.2.2.os, h.2.2.tape, h.2.2.output, h.2.2.size, h.2.2.block⟩⟩
theorem RS1.bel {W X : World} {x1 : Nat} {a : Int × Int} (h : RS1 W x1 a X) : Below W.heap.size W X := h.2.2
theorem RS1.alloc {W X : World} {x1 : Nat} {a : Int × Int} (h : RS1 W x1 a X) (o : Obj) : RS1 W x1 a (X.alloc o) := h.call ((Below.refl _ X).alloc (Nat.le_refl _) _)
theorem KSt.drew {w W : World} {l : List (Addr × Value)} (h : KSt w W l) : KSt w W.drew l := h.call (Below.refl _ W).drew
theorem RS1.set {W X : World} {x1 b i : Nat} {a : Int × Int} (h : RS1 W x1 a X) (hx : x1 < W.heap.size) (hb : W.heap.size ≤ b) (v : Value) : RS1 W x1 a (X.setCell ⟨b, i, none⟩ v) :=
 ⟨qc (by simp <;> omega) h.1, qc (by simp <;> omega) h.2.1, h.2.2.setCell hb _⟩
theorem KSt.set2 {w W X : World} {l : List (Addr × Value)} (h : KSt w W l) (hB : Below W.heap.size W X) {u0 u1 : Value} (c0 : X.cell? ⟨W.heap.size, 0, none⟩ = some u0) (c1 : X.cell? ⟨W.heap.size, 1, none⟩ = some u1) (x y : Value) :
 KSt w ((X.setCell ⟨W.heap.size, 0, none⟩ x).setCell ⟨W.heap.size, 1, none⟩ y) ((⟨W.heap.size, 0, none⟩, x) :: (⟨W.heap.size, 1, none⟩, y) :: l) := by
 have h' := h.call ((hB.setCell (p := ⟨W.heap.size, 0, none⟩) (Nat.le_refl _) x).setCell (p := ⟨W.heap.size, 1, none⟩) (Nat.le_refl _) y)
 refine ⟨fun p hp => ?_, h'.gl, h'.bw⟩
 rcases List.mem_cons.1 hp with rfl | hp
 ·exact qc (by simp) (qM (qw c0))
 rcases List.mem_cons.1 hp with rfl | hp
 ·exact qM (qx (qw c1))
 ·exact h'.cs p hp
theorem yX (a b c : Int) (w : World) (h : b ≤ a ∧ a ≤ c) : Calls qf 8 #[.int .i64 a, .int .i64 b, .int .i64 c] w fun e w' => e = .returned (.bool true) ∧ w = w' := by
 have h1 : decide (b ≤ a) = true := decide_eq_true h.1
 have h2 : decide (a ≤ c) = true := decide_eq_true h.2
 go_enter s8, ntmps8
 go_wp2
 go_ret
 exact ⟨by simp [h.2], rfl⟩
def zH (x l : Int × Int) (k : Nat) : Option Nat := ((List.range 8).drop k).find? fun n => borne x n l
theorem JM (x l : Int × Int) : zH x l 8 = none := rfl
theorem Xo {k : Nat} (hk : k < 8) : (List.range 8).drop k = k :: (List.range 8).drop (k + 1) := by
 rcases (show k = 0 ∨ k = 1 ∨ k = 2 ∨ k = 3 ∨ k = 4 ∨ k = 5 ∨ k = 6 ∨ k = 7 by omega) with rfl | rfl | rfl | rfl | rfl | rfl | rfl | rfl <;> rfl
theorem YR {x l : Int × Int} {k : Nat} (hk : k < 8) (h : borne x k l = true) : zH x l k = some k := by
 unfold zH; rw [Xo hk, List.find?_cons, h]
theorem XI {x l : Int × Int} {k : Nat} (hk : k < 8) (h : borne x k l = false) : zH x l k = zH x l (k + 1) := by
 unfold zH; rw [Xo hk, List.find?_cons, h]
def qba (x l : Int × Int) : Value := if yu x ∧ Lim l then (match zH x l 0 with | some n => .tuple #[.int .i64 n, .bool true, .int .i64 0] | none => .tuple #[.int .i64 0, .bool false, .int .i64 0]) else .tuple #[.int .i64 0, .bool false, .int .i64 1]
set_option maxHeartbeats 2000000 in
theorem qcm (x l : Int × Int) (w : World) : Calls qf 18 #[fv x, fv l] w fun e w' => e = .returned (qba x l) ∧ Below w.heap.size w w' := by
 unfold qba
 by_cases hx : yu x
 ·have htr := fun W => zO x W hx
  by_cases hl : Lim l
  ·rw [if_pos ⟨hx, hl⟩]
   have hli := fun W => Qz l W hl
   have hbe := fun T hT W => bears_any T x l hx.1.1 hx.1.2 hx.2.1 hx.2.2 hT hl.2.1 hl.1.1 hl.2.2 hl.1.2 W
   obtain ⟨R, hR⟩ : ∃ R, (match zH x l 0 with | some n => Value.tuple #[.int .i64 (n : Int), .bool true, .int .i64 0] | none => .tuple #[.int .i64 0, .bool false, .int .i64 0]) = R := ⟨_, rfl⟩
   rw [hR]
   have HR := Lib.hid hR
   clear hR
   simp only [fv] at *
   go_enter s18, ntmps18
   go_wp2_with (first | (go_at_call 47; (with_reducible refine (htr _).mono ?_); rintro e w1 ⟨rfl, hB1⟩; (first | (replace hB := Below.call (by with_reducible assumption) hB1 (Nat.le_refl _)) | (replace hB := Below.call (by go_grown) hB1 (Nat.le_refl _)) | (have hB := hB1)); (try clear hc hg hz); obtain ⟨hc, hg⟩ := qy hB; have hz := hB.size; clear hB1; (try simp at hz); (try have hlt0 : w.heap.size < w1.heap.size := by omega)) | (go_at_call 48; (with_reducible refine (hli _).mono ?_); rintro e w1 ⟨rfl, hB1⟩; (first | (replace hB := Below.call (by with_reducible assumption) hB1 (Nat.le_refl _)) | (replace hB := Below.call (by go_grown) hB1 (Nat.le_refl _)) | (have hB := hB1)); (try clear hc hg hz); obtain ⟨hc, hg⟩ := qy hB; have hz := hB.size; clear hB1; (try simp at hz); (try have hlt0 : w.heap.size < w1.heap.size := by omega)))
   obtain ⟨W, hW⟩ : ∃ W, (w.alloc (Obj.cells #[Value.int .i64 x.1, Value.int .i64 x.2] 23)).alloc (Obj.cells #[Value.int .i64 l.1, Value.int .i64 l.2] 23) = W := ⟨_, rfl⟩
   have k0 : W.cell? ⟨w.heap.size, 0, none⟩ = some (.int .i64 x.1) := by subst hW; go_cell
   have k1 : W.cell? ⟨w.heap.size, 1, none⟩ = some (.int .i64 x.2) := by subst hW; go_cell
   have k2 : W.cell? ⟨w.heap.size + 1, 0, none⟩ = some (.int .i64 l.1) := by subst hW; go_cell
   have k3 : W.cell? ⟨w.heap.size + 1, 1, none⟩ = some (.int .i64 l.2) := by subst hW; go_cell
   have hBW : Below w.heap.size w W := by subst hW; go_grown
   rw [hW] at hB
   clear hc hg hz hW
   go_loopw [16] (fun i wr => ∃ k : Nat, i = .int .i64 k ∧ k ≤ 8 ∧ Below W.heap.size W wr ∧ Hid (zH x l k = zH x l 0)) (fun i _ => 8 - (intOf i).toNat)
   case atStart => exact ⟨0, rfl, by omega, hB, Lib.hid rfl⟩
   case round =>
    obtain ⟨k, rfl, hk, hBr, HE⟩ := hrel
    clear hB
    have k0 := qb _ hBr k0
    have k1 := qb _ hBr k1
    have k2 := qb _ hBr k2
    have k3 := qb _ hBr k3
    by_cases hlt : k < 8
    ·have hbe := fun W => hbe k (by omega) W
     by_cases hb : borne x k l = true
     ·simp only [hb] at hbe
      go_wp2_with (go_at_call 49; (with_reducible refine (hbe _).mono ?_); rintro e w1 ⟨rfl, hB1⟩; (first | (replace hB := Below.call (by with_reducible assumption) hB1 (Nat.le_refl _)) | (replace hB := Below.call (by go_grown) hB1 (Nat.le_refl _)) | (have hB := hB1)); (try clear hc hg hz); obtain ⟨hc, hg⟩ := qy hB; have hz := hB.size; clear hB1; (try simp at hz); (try have hlt0 : w.heap.size < w1.heap.size := by omega))
      go_ret3
      refine ⟨?_, Below.call hBW hB (Nat.le_refl _)⟩
      rw [← HR.out, ← HE.out, YR hlt hb]; rfl
     ·have hb : borne x k l = false := by simpa using hb
      simp only [hb] at hbe
      go_wp2_with (go_at_call 49; (with_reducible refine (hbe _).mono ?_); rintro e w1 ⟨rfl, hB1⟩; (first | (replace hB := Below.call (by with_reducible assumption) hB1 (Nat.le_refl _)) | (replace hB := Below.call (by go_grown) hB1 (Nat.le_refl _)) | (have hB := hB1)); (try clear hc hg hz); obtain ⟨hc, hg⟩ := qy hB; have hz := hB.size; clear hB1; (try simp at hz); (try have hlt0 : w.heap.size < w1.heap.size := by omega))
      go_roundw
      case rel => exact ⟨k + 1, rfl, by omega, hB, Lib.hid (by rw [← XI hlt hb]; exact HE.out)⟩
      case measure => simp [intOf]; omega
    ·obtain rfl : k = 8 := by omega
     go_wp2
     go_ret3
     refine ⟨?_, Below.call hBW hBr (Nat.le_refl _)⟩
     rw [← HR.out, ← HE.out, JM]; rfl
  ·rw [if_neg (fun h => hl h.2)]
   have hli := fun W => Zk l W hl
   simp only [fv] at *
   go_enter s18, ntmps18
   go_wp2_with (first | (go_at_call 47; (with_reducible refine (htr _).mono ?_); rintro e w1 ⟨rfl, hB1⟩; (first | (replace hB := Below.call (by with_reducible assumption) hB1 (Nat.le_refl _)) | (replace hB := Below.call (by go_grown) hB1 (Nat.le_refl _)) | (have hB := hB1)); (try clear hc hg hz); obtain ⟨hc, hg⟩ := qy hB; have hz := hB.size; clear hB1; (try simp at hz); (try have hlt0 : w.heap.size < w1.heap.size := by omega)) | (go_at_call 48; (with_reducible refine (hli _).mono ?_); rintro e w1 ⟨rfl, hB1⟩; (first | (replace hB := Below.call (by with_reducible assumption) hB1 (Nat.le_refl _)) | (replace hB := Below.call (by go_grown) hB1 (Nat.le_refl _)) | (have hB := hB1)); (try clear hc hg hz); obtain ⟨hc, hg⟩ := qy hB; have hz := hB.size; clear hB1; (try simp at hz); (try have hlt0 : w.heap.size < w1.heap.size := by omega)))
   go_ret3
   exact ⟨rfl, Below.call (B := w.heap.size) (by go_grown) hB (Nat.le_refl _)⟩
 ·rw [if_neg (fun h => hx h.1)]
  have htr := fun W => yF x W hx
  simp only [fv] at *
  go_enter s18, ntmps18
  go_wp2_with (first | (go_at_call 47; (with_reducible refine (htr _).mono ?_); rintro e w1 ⟨rfl, hB1⟩; (first | (replace hB := Below.call (by with_reducible assumption) hB1 (Nat.le_refl _)) | (replace hB := Below.call (by go_grown) hB1 (Nat.le_refl _)) | (have hB := hB1)); (try clear hc hg hz); obtain ⟨hc, hg⟩ := qy hB; have hz := hB.size; clear hB1; (try simp at hz); (try have hlt0 : w.heap.size < w1.heap.size := by omega)))
  go_ret3
  exact ⟨rfl, Below.call (B := w.heap.size) (by go_grown) hB (Nat.le_refl _)⟩
def zP (p : Int) (T : Nat) (l : Int × Int) : Nat → Int
 | 0 => -1
 | k + 1 => if borne ((k : Int), p) T l then k else zP p T l k
def qeH (T p : Int) (l : Int × Int) : Value := if (0 ≤ T ∧ T ≤ 7) ∧ (1 ≤ p ∧ p ≤ 4) ∧ Lim l then tv (zP p T.toNat l 13, p) 0 else tv (0, 0) 1
set_option maxHeartbeats 2000000 in
theorem qfk (T : Nat) (p : Int) (l : Int × Int) (hT : T ≤ 7) (hp : 1 ≤ p ∧ p ≤ 4) (hl : Lim l) (w : World) :
 Calls qf 19 #[.int .i64 T, .int .i64 p, fv l] w fun e w' => e = .returned (tv (zP p T l 13, p) 0) ∧ Below w.heap.size w w' := by
 have hli := fun W => Qz l W hl
 have hbe := fun (k : Nat) (hk : k ≤ 12) W => bears_any T ((k : Int), p) l (Int.natCast_nonneg k) (by show (k : Int) ≤ 12; omega) hp.1 hp.2 hT hl.2.1 hl.1.1 hl.2.2 hl.1.2 W
 simp only [fv, tv] at *
 go_enter s19, ntmps19
 go_wp2_with (first | (go_at_call 48; (with_reducible refine (hli _).mono ?_); rintro e w1 ⟨rfl, hB1⟩; (first | (replace hB := Below.call (by with_reducible assumption) hB1 (Nat.le_refl _)) | (replace hB := Below.call (by go_grown) hB1 (Nat.le_refl _)) | (have hB := hB1)); (try clear hc hg hz); obtain ⟨hc, hg⟩ := qy hB; have hz := hB.size; clear hB1; (try simp at hz); (try have hlt0 : w.heap.size < w1.heap.size := by omega)) | (go_at_call 50; (with_reducible refine (zM _ _ (by omega)).mono ?_); rintro e w1 ⟨rfl, rfl⟩) | (go_at_call 51; (with_reducible refine (qB _ _ _ _ hp).mono ?_); rintro e w1 ⟨rfl, rfl⟩))
 have L0 : w1.cell? ⟨w.heap.size, 0, none⟩ = some (.int .i64 l.1) := by rw [hc _ _ (by simp <;> omega)]; go_cell
 have L1 : w1.cell? ⟨w.heap.size, 1, none⟩ = some (.int .i64 l.2) := by rw [hc _ _ (by simp <;> omega)]; go_cell
 have R0 : w1.cell? ⟨w.heap.size + 1, 0, none⟩ = some (.int .i64 0) := by rw [hc _ _ (by simp <;> omega)]; go_cell
 have R1 : w1.cell? ⟨w.heap.size + 1, 1, none⟩ = some (.int .i64 0) := by rw [hc _ _ (by simp <;> omega)]; go_cell
 have F0 : w1.frozen? ⟨w.heap.size + 1, 0, none⟩ = false := by rw [hg _ _ (by simp <;> omega)]; go_cell
 have F1 : w1.frozen? ⟨w.heap.size + 1, 1, none⟩ = false := by rw [hg _ _ (by simp <;> omega)]; go_cell
 have hBw : Below w.heap.size w w1 := Below.call (B := w.heap.size) (by go_grown) hB (Nat.le_refl _)
 clear hc hg hB
 go_loopw [27] (fun i wr => ∃ k : Nat, i = .int .i64 k ∧ k ≤ 13 ∧ Below w.heap.size w wr ∧ w1.heap.size + 1 ≤ wr.heap.size ∧ wr.cell? ⟨w.heap.size, 0, none⟩ = some (.int .i64 l.1) ∧ wr.cell? ⟨w.heap.size, 1, none⟩ = some (.int .i64 l.2) ∧
  wr.cell? ⟨w.heap.size + 1, 0, none⟩ = some (.int .i64 0) ∧ wr.cell? ⟨w.heap.size + 1, 1, none⟩ = some (.int .i64 0) ∧ wr.frozen? ⟨w.heap.size + 1, 0, none⟩ = false ∧ wr.frozen? ⟨w.heap.size + 1, 1, none⟩ = false ∧
  wr.cell? ⟨w1.heap.size, 0, none⟩ = some (.int .i64 (zP p T l k)) ∧ wr.cell? ⟨w1.heap.size, 1, none⟩ = some (.int .i64 p) ∧ wr.frozen? ⟨w1.heap.size, 0, none⟩ = false ∧ wr.frozen? ⟨w1.heap.size, 1, none⟩ = false) (fun i _ => 13 - (intOf i).toNat)
 case atStart =>
  have hm : zP p T l 0 = -1 := rfl
  exact ⟨0, rfl, by omega, by go_grown, by simp, qi L0, qi L1, qi R0, qi R1, qm R0 F0, qm R1 F1, by rw [hm]; go_cell, by go_cell, by go_cell, by go_cell⟩
 case round =>
  clear L0 L1 R0 R1 F0 F1 hBw
  obtain ⟨k, rfl, hk, hBw, hsz, L0, L1, R0, R1, F0, F1, M0, M1, G0, G1⟩ := hrel
  have s1 : w.heap.size < wr.heap.size := by omega
  have s2 : w.heap.size + 1 < wr.heap.size := by omega
  have s3 : w1.heap.size < wr.heap.size := by omega
  by_cases hlt : k < 13
  ·have hbe := fun W => hbe k (by omega) W
   by_cases hb : borne ((k : Int), p) T l = true
   ·have hnx : zP p T l (k + 1) = k := by simp [zP, hb]
    simp only [hb] at hbe
    have HN := Lib.hid hnx
    clear hnx
    generalize zP p T l k = m at *
    go_wp2_with (go_at_call 49; refine (hbe _).mono ?_; rintro e w2 ⟨rfl, hB2⟩; have A0 := qb ⟨wr.heap.size, 0, none⟩ hB2 (v := .int .i64 k) (by go_cell); have A1 := qb ⟨wr.heap.size, 1, none⟩ hB2 (v := .int .i64 p) (by go_cell); have N0 := qb _ hB2 (qi M0); have N1 := qb _ hB2 (qi M1); have H0 := qg _ hB2 (qi M0) (qm M0 G0); have H1 := qg _ hB2 (qi M1) (qm M1 G1); have P0 := qb _ hB2 (qi L0); have P1 := qb _ hB2 (qi L1); have Q0 := qb _ hB2 (qi R0); have Q1 := qb _ hB2 (qi R1); have I0 := qg _ hB2 (qi R0) (qm R0 F0); have I1 := qg _ hB2 (qi R1) (qm R1 F1); have hz2 := hB2.size; have hB3 := Below.call (B := w.heap.size) (by go_grown) hB2 (Nat.le_refl _); clear hB2 M0 M1 G0 G1 L0 L1 R0 R1 F0 F1; simp at hz2)
    go_roundw
    case rel => exact ⟨k + 1, rfl, by omega, (hB3.setCell (by simp; omega) _).setCell (by simp; omega) _, by simp; omega, by go_cell, by go_cell, by go_cell, by go_cell, by go_cell, by go_cell, by rw [HN.out]; go_cell, by go_cell, by go_cell, by go_cell⟩
    case measure => simp [intOf]; omega
   ·have hb : borne ((k : Int), p) T l = false := by simpa using hb
    have hnx : zP p T l (k + 1) = zP p T l k := by simp [zP, hb]
    simp only [hb] at hbe
    have HN := Lib.hid hnx
    clear hnx
    generalize zP p T l k = m at *
    go_wp2_with (go_at_call 49; refine (hbe _).mono ?_; rintro e w2 ⟨rfl, hB2⟩; have A0 := qb ⟨wr.heap.size, 0, none⟩ hB2 (v := .int .i64 k) (by go_cell); have A1 := qb ⟨wr.heap.size, 1, none⟩ hB2 (v := .int .i64 p) (by go_cell); have N0 := qb _ hB2 (qi M0); have N1 := qb _ hB2 (qi M1); have H0 := qg _ hB2 (qi M0) (qm M0 G0); have H1 := qg _ hB2 (qi M1) (qm M1 G1); have P0 := qb _ hB2 (qi L0); have P1 := qb _ hB2 (qi L1); have Q0 := qb _ hB2 (qi R0); have Q1 := qb _ hB2 (qi R1); have I0 := qg _ hB2 (qi R0) (qm R0 F0); have I1 := qg _ hB2 (qi R1) (qm R1 F1); have hz2 := hB2.size; have hB3 := Below.call (B := w.heap.size) (by go_grown) hB2 (Nat.le_refl _); clear hB2 M0 M1 G0 G1 L0 L1 R0 R1 F0 F1; simp at hz2)
    go_roundw
    case rel => exact ⟨k + 1, rfl, by omega, hB3, by omega, P0, P1, Q0, Q1, I0, I1, by rw [HN.out]; exact N0, N1, H0, H1⟩
    case measure => simp [intOf]; omega
  ·obtain rfl : k = 13 := by omega
   go_wp2
   have hp := Zb (.int .i64 (zP p T l 13)) (.int .i64 p) R0 R1
   refine bodyPost_ret (qU results19 rfl rfl (yG ze qP hp.1 hp.2)) rfl ⟨rfl, ?_⟩
   exact (hBw.setCell (p := ⟨w.heap.size + 1, 0, none⟩) (Nat.le_succ _) _).setCell (p := ⟨w.heap.size + 1, 1, none⟩) (Nat.le_succ _) _
set_option maxHeartbeats 1000000 in
theorem qem (T p : Int) (l : Int × Int) (w : World) : Calls qf 19 #[.int .i64 T, .int .i64 p, fv l] w fun e w' => e = .returned (qeH T p l) ∧ Below w.heap.size w w' := by
 unfold qeH
 by_cases hT : 0 ≤ T ∧ T ≤ 7
 ·obtain ⟨n, rfl⟩ := Int.eq_ofNat_of_zero_le hT.1
  by_cases hp : 1 ≤ p ∧ p ≤ 4
  ·by_cases hl : Lim l
   ·rw [if_pos ⟨hT, hp, hl⟩]
    exact qfk n p l (by omega) hp hl w
   ·rw [if_neg (fun h => hl h.2.2)]
    have hli := fun W => Zk l W hl
    simp only [fv, tv] at *
    go_enter s19, ntmps19
    go_wp2_with (first | (go_at_call 48; (with_reducible refine (hli _).mono ?_); rintro e w1 ⟨rfl, hB1⟩; (first | (replace hB := Below.call (by with_reducible assumption) hB1 (Nat.le_refl _)) | (replace hB := Below.call (by go_grown) hB1 (Nat.le_refl _)) | (have hB := hB1)); (try clear hc hg hz); obtain ⟨hc, hg⟩ := qy hB; have hz := hB.size; clear hB1; (try simp at hz); (try have hlt0 : w.heap.size < w1.heap.size := by omega)) | (go_at_call 50; (with_reducible refine (zM _ _ (by omega)).mono ?_); rintro e w1 ⟨rfl, rfl⟩) | (go_at_call 51; (with_reducible refine (qB _ _ _ _ hp).mono ?_); rintro e w1 ⟨rfl, rfl⟩))
    have c0 : w1.cell? ⟨w.heap.size + 1, 0, none⟩ = some (.int .i64 0) := by rw [hc _ _ (by simp <;> omega)]; go_cell
    have c1 : w1.cell? ⟨w.heap.size + 1, 1, none⟩ = some (.int .i64 0) := by rw [hc _ _ (by simp <;> omega)]; go_cell
    have hp := Zb (.int .i64 0) (.int .i64 0) c0 c1
    refine bodyPost_ret (qU results19 rfl rfl (yG ze qP hp.1 hp.2)) rfl ⟨rfl, ?_⟩
    exact ((Below.call (B := w.heap.size) (by go_grown) hB (Nat.le_refl _)).setCell (by simp) _).setCell (by simp) _
  ·rw [if_neg (fun h => hp h.2.1)]
   simp only [fv, tv] at *
   go_enter s19, ntmps19
   go_wp2_with (first | (go_at_call 50; (with_reducible refine (zM _ _ (by omega)).mono ?_); rintro e w1 ⟨rfl, rfl⟩) | (go_at_call 51; (with_reducible refine (qZ _ _ _ _ hp).mono ?_); rintro e w1 ⟨rfl, rfl⟩))
   go_returns
   exact ⟨rfl, by go_grown⟩
 ·rw [if_neg (fun h => hT h.1)]
  simp only [fv, tv] at *
  go_enter s19, ntmps19
  go_wp2_with (first | (go_at_call 50; (with_reducible refine (jd _ _ hT).mono ?_); rintro e w1 ⟨rfl, rfl⟩))
  go_returns
  exact ⟨rfl, by go_grown⟩
theorem qdL {x y : Int × Int} : above x y = false ↔ x.1 * y.2 ≤ y.1 * x.2 := by
 unfold above
 rw [decide_eq_false_iff_not, Int.not_lt]
theorem qaQ {p q r : Int × Int} (hp : 0 < p.2) (hq : 0 < q.2) (hr : 0 < r.2) (h1 : above p q = false) (h2 : above q r = false) : above p r = false := by
 rw [qdL] at *
 have a1 : p.1 * q.2 * r.2 ≤ q.1 * p.2 * r.2 := Int.mul_le_mul_of_nonneg_right h1 (Int.le_of_lt hr)
 have a2 : q.1 * r.2 * p.2 ≤ r.1 * q.2 * p.2 := Int.mul_le_mul_of_nonneg_right h2 (Int.le_of_lt hp)
 refine Int.le_of_mul_le_mul_left (a := q.2) ?_ hq
 have e1 : q.2 * (p.1 * r.2) = p.1 * q.2 * r.2 := by rw [← Int.mul_assoc, Int.mul_comm q.2]
 have e2 : q.1 * p.2 * r.2 = q.1 * r.2 * p.2 := by rw [Int.mul_assoc, Int.mul_comm p.2, Int.mul_assoc]
 have e3 : q.2 * (r.1 * p.2) = r.1 * q.2 * p.2 := by rw [Int.mul_comm r.1 q.2, Int.mul_assoc]
 omega
end Go.Proofs.Tryz
namespace Go.Proofs.Tryz
open Go Go.Sim
@[go_sem] theorem s41 : qf.funcs[41]? = some f41 := by kernel_rfl
@[go_sem] theorem c41 (args : Array Value) (w : World) : (callFunc 41 args).run qf w = .ok (.enter 41 args) w := qh s41 (by kernel_rfl) (by kernel_rfl) args w
@[go_sem] theorem s37 : qf.funcs[37]? = some f37 := by kernel_rfl
@[go_sem] theorem c37 (args : Array Value) (w : World) : (callFunc 37 args).run qf w = .ok (.enter 37 args) w := qh s37 (by kernel_rfl) (by kernel_rfl) args w
@[go_sem] theorem s40 : qf.funcs[40]? = some f40 := by kernel_rfl
@[go_sem] theorem c40 (args : Array Value) (w : World) : (callFunc 40 args).run qf w = .ok (.enter 40 args) w := qh s40 (by kernel_rfl) (by kernel_rfl) args w
@[go_sem] theorem s13 : qf.funcs[13]? = some f13 := by kernel_rfl
@[go_sem] theorem c13 (args : Array Value) (w : World) : (callFunc 13 args).run qf w = .ok (.enter 13 args) w := qh s13 (by kernel_rfl) (by kernel_rfl) args w
@[go_sem] theorem s38 : qf.funcs[38]? = some f38 := by kernel_rfl
@[go_sem] theorem c38 (args : Array Value) (w : World) : (callFunc 38 args).run qf w = .ok (.enter 38 args) w := qh s38 (by kernel_rfl) (by kernel_rfl) args w
@[go_sem] theorem s39 : qf.funcs[39]? = some f39 := by kernel_rfl
@[go_sem] theorem c39 (args : Array Value) (w : World) : (callFunc 39 args).run qf w = .ok (.enter 39 args) w := qh s39 (by kernel_rfl) (by kernel_rfl) args w
@[go_sem] theorem s74 : qf.funcs[74]? = some f74 := by kernel_rfl
@[go_sem] theorem c74 (args : Array Value) (w : World) : (callFunc 74 args).run qf w = .ok (.enter 74 args) w := qh s74 (by kernel_rfl) (by kernel_rfl) args w
@[go_sem] theorem s75 : qf.funcs[75]? = some f75 := by kernel_rfl
@[go_sem] theorem c75 (args : Array Value) (w : World) : (callFunc 75 args).run qf w = .ok (.enter 75 args) w := qh s75 (by kernel_rfl) (by kernel_rfl) args w
@[go_sem] theorem s12 : qf.funcs[12]? = some f12 := by kernel_rfl
@[go_sem] theorem c12 (args : Array Value) (w : World) : (callFunc 12 args).run qf w = .ok (.enter 12 args) w := qh s12 (by kernel_rfl) (by kernel_rfl) args w
@[go_sem] theorem s4 : qf.funcs[4]? = some f4 := by kernel_rfl
@[go_sem] theorem c4 (args : Array Value) (w : World) : (callFunc 4 args).run qf w = .ok (.enter 4 args) w := qh s4 (by kernel_rfl) (by kernel_rfl) args w
@[go_sem] theorem s10 : qf.funcs[10]? = some f10 := by kernel_rfl
@[go_sem] theorem c10 (args : Array Value) (w : World) : (callFunc 10 args).run qf w = .ok (.enter 10 args) w := qh s10 (by kernel_rfl) (by kernel_rfl) args w
end Go.Proofs.Tryz
namespace Go.Proofs.Tryz
open Go Go.Load Go.RowKit
theorem XQ (a b c : Int) (w : World) (h : ¬ (b ≤ a ∧ a ≤ c)) : Calls qf 8 #[.int .i64 a, .int .i64 b, .int .i64 c] w fun e w' => e = .returned (.bool false) ∧ w = w' := by
 by_cases h1 : b ≤ a
 ·have h2 : ¬ a ≤ c := fun h2 => h ⟨h1, h2⟩
  have k1 : decide (b ≤ a) = true := decide_eq_true h1
  have k2 : decide (a ≤ c) = false := decide_eq_false h2
  go_enter s8, ntmps8
  go_wp2
  go_ret
  exact ⟨by simp_all, rfl⟩
 ·have k1 : decide (b ≤ a) = false := decide_eq_false h1
  go_enter s8, ntmps8
  go_wp2
  go_ret
  exact ⟨by simp_all, rfl⟩
theorem JS (x : Int × Int) (w : World) (h : yu x) : Calls qf 41 #[fv x] w fun e w' => e = .returned (.bool true) ∧ Below w.heap.size w w' := by
 obtain ⟨h1, h2⟩ := h
 simp only [fv]
 go_enter s41, ntmps41
 go_wp2_with (go_at_call 8; (first | (with_reducible refine (yX _ _ _ _ h1).mono ?_) | (with_reducible refine (yX _ _ _ _ h2).mono ?_)); rintro e w' ⟨rfl, rfl⟩)
 go_ret
 exact ⟨rfl, by go_grown⟩
theorem qbk (x : Int × Int) (w : World) (h : ¬ yu x) : Calls qf 41 #[fv x] w fun e w' => e = .returned (.bool false) ∧ Below w.heap.size w w' := by
 simp only [fv]
 by_cases h1 : 0 ≤ x.1 ∧ x.1 ≤ 12
 ·have h2 : ¬ (1 ≤ x.2 ∧ x.2 ≤ 4) := fun h2 => h ⟨h1, h2⟩
  go_enter s41, ntmps41
  go_wp2_with (go_at_call 8; (first | (with_reducible refine (yX _ _ _ _ h1).mono ?_) | (with_reducible refine (XQ _ _ _ _ h2).mono ?_)); rintro e w' ⟨rfl, rfl⟩)
  go_ret
  exact ⟨rfl, by go_grown⟩
 ·go_enter s41, ntmps41
  go_wp2_with (go_at_call 8; (with_reducible refine (XQ _ _ _ _ h1).mono ?_); rintro e w' ⟨rfl, rfl⟩)
  go_ret
  exact ⟨rfl, by go_grown⟩
theorem Zd (x : Int × Int) (w : World) (h : Lim x) : Calls qf 37 #[fv x] w fun e w' => e = .returned (.bool true) ∧ Below w.heap.size w w' := by
 obtain ⟨h1, h2⟩ := h
 simp only [fv]
 go_enter s37, ntmps37
 go_wp2_with (go_at_call 8; (first | (with_reducible refine (yX _ _ _ _ h1).mono ?_) | (with_reducible refine (yX _ _ _ _ h2).mono ?_)); rintro e w' ⟨rfl, rfl⟩)
 go_ret
 exact ⟨rfl, by go_grown⟩
theorem qed (x : Int × Int) (w : World) (h : ¬ Lim x) : Calls qf 37 #[fv x] w fun e w' => e = .returned (.bool false) ∧ Below w.heap.size w w' := by
 simp only [fv]
 by_cases h1 : 1 ≤ x.2 ∧ x.2 ≤ 100
 ·have h2 : ¬ (0 ≤ x.1 ∧ x.1 ≤ x.2) := fun h2 => h ⟨h1, h2⟩
  go_enter s37, ntmps37
  go_wp2_with (go_at_call 8; (first | (with_reducible refine (yX _ _ _ _ h1).mono ?_) | (with_reducible refine (XQ _ _ _ _ h2).mono ?_)); rintro e w' ⟨rfl, rfl⟩)
  go_ret
  exact ⟨rfl, by go_grown⟩
 ·go_enter s37, ntmps37
  go_wp2_with (go_at_call 8; (with_reducible refine (XQ _ _ _ _ h1).mono ?_); rintro e w' ⟨rfl, rfl⟩)
  go_ret
  exact ⟨rfl, by go_grown⟩
theorem Yw (a : Int) (w : World) (h : 0 ≤ a ∧ a ≤ 7) : Calls qf 40 #[.int .i64 a] w fun e w' => e = .returned (.bool true) ∧ w = w' := by
 go_enter s40, ntmps40
 go_wp2_with (go_at_call 8; refine (yX _ _ _ _ h).mono ?_; rintro e w' ⟨rfl, rfl⟩)
 go_ret
 exact ⟨rfl, rfl⟩
theorem qcj (a : Int) (w : World) (h : ¬ (0 ≤ a ∧ a ≤ 7)) : Calls qf 40 #[.int .i64 a] w fun e w' => e = .returned (.bool false) ∧ w = w' := by
 go_enter s40, ntmps40
 go_wp2_with (go_at_call 8; refine (XQ _ _ _ _ h).mono ?_; rintro e w' ⟨rfl, rfl⟩)
 go_ret
 exact ⟨rfl, rfl⟩
theorem qdE (c : UInt8) (w : World) : Calls qf 74 #[.int .u8 c.toNat] w fun e w' => e = .returned (.bool (btw c.toNat 97 122)) ∧ w = w' := by
 by_cases h1 : (97 : Int) ≤ (c.toNat : Int)
 ·go_enter s74, ntmps74
  go_wp2
  go_ret
  exact ⟨by simp [btw, h1], rfl⟩
 ·go_enter s74, ntmps74
  go_wp2
  go_ret
  exact ⟨by simp [btw]; omega, rfl⟩
theorem qfl (c : UInt8) (w : World) : Calls qf 75 #[.int .u8 c.toNat] w fun e w' => e = .returned (.bool (btw c.toNat 48 57)) ∧ w = w' := by
 by_cases h1 : (48 : Int) ≤ (c.toNat : Int)
 ·go_enter s75, ntmps75
  go_wp2
  go_ret
  exact ⟨by simp [btw, h1], rfl⟩
 ·go_enter s75, ntmps75
  go_wp2
  go_ret
  exact ⟨by simp [btw]; omega, rfl⟩
def qdi (s : ByteArray) (j : Nat) : Bool := btw ((s.data.toList.getD j 0).toNat : Int) 97 122 || (j != 0 && btw ((s.data.toList.getD j 0).toNat : Int) 48 57)
theorem name_bad {s : ByteArray} {k : Nat} (hk : k < s.size) (h : qdi s k = false) : jA s = false := by
 unfold qdi at h
 simp only [Bool.or_eq_false_iff, Bool.and_eq_false_iff] at h
 obtain ⟨h1, h2⟩ := h
 have hk' : k < s.data.toList.length := by simpa using hk
 have hg : s.data.toList.getD k 0 = s.data.toList[k] := by rw [List.getD_eq_getElem?_getD, List.getElem?_eq_getElem hk']; rfl
 unfold jA
 by_cases h0 : k = 0
 ·subst h0
  have : s.data.toList.headD 0 = s.data.toList.getD 0 0 := by cases s.data.toList <;> rfl
  rw [this, h1]
  simp
 ·have hd : btw ((s.data.toList.getD k 0).toNat : Int) 48 57 = false := by
   rcases h2 with h2 | h2
   ·simp at h2; exact absurd h2 h0
   ·exact h2
  have : s.data.toList.any xC = true := List.any_eq_true.2 ⟨s.data.toList[k], List.getElem_mem _, by unfold xC; rw [← hg, h1, hd]; rfl⟩
  rw [this]
  simp
theorem qet {s : ByteArray} (h : ∀ j, j < s.size → qdi s j = true) : jA s = (1 ≤ s.size && s.size ≤ 9 : Bool) := by
 unfold jA
 have hany : s.data.toList.any xC = false := by
  rw [List.any_eq_false]
  intro x hx
  obtain ⟨j, hj, rfl⟩ := List.getElem_of_mem hx
  have := h j (by simpa using hj)
  have hg : s.data.toList.getD j 0 = s.data.toList[j] := by rw [List.getD_eq_getElem?_getD, List.getElem?_eq_getElem hj]; rfl
  unfold qdi at this
  rw [hg] at this
  unfold xC
  simp only [Bool.or_eq_true, Bool.and_eq_true] at this
  rcases this with a | ⟨_, a⟩ <;> rw [a] <;> simp
 by_cases h0 : 0 < s.size
 ·have := h 0 h0
  unfold qdi at this
  have e : s.data.toList.headD 0 = s.data.toList.getD 0 0 := by cases s.data.toList <;> rfl
  simp only [bne_self_eq_false, Bool.false_and, Bool.or_false] at this
  rw [e, this, hany]
  simp
 ·have e : s.size = 0 := by omega
  rw [e]
  rfl
set_option maxHeartbeats 2000000 in
set_option maxRecDepth 100000 in
theorem qaP (s : ByteArray) (hs : s.size ≤ 100) (w : World) : Calls qf 38 #[.string s] w fun e w' => e = .returned (.bool (jA s)) ∧ w = w' := by
 obtain ⟨R, hR⟩ : ∃ R, jA s = R := ⟨_, rfl⟩
 rw [hR]
 have HG : Hid ((∀ j, j < s.size → qdi s j = true) → R = (1 ≤ s.size && s.size ≤ 9 : Bool)) := Lib.hid fun h => by rw [← hR]; exact qet h
 have HB : Hid (∀ k, k < s.size → qdi s k = false → R = false) := Lib.hid fun k hk h => by rw [← hR]; exact name_bad hk h
 clear hR
 go_enter s38, ntmps38
 go_wp2
 go_loop [3] (fun i => ∃ k : Nat, i = .int .i64 k ∧ k ≤ s.size ∧ Hid (∀ j, j < k → qdi s j = true)) (fun i => s.size - (intOf i).toNat)
 case atStart => exact ⟨0, rfl, Nat.zero_le _, Lib.hid fun j hj => absurd hj (Nat.not_lt_zero _)⟩
 case round =>
  obtain ⟨k, rfl, hk, HK⟩ := hrel
  by_cases hlt : k < s.size
  ·have hk' : k < s.data.toList.length := by simpa using hlt
   have hg : s.data.toList.getD k 0 = s[k] := by rw [List.getD_eq_getElem?_getD, List.getElem?_eq_getElem hk']; rfl
   have hok : qdi s k = (btw (s[k].toNat : Int) 97 122 || (k != 0 && btw (s[k].toNat : Int) 48 57)) := by unfold qdi; rw [hg]
   have hsm := fun W => qdE s[k] W
   have hdi := fun W => qfl s[k] W
   have hnext : qdi s k = true → Hid (∀ j, j < k + 1 → qdi s j = true) := fun h => Lib.hid fun j hj => by
    rcases Nat.lt_succ_iff_lt_or_eq.1 hj with h1 | rfl
    ·exact HK.out j h1
    ·exact h
   have hlti : (k : Int) < (s.size : Int) := by omega
   cases h1 : btw (s[k].toNat : Int) 97 122 with
   | true =>
     have HN := hnext (by rw [hok, h1]; rfl)
     simp only [h1] at hsm
     clear hok hnext hdi h1
     go_wp2_with (go_at_call 74; refine (hsm _).mono ?_; rintro e w' ⟨rfl, rfl⟩)
     go_round
     case rel => exact ⟨k + 1, by go_num, by omega, HN⟩
     case measure => simp [intOf]; omega
   | false =>
     simp only [h1] at hsm
     by_cases h0 : k = 0
     ·subst h0
      have hb := HB.out 0 hlt (by rw [hok, h1]; rfl)
      subst hb
      clear hok hnext hdi h1
      go_wp2_with (go_at_call 74; refine (hsm _).mono ?_; rintro e w' ⟨rfl, rfl⟩)
      go_ret
      exact ⟨rfl, rfl⟩
     ·have hkb : ((k : Int) == 0) = false := by rw [beq_eq_false_iff_ne]; omega
      cases h2 : btw (s[k].toNat : Int) 48 57 with
      | true =>
        have HN := hnext (by rw [hok, h1, h2]; simp [h0])
        simp only [h2] at hdi
        clear hok hnext h1 h2
        go_wp2_with (first | (go_at_call 74; refine (hsm _).mono ?_; rintro e w' ⟨rfl, rfl⟩) | (go_at_call 75; refine (hdi _).mono ?_; rintro e w' ⟨rfl, rfl⟩))
        go_round
        case rel => exact ⟨k + 1, by go_num, by omega, HN⟩
        case measure => simp [intOf]; omega
      | false =>
        have hb := HB.out k hlt (by rw [hok, h1, h2]; simp)
        subst hb
        simp only [h2] at hdi
        clear hok hnext h1 h2
        go_wp2_with (first | (go_at_call 74; refine (hsm _).mono ?_; rintro e w' ⟨rfl, rfl⟩) | (go_at_call 75; refine (hdi _).mono ?_; rintro e w' ⟨rfl, rfl⟩))
        go_ret
        exact ⟨rfl, rfl⟩
  ·obtain rfl : k = s.size := by omega
   have hR := HG.out HK.out
   by_cases hn : 1 ≤ (s.size : Int) ∧ (s.size : Int) ≤ 9
   ·have hb : R = true := by rw [hR]; simp; omega
    subst hb
    clear hR
    go_wp2_with (go_at_call 8; refine (yX _ _ _ _ hn).mono ?_; rintro e w' ⟨rfl, rfl⟩)
    go_ret
    exact ⟨rfl, rfl⟩
   ·have hb : R = false := by rw [hR]; simp; omega
    subst hb
    clear hR
    go_wp2_with (go_at_call 8; refine (XQ _ _ _ _ hn).mono ?_; rintro e w' ⟨rfl, rfl⟩)
    go_ret
    exact ⟨rfl, rfl⟩
def StrAt (w : World) (v : Value) (l : List ByteArray) : Prop :=
 (l = [] ∧ v = .slice none 0 0) ∨ ∃ b c, v = .slice (some ⟨b, 0, none⟩) l.length c ∧ ∀ (k : Nat) (s : ByteArray), l[k]? = some s → w.cell? ⟨b, k, none⟩ = some (.string s)
def hasS (l : List ByteArray) (s : ByteArray) : Bool := l.any fun x => x.toList == s.toList
set_option maxHeartbeats 2000000 in
set_option maxRecDepth 100000 in
theorem qbl (l : List ByteArray) (s : ByteArray) (v : Value) (hl : l.length ≤ 1000) (w : World) (h : StrAt w v l) :
 Calls qf 39 #[v, .string s] w fun e w' => (∃ r : Int, e = .returned (.int .i64 r) ∧ decide (0 ≤ r) = hasS l s) ∧ w = w' := by
 rcases h with ⟨rfl, rfl⟩ | ⟨b, c, rfl, hc⟩
 ·go_enter s39, ntmps39
  go_wp2
  refine wp_loop_rounds 1 ?_
  rw [rounds_succ]
  go_wp2
  go_ret
  exact ⟨⟨_, rfl, rfl⟩, rfl⟩
 ·have HC := Lib.hid hc
  clear hc
  go_enter s39, ntmps39
  go_wp2
  go_loop [5] (fun i => ∃ k : Nat, i = .int .i64 k ∧ k ≤ l.length ∧ Hid (∀ j x, j < k → l[j]? = some x → (x.toList == s.toList) = false)) (fun i => l.length - (intOf i).toNat)
  case atStart => exact ⟨0, rfl, Nat.zero_le _, Lib.hid fun j x hj => absurd hj (Nat.not_lt_zero _)⟩
  case round =>
   obtain ⟨k, rfl, hk, HK⟩ := hrel
   by_cases hlt : k < l.length
   ·obtain ⟨x, hx⟩ : ∃ x, l[k]? = some x := ⟨l[k], by simp [hlt]⟩
    have c0 := HC.out k x hx
    have hm : x ∈ l := List.mem_of_getElem? hx
    cases hq : (x.toList == s.toList) with
    | true =>
      have hh : hasS l s = true := List.any_eq_true.2 ⟨x, hm, hq⟩
      clear hx hm
      go_wp2
      go_ret
      exact ⟨⟨_, rfl, by omega⟩, rfl⟩
    | false =>
      have HN : Hid (∀ j y, j < k + 1 → l[j]? = some y → (y.toList == s.toList) = false) := Lib.hid fun j y hj hy => by
       rcases Nat.lt_succ_iff_lt_or_eq.1 hj with h1 | rfl
       ·exact HK.out j y h1 hy
       ·rw [hx] at hy
        cases hy
        exact hq
      clear hx hm
      go_wp2
      go_round
      case rel => exact ⟨k + 1, by go_num, by omega, HN⟩
      case measure => simp [intOf]; omega
   ·obtain rfl : k = l.length := by omega
    have hh : hasS l s = false := by
     unfold hasS
     rw [List.any_eq_false]
     intro x hx
     obtain ⟨j, hj, rfl⟩ := List.getElem_of_mem hx
     rw [HK.out j l[j] hj (by simp [hj])]
     simp
    go_wp2
    go_ret
    exact ⟨⟨_, rfl, by omega⟩, rfl⟩
end Go.Proofs.Tryz
namespace Go.Proofs.Tryz
open Go Go.Load Go.RowKit Go.Maps
theorem info_str : (Tryz.prog.info? 9).map (fun i => (i.zero, i.size, i.bytes)) = some (some (.string ⟨#[]⟩), 1, 16) := by kernel_rfl
theorem qcJ {base : Nat} {e : TypeId} {W : World} {v : Value} {l : List ByteArray} (h : W.ownsRow base e 1 v l.length (l.map .string)) : StrAt W v l := by
 have hh := h
 obtain ⟨_, ⟨h1, h2⟩ | ⟨g, cap, cur, rfl, _⟩⟩ := h
 ·exact .inl ⟨List.length_eq_zero_iff.1 h2, h1⟩
 ·refine .inr ⟨g, cap, rfl, fun k s hk => ?_⟩
  have := hh.cells (g := g) rfl k (.string s) (by simp [hk])
  have e1 : (⟨g, 0, none⟩ : Addr).add k = ⟨g, k, none⟩ := by simp [Addr.add]; intro h; exact h.symm
  rw [e1] at this
  exact this
def Jl (gs : List Grp) : List Value := gs.map fun g => .string g.name
theorem qcH {gs : List Grp} {k : Nat} {g : Grp} (hg : gs[k]? = some g) : Jl (gs.take k) ++ [.string g.name] = Jl (gs.take (k + 1)) := by
 unfold Jl
 rw [List.take_add_one, hg]
 simp
theorem qdP {base : Nat} {e : TypeId} {W : World} {v : Value} {gs : List Grp} {k : Nat} (hk : k ≤ gs.length) (h : W.ownsRow base e 1 v k (Jl (gs.take k))) : StrAt W v ((gs.take k).map (·.name)) := by
 refine qcJ (base := base) (e := e) ?_
 rw [List.length_map, List.length_take, Nat.min_eq_left hk, List.map_map]
 exact h
theorem qcV (gs : List Grp) (s : ByteArray) : hasS (gs.map (·.name)) s = gs.any fun o => o.name.toList == s.toList := by
 unfold hasS
 rw [List.any_map]
 rfl
theorem traf_all {l : List (Int × Int)} : (l.any fun x => !decide (yu x)) = false ↔ ∀ (j : Nat) (x : Int × Int), l[j]? = some x → yu x := by
 rw [List.any_eq_false]
 constructor
 ·intro h j x hx
  simpa using h x (List.mem_of_getElem? hx)
 ·intro h x hx
  obtain ⟨j, hj, rfl⟩ := List.getElem_of_mem hx
  have := h j l[j] (by simp [hj])
  simpa using this
theorem qfg {l : List (Int × Int)} {j : Nat} {x : Int × Int} (hx : l[j]? = some x) (h : ¬ yu x) : (l.any fun x => !decide (yu x)) = true := List.any_eq_true.2 ⟨x, List.mem_of_getElem? hx, by simpa using h⟩
set_option maxHeartbeats 4000000 in
set_option maxRecDepth 100000 in
theorem qcy (B : Bk) (w : World) (hn : ¬ Jw B) : Calls qf 13 #[bv B] w fun e w' => e = .returned (.int .i64 1) ∧ Below w.heap.size w w' := by
 obtain ⟨lim, gr, hr, gs, ga, gc⟩ := B
 simp only [bv]
 by_cases h1 : Lim lim
 ·have hli := fun W => Zd lim W h1
  simp only [fv] at hli
  by_cases h2 : 0 ≤ gr ∧ gr ≤ 100
  ·have h3 : ¬ (1 ≤ hr ∧ hr ≤ 3) := fun h => hn ⟨h1, h2, h⟩
   go_enter s13, ntmps13
   go_wp2_with (first | (go_at_call 37; (with_reducible refine (hli _).mono ?_); rintro e w1 ⟨rfl, hB1⟩; (first | (replace hB := Below.call (by with_reducible assumption) hB1 (Nat.le_refl _)) | (replace hB := Below.call (by go_grown) hB1 (Nat.le_refl _)) | (have hB := hB1)); (try clear hc hg hz); obtain ⟨hc, hg⟩ := qy hB; have hz := hB.size; clear hB1; (try simp at hz); (try have hlt0 : w.heap.size < w1.heap.size := by omega)) | (go_at_call 8; (with_reducible refine (yX _ _ _ _ h2).mono ?_); rintro e w1 ⟨rfl, rfl⟩) | (go_at_call 8; (with_reducible refine (XQ _ _ _ _ h3).mono ?_); rintro e w1 ⟨rfl, rfl⟩))
   go_ret
   exact ⟨rfl, Below.call (B := w.heap.size) (by go_grown) hB (Nat.le_refl _)⟩
  ·go_enter s13, ntmps13
   go_wp2_with (first | (go_at_call 37; (with_reducible refine (hli _).mono ?_); rintro e w1 ⟨rfl, hB1⟩; (first | (replace hB := Below.call (by with_reducible assumption) hB1 (Nat.le_refl _)) | (replace hB := Below.call (by go_grown) hB1 (Nat.le_refl _)) | (have hB := hB1)); (try clear hc hg hz); obtain ⟨hc, hg⟩ := qy hB; have hz := hB.size; clear hB1; (try simp at hz); (try have hlt0 : w.heap.size < w1.heap.size := by omega)) | (go_at_call 8; (with_reducible refine (XQ _ _ _ _ h2).mono ?_); rintro e w1 ⟨rfl, rfl⟩))
   go_ret
   exact ⟨rfl, Below.call (B := w.heap.size) (by go_grown) hB (Nat.le_refl _)⟩
 ·have hli := fun W => qed lim W h1
  simp only [fv] at hli
  go_enter s13, ntmps13
  go_wp2_with (first | (go_at_call 37; (with_reducible refine (hli _).mono ?_); rintro e w1 ⟨rfl, hB1⟩; (first | (replace hB := Below.call (by with_reducible assumption) hB1 (Nat.le_refl _)) | (replace hB := Below.call (by go_grown) hB1 (Nat.le_refl _)) | (have hB := hB1)); (try clear hc hg hz); obtain ⟨hc, hg⟩ := qy hB; have hz := hB.size; clear hB1; (try simp at hz); (try have hlt0 : w.heap.size < w1.heap.size := by omega)))
  go_ret
  exact ⟨rfl, Below.call (B := w.heap.size) (by go_grown) hB (Nat.le_refl _)⟩
set_option maxHeartbeats 4000000 in
set_option maxRecDepth 100000 in
theorem qdc (B : Bk) (w : World) (hn : Jw B) (hl : ¬ (1 ≤ B.gs.length ∧ B.gs.length ≤ 4)) : Calls qf 13 #[bv B] w fun e w' => e = .returned (.int .i64 2) ∧ Below w.heap.size w w' := by
 obtain ⟨lim, gr, hr, gs, ga, gc⟩ := B
 simp only [bv]
 obtain ⟨h1, h2, h3⟩ := hn
 simp only at h1 h2 h3 hl
 have hli := fun W => Zd lim W h1
 simp only [fv] at hli
 have h4 : ¬ ((1 : Int) ≤ (gs.length : Int) ∧ (gs.length : Int) ≤ 4) := by omega
 go_enter s13, ntmps13
 go_wp2_with (first | (go_at_call 37; (with_reducible refine (hli _).mono ?_); rintro e w1 ⟨rfl, hB1⟩; (first | (replace hB := Below.call (by with_reducible assumption) hB1 (Nat.le_refl _)) | (replace hB := Below.call (by go_grown) hB1 (Nat.le_refl _)) | (have hB := hB1)); (try clear hc hg hz); obtain ⟨hc, hg⟩ := qy hB; have hz := hB.size; clear hB1; (try simp at hz); (try have hlt0 : w.heap.size < w1.heap.size := by omega)) | (go_at_call 8; (with_reducible refine (yX _ _ _ _ h2).mono ?_); rintro e w1 ⟨rfl, rfl⟩) | (go_at_call 8; (with_reducible refine (yX _ _ _ _ h3).mono ?_); rintro e w1 ⟨rfl, rfl⟩) | (go_at_call 8; (with_reducible refine (XQ _ _ _ _ h4).mono ?_); rintro e w1 ⟨rfl, rfl⟩))
 go_ret
 exact ⟨rfl, Below.call (B := w.heap.size) (by go_grown) hB (Nat.le_refl _)⟩
theorem Qt (w : World) (x : Value) (t : TypeId) (z : Nat) (hz : w.heap.size = z) : ∀ j u, [x][j]? = some u → (w.alloc (.cells #[x] t)).cell? ((⟨z, 0, none⟩ : Addr).add j) = some u := by subst hz; exact cell_one_new w x t
theorem Qx (s : ByteArray) : ∀ u ∈ [Value.string s], u.oneCell' = true := by
 intro u hu
 rw [List.mem_singleton] at hu
 subst hu
 rfl
theorem qbg (p q s : Prop) [Decidable p] [Decidable q] [Decidable s] (X : Int) : (if (if p then (1 : Int) else if q then 2 else if s then 1 else 0) ≠ 0 then (if p then (1 : Int) else if q then 2 else if s then 1 else 0) else X) = if p then 1 else if q then 2 else if s then 1 else X := by
 by_cases hp : p <;> by_cases hq : q <;> by_cases hs : s <;> simp [hp, hq, hs]
set_option maxHeartbeats 4000000 in
set_option maxRecDepth 100000 in
theorem qcv (B : Bk) (w : World) (h : BookAt w B) : Calls qf 13 #[bv B] w fun e w' => e = .returned (.int .i64 (checkN B)) ∧ Below w.heap.size w w' := by
 by_cases hn : Jw B
 case neg =>
  have e1 : zK B = 1 := if_neg hn
  have e : checkN B = 1 := by unfold checkN; rw [e1, if_neg (by decide)]
  rw [e]
  exact qcy B w hn
 have e1 : zK B = 0 := if_pos hn
 have e : checkN B = yM B := by unfold checkN; rw [e1, if_pos rfl]
 rw [e]
 clear e e1
 by_cases hlen : 1 ≤ B.gs.length ∧ B.gs.length ≤ 4
 case neg =>
  rw [show yM B = 2 from if_neg hlen]
  exact qdc B w hn hlen
 rw [show yM B = qV (zx B.gs B.hours) 0 B.gs from if_pos hlen]
 obtain ⟨R, hR⟩ : ∃ R, qV (zx B.gs B.hours) 0 B.gs = R := ⟨_, rfl⟩
 rw [hR]
 have hrow := h.row
 have hsm := h.small.2
 have htr := h.traf
 clear h
 obtain ⟨lim, gr, hr, gs, ga, gc⟩ := B
 obtain ⟨h1, h2, h3⟩ := hn
 simp only at h1 h2 h3 hlen hrow hR hsm htr
 simp only [bv]
 have HR := Lib.hid hR
 clear hR
 obtain ⟨b, o, hga, hcs⟩ := hrow hlen.1
 simp only at hga hcs
 subst hga
 have HC := Lib.hid hcs
 have HS := Lib.hid hsm
 have HT := Lib.hid htr
 clear hcs hsm htr hrow
 have hli := fun W => Zd lim W h1
 simp only [fv] at hli
 obtain ⟨i0, hi, hz0, hz1, hz2⟩ := info_parts info_str
 have h4 : ((1 : Int) ≤ (gs.length : Int) ∧ (gs.length : Int) ≤ 4) := by omega
 go_enter s13, ntmps13
 go_wp2_with (first | (go_at_call 37; (with_reducible refine (hli _).mono ?_); rintro e w1 ⟨rfl, hB1⟩; (first | (replace hB := Below.call (by with_reducible assumption) hB1 (Nat.le_refl _)) | (replace hB := Below.call (by go_grown) hB1 (Nat.le_refl _)) | (have hB := hB1)); (try clear hc hg hz); obtain ⟨hc, hg⟩ := qy hB; have hz := hB.size; clear hB1; (try simp at hz); (try have hlt0 : w.heap.size < w1.heap.size := by omega)) | (go_at_call 8; (with_reducible refine (yX _ _ _ _ h2).mono ?_); rintro e w1 ⟨rfl, rfl⟩) | (go_at_call 8; (with_reducible refine (yX _ _ _ _ h3).mono ?_); rintro e w1 ⟨rfl, rfl⟩) | (go_at_call 8; (with_reducible refine (yX _ _ _ _ h4).mono ?_); rintro e w1 ⟨rfl, rfl⟩))
 obtain ⟨W, hW⟩ : ∃ W, W = w1 := ⟨_, rfl⟩
 have k3 : W.cell? ⟨w.heap.size, 3, none⟩ = some (.int .i64 hr) := by rw [hW]; go_cell
 have k4 : W.cell? ⟨w.heap.size, 4, none⟩ = some (.slice (some ⟨b, o, none⟩) gs.length gc) := by rw [hW]; go_cell
 have hBW : Below w.heap.size w W := by rw [hW]; exact Below.call (B := w.heap.size) (by go_grown) hB (Nat.le_refl _)
 rw [← hW]
 clear hc hg hB hz hW
 go_loopw [3, 4] (fun v i wr => ∃ k : Nat, i = .int .i64 k ∧ k ≤ gs.length ∧ Below W.heap.size W wr ∧ wr.ownsRow W.heap.size 9 1 v k (Jl (gs.take k)) ∧ Hid (qV (zx gs hr) k (gs.drop k) = R)) (fun _ i _ => gs.length - (intOf i).toNat)
 case atStart => exact ⟨0, rfl, by omega, Below.refl _ _, World.ownsRow_nil _ _ _ _, HR⟩
 case round =>
  obtain ⟨k, rfl, hk, hBr, hown, HE⟩ := hrel
  have k3W := k3
  have k4W := k4
  have k3 := qb _ hBr k3
  have k4 := qb _ hBr k4
  have hBw := Below.call hBW hBr (Nat.le_refl _)
  have hsz := hBw.size
  have hsz1 := hBr.size
  have hsz2 : w.heap.size < wr.heap.size := lt_of_cell k4
  by_cases hlt : k < gs.length
  ·obtain ⟨g, hg⟩ : ∃ g, gs[k]? = some g := ⟨gs[k], by simp [hlt]⟩
   have hm : g ∈ gs := List.mem_of_getElem? hg
   obtain ⟨c0, c1, c2⟩ := HC.out k g hg
   have c0 := qb _ hBw c0
   have c1 := qb _ hBw c1
   have c2 := qb _ hBw c2
   have hnm := fun W => qaP g.name (HS.out g hm).2 W
   have hix := fun (X : World) (hB : Below wr.heap.size wr X) => qbl ((gs.take k).map (·.name)) g.name _ (by rw [List.length_map, List.length_take]; omega) X (qdP hk (yY hown hB))
   simp only [qcV] at hix
   have hA := HE.out
   rw [jP _ hg] at hA
   obtain ⟨r1, h1⟩ : ∃ r, jA g.name = r := ⟨_, rfl⟩
   obtain ⟨r2, h2⟩ : ∃ r, ((gs.take k).any fun o => o.name.toList == g.name.toList) = r := ⟨_, rfl⟩
   have hga : zx gs hr k g = if r1 = false then 4 else if r2 = true then 5 else if btw g.trunks 0 7 = false then 1 else if (g.traffic.length : Int) ≠ hr then 2 else if (g.traffic.any fun x => !decide (yu x)) = true then 1 else 0 := by unfold zx; rw [h1, h2]
   rw [hga] at hA
   simp only [h1] at hnm
   simp only [h2] at hix
   have hstep := qcH hg
   clear hga h1 h2
   have fin : ∀ {q : Int} {w1 : World}, R = q → Below w.heap.size w w1 → Ending.returned (.int .i64 q) = Ending.returned (.int .i64 R) ∧ Below w.heap.size w w1 := fun e hb => ⟨by rw [e], hb⟩
   cases r1 with
   | false =>
     simp only [if_true] at hA
     have HA : Hid (R = 4) := Lib.hid (by rw [← hA]; rfl)
     clear hA hix
     go_wp2_with (first | (go_at_call 38; (with_reducible refine (hnm _).mono ?_); rintro e w1 ⟨rfl, rfl⟩))
     go_ret
     exact fin HA.out (Below.call hBw (B := w.heap.size) (by go_grown) (by omega))
   | true =>
     cases r2 with
     | true =>
       have HA : Hid (R = 5) := Lib.hid (by rw [← hA]; rfl)
       clear hA
       go_wp2_with (first | (go_at_call 38; (with_reducible refine (hnm _).mono ?_); rintro e w1 ⟨rfl, rfl⟩) | (go_at_call 39; (refine (hix _ (by go_grown)).mono ?_); rintro e w1 ⟨⟨ri, rfl, hri⟩, rfl⟩))
       go_ret
       exact fin HA.out (Below.call hBw (B := w.heap.size) (by go_grown) (by omega))
     | false =>
       rw [if_neg (show ¬ (true = false) by decide), if_neg (show ¬ (false = true) by decide), qbg] at hA
       have hne : some wr.heap.size ≠ u3.ownBlock := fun e => by have := (hown.lt _ e.symm).2; omega
       by_cases ht : 0 ≤ g.trunks ∧ g.trunks ≤ 7
       ·have htb : btw g.trunks 0 7 = true := by unfold btw; simp [ht.1, ht.2]
        rw [htb] at hA
        rw [if_neg (show ¬ (true = false) by decide)] at hA
        by_cases hl : (g.traffic.length : Int) = hr
        ·have hlb : ((g.traffic.length : Int) != hr) = false := by simp [hl]
         have HA := Lib.hid hA
         obtain ⟨tb, tq, hta, hps⟩ := HT.out g hm (by omega)
         have HP := Lib.hid hps
         have hm20 := (HS.out g hm).1
         clear hA hps hg hm
         go_wp2_with (first | (go_at_call 38; (with_reducible refine (hnm _).mono ?_); rintro e w1 ⟨rfl, rfl⟩) | (go_at_call 39; (refine (hix _ (by go_grown)).mono ?_); rintro e w1 ⟨⟨ri, rfl, hri⟩, rfl⟩) | (at_builtin; refine wpList_append_own _ rfl (.tmp 49) (.tmp 52) 79 rfl W.heap.size 9 i0 (.string ⟨#[]⟩) 1 16 ((zm _).trans Tryz.underlying79) hi hz0 hz1 hz2 rfl (by decide) _ _ _ rfl ((yY hown (by go_grown)).alloc _) ⟨_, 0, none⟩ 1 1 [.string g.name] rfl rfl (Qt _ _ _ _ (by simp)) (Qx _) (by unfold maxLen; omega) (by omega) (by simp; omega) ?_; intro v1 w3 hown1 hgrow1 hnil1; have b1 : w3.cell? ⟨wr.heap.size, 1, none⟩ = some (.int .i64 g.trunks) := hgrow1.cell (by go_cell) hne; have b2 : w3.cell? ⟨wr.heap.size, 2, none⟩ = some (.slice g.ta g.traffic.length g.tc) := hgrow1.cell (by go_cell) hne; have hB3 : Below W.heap.size W w3 := ((Below.call hBr (by go_grown) (Nat.le_refl _)).alloc (by simp; omega) _).grown hgrow1 (by simp; omega) (fun j hj => (hown.lt j hj).1); have z3 := hB3.size; have k3' := qb _ hB3 k3W; have k4' := qb _ hB3 k4W; have hBw3 := Below.call hBW hB3 (Nat.le_refl _)) | (go_at_call 40; (with_reducible refine (Yw _ _ ht).mono ?_); rintro e w1 ⟨rfl, rfl⟩))
         rw [hta] at b2
         clear k3 k4 c0 c1 c2 k3W k4W b1
         go_loopw [6] (fun i wq => ∃ j : Nat, i = .int .i64 j ∧ j ≤ g.traffic.length ∧ Below w3.heap.size w3 wq ∧ Hid (∀ (p : Nat) (x : Int × Int), p < j → g.traffic[p]? = some x → yu x)) (fun i _ => g.traffic.length - (intOf i).toNat)
         case atStart => exact ⟨0, rfl, by omega, Below.refl _ _, Lib.hid fun p x hp => absurd hp (Nat.not_lt_zero _)⟩
         case round =>
          rename_i wq
          obtain ⟨j, rfl, hj, hBq, HJ⟩ := hrel
          have b2 := qb _ hBq b2
          have hBwq := Below.call hBw3 hBq (Nat.le_refl _)
          by_cases hjl : j < g.traffic.length
          ·obtain ⟨x, hx⟩ : ∃ x, g.traffic[j]? = some x := ⟨g.traffic[j], by simp [hjl]⟩
           obtain ⟨p0, p1⟩ := HP.out j x hx
           have p0 := qb _ hBwq p0
           have p1 := qb _ hBwq p1
           by_cases hT : yu x
           ·have htf := fun W => JS x W hT
            simp only [fv] at htf
            have HN : Hid (∀ (p : Nat) (y : Int × Int), p < j + 1 → g.traffic[p]? = some y → yu y) := Lib.hid fun p y hp hy => by
             rcases Nat.lt_succ_iff_lt_or_eq.1 hp with q1 | rfl
             ·exact HJ.out p y q1 hy
             ·rw [hx] at hy
              cases hy
              exact hT
            clear hx hT
            go_wp2_with (go_at_call 41; (with_reducible refine (htf _).mono ?_); rintro e wz ⟨rfl, hBz⟩)
            go_roundw
            case rel => exact ⟨j + 1, by go_num, by omega, Below.call hBq hBz (Nat.le_refl _), HN⟩
            case measure => simp [intOf]; omega
           ·have htf := fun W => qbk x W hT
            simp only [fv] at htf
            have HA : Hid (R = 1) := Lib.hid (by rw [← HA.out, if_neg (by simp [hl]), if_pos (qfg hx hT)])
            clear hx hT
            go_wp2_with (go_at_call 41; (with_reducible refine (htf _).mono ?_); rintro e wz ⟨rfl, hBz⟩)
            go_ret
            exact fin HA.out (Below.call hBwq hBz (Nat.le_refl _))
          ·obtain rfl : j = g.traffic.length := by omega
           have HA : Hid (qV (zx gs hr) (k + 1) (gs.drop (k + 1)) = R) := Lib.hid (by rw [← HA.out, if_neg (by simp [hl]), if_neg (by rw [traf_all.2 fun p x hx => HJ.out p x (List.getElem?_eq_some_iff.1 hx).1 hx]; simp)])
           go_wp2
           go_roundw
           case rel => exact ⟨k + 1, by go_num, by omega, Below.call hB3 hBq (Nat.le_refl _), by rw [← hstep]; exact yY hown1 hBq, HA⟩
           case measure => simp [intOf]; omega
        ·have hlb : ((g.traffic.length : Int) != hr) = true := by simp [hl]
         have HA : Hid (R = 2) := Lib.hid (by rw [← hA, if_pos hl])
         clear hA hg hm
         go_wp2_with (first | (go_at_call 38; (with_reducible refine (hnm _).mono ?_); rintro e w1 ⟨rfl, rfl⟩) | (go_at_call 39; (refine (hix _ (by go_grown)).mono ?_); rintro e w1 ⟨⟨ri, rfl, hri⟩, rfl⟩) | (at_builtin; refine wpList_append_own _ rfl (.tmp 49) (.tmp 52) 79 rfl W.heap.size 9 i0 (.string ⟨#[]⟩) 1 16 ((zm _).trans Tryz.underlying79) hi hz0 hz1 hz2 rfl (by decide) _ _ _ rfl ((yY hown (by go_grown)).alloc _) ⟨_, 0, none⟩ 1 1 [.string g.name] rfl rfl (Qt _ _ _ _ (by simp)) (Qx _) (by unfold maxLen; omega) (by omega) (by simp; omega) ?_; intro v1 w3 hown1 hgrow1 hnil1; have b1 : w3.cell? ⟨wr.heap.size, 1, none⟩ = some (.int .i64 g.trunks) := hgrow1.cell (by go_cell) hne; have b2 : w3.cell? ⟨wr.heap.size, 2, none⟩ = some (.slice g.ta g.traffic.length g.tc) := hgrow1.cell (by go_cell) hne; have hB3 : Below W.heap.size W w3 := ((Below.call hBr (by go_grown) (Nat.le_refl _)).alloc (by simp; omega) _).grown hgrow1 (by simp; omega) (fun j hj => (hown.lt j hj).1); have z3 := hB3.size; have k3' := qb _ hB3 k3W; have k4' := qb _ hB3 k4W; have hBw3 := Below.call hBW hB3 (Nat.le_refl _)) | (go_at_call 40; (with_reducible refine (Yw _ _ ht).mono ?_); rintro e w1 ⟨rfl, rfl⟩))
         go_ret
         exact fin HA.out hBw3
       ·have htb : btw g.trunks 0 7 = false := by unfold btw; rw [Bool.and_eq_false_iff, decide_eq_false_iff_not, decide_eq_false_iff_not]; omega
        have HA : Hid (R = 1) := Lib.hid (by rw [← hA, if_pos htb])
        clear hA hg hm
        go_wp2_with (first | (go_at_call 38; (with_reducible refine (hnm _).mono ?_); rintro e w1 ⟨rfl, rfl⟩) | (go_at_call 39; (refine (hix _ (by go_grown)).mono ?_); rintro e w1 ⟨⟨ri, rfl, hri⟩, rfl⟩) | (at_builtin; refine wpList_append_own _ rfl (.tmp 49) (.tmp 52) 79 rfl W.heap.size 9 i0 (.string ⟨#[]⟩) 1 16 ((zm _).trans Tryz.underlying79) hi hz0 hz1 hz2 rfl (by decide) _ _ _ rfl ((yY hown (by go_grown)).alloc _) ⟨_, 0, none⟩ 1 1 [.string g.name] rfl rfl (Qt _ _ _ _ (by simp)) (Qx _) (by unfold maxLen; omega) (by omega) (by simp; omega) ?_; intro v1 w3 hown1 hgrow1 hnil1; have b1 : w3.cell? ⟨wr.heap.size, 1, none⟩ = some (.int .i64 g.trunks) := hgrow1.cell (by go_cell) hne; have b2 : w3.cell? ⟨wr.heap.size, 2, none⟩ = some (.slice g.ta g.traffic.length g.tc) := hgrow1.cell (by go_cell) hne; have hB3 : Below W.heap.size W w3 := ((Below.call hBr (by go_grown) (Nat.le_refl _)).alloc (by simp; omega) _).grown hgrow1 (by simp; omega) (fun j hj => (hown.lt j hj).1); have z3 := hB3.size; have k3' := qb _ hB3 k3W; have k4' := qb _ hB3 k4W; have hBw3 := Below.call hBW hB3 (Nat.le_refl _)) | (go_at_call 40; (with_reducible refine (qcj _ _ ht).mono ?_); rintro e w1 ⟨rfl, rfl⟩))
        go_ret
        exact fin HA.out hBw3
  ·obtain rfl : k = gs.length := by omega
   have hA := HE.out
   rw [List.drop_length] at hA
   have HA := Lib.hid hA
   clear hA
   go_wp2
   go_ret
   exact ⟨by rw [← HA.out]; rfl, hBw⟩
end Go.Proofs.Tryz
