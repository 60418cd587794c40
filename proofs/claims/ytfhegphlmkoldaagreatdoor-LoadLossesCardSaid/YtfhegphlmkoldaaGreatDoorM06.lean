/-
  A part of the proof (C33 C34 SrcL C40 C8 C26 C42 C43 C44 C48 C51 C45 C46 C55 R0 CK C9 C10 C54 CL SrcR R1 R2 R3 R4 R5): lemmas about the program and about the machine that the last text of this claim rests upon; no condition.
-/
import Derived.Deep.DeepCutAuto
import Derived.Maps.AppendAt
import Derived.Test.YtfhegphlmkoldaaGreatDoorM04
import Derived.Test.YtfhegphlmkoldaaGreatDoorM05
import Derived.Test.YtfhegphlmkoldaaGreatDoorM03
set_option linter.unusedSimpArgs false
set_option linter.unusedVariables false
section
namespace Go.Proofs.Tryz
open Go Go.Load Go.RowKit
def blank (g : Grp) : Grp := { g with ta := none, tc := 0 }
theorem QW {l l' : List Grp} (h : zW l l') : l'.map blank = l.map blank := by
 refine List.ext_getElem? fun i => ?_
 rw [List.getElem?_map, List.getElem?_map]
 cases h1 : l[i]? with
 | none => rw [List.getElem?_eq_none (by have := List.getElem?_eq_none_iff.1 h1; have := h.1; omega)]
 | some g =>
   have hi := (List.getElem?_eq_some_iff.1 h1).1
   obtain ⟨g', h2⟩ : ∃ g', l'[i]? = some g' := ⟨l'[i]'(by have := h.1; omega), by simp⟩
   obtain ⟨a, b, c⟩ := h.2 i g g' h1 h2
   rw [h2]
   simp [blank, a, b, c]
theorem zW.trans {a b c : List Grp} (h : zW a b) (k : zW b c) : zW a c := ⟨k.1.trans h.1, fun i x z hx hz => by
 have hi := (List.getElem?_eq_some_iff.1 hx).1
 obtain ⟨y, hy⟩ : ∃ y, b[i]? = some y := ⟨b[i]'(by have := h.1; omega), by simp⟩
 obtain ⟨p, q, r⟩ := h.2 i x y hx hy
 obtain ⟨p', q', r'⟩ := k.2 i y z hy hz
 exact ⟨p'.trans p, q'.trans q, r'.trans r⟩⟩
theorem YX (gs : List Grp) (hours : Int) (i : Nat) (g : Grp) : yN (gs.map blank) hours i (blank g) = yN gs hours i g := by
 unfold yN
 rw [← List.map_take, List.any_map]
 rfl
theorem jl (f f' : Nat → Grp → Int) (h : ∀ i g, f' i (blank g) = f i g) : ∀ (l : List Grp) (i : Nat), zD f' i (l.map blank) = zD f i l
 | [], _ => rfl
 | g :: l, i => by
   simp only [List.map_cons, zD, h, jl f f' h l]
theorem Zu (B : Bk) : checkN { B with gs := B.gs.map blank, ga := none, gc := 0 } = checkN B := by
 unfold checkN
 have e1 : zQ { B with gs := B.gs.map blank, ga := none, gc := 0 } = zQ B := rfl
 have e2 : xY { B with gs := B.gs.map blank, ga := none, gc := 0 } = xY B := by
  unfold xY
  simp only [List.length_map]
  rw [jl _ _ (YX B.gs B.hours)]
 rw [e1, e2]
theorem Ye {B : Bk} {l : List Grp} (h : zW B.gs l) (ga : Option Addr) (gc : Nat) : checkN { B with gs := l, ga := ga, gc := gc } = checkN B := by
 rw [← Zu, ← Zu B]
 simp only [QW h]
def qX (B : Bk) : Nat → Bk
 | 0 => B
 | n + 1 => Yr (qX B n)
theorem Qd (B : Bk) : ∀ n, (qX B n).gs.length = B.gs.length
 | 0 => rfl
 | n + 1 => by simp [qX, Yr, Qd B n]
theorem xW (B : Bk) : ∀ n, (qX B n).lim = B.lim ∧ (qX B n).growth = B.growth ∧ (qX B n).hours = B.hours ∧ (qX B n).ga = B.ga ∧ (qX B n).gc = B.gc
 | 0 => ⟨rfl, rfl, rfl, rfl, rfl⟩
 | n + 1 => xW B n
theorem xN (B : Bk) : ∀ (n i : Nat) (x : Grp), (qX B n).gs[i]? = some x → ∃ y : Grp, B.gs[i]? = some y ∧ x.name = y.name ∧ x.trunks = y.trunks ∧ x.traffic.length = y.traffic.length
 | 0, i, x, h => ⟨x, h, rfl, rfl, rfl⟩
 | n + 1, i, x, h => by
   simp only [qX, Yr, List.getElem?_map] at h
   obtain ⟨z, hz, rfl⟩ := Option.map_eq_some_iff.1 h
   obtain ⟨y, hy, a, b, c⟩ := xN B n i z hz
   exact ⟨y, hy, a, b, by simpa [ZJ] using c⟩
def YV (base : Nat) (B : Bk) (n : Nat) (W : World) (g gc : Nat) (l : List Grp) (tb : Nat → Nat) : Prop := zW (qX B n).gs l ∧ OwnGs base W g l l.length tb ∧ l.length ≤ gc
theorem YV.book {base g gc n : Nat} {B : Bk} {W : World} {l : List Grp} {tb : Nat → Nat} (h : YV base B n W g gc l tb) (hsm : B.gs.length ≤ 20 ∧ ∀ x ∈ B.gs, x.traffic.length ≤ 20 ∧ x.name.size ≤ 100) : BookAt W { B with gs := l, ga := some ⟨g, 0, none⟩, gc := gc } := by
 obtain ⟨hS, hO, hc⟩ := h
 have hb := YG (B := qX B n) hS hO hc ⟨by rw [Qd]; exact hsm.1, fun x hx => by
  obtain ⟨i, hi⟩ := List.getElem?_of_mem hx
  obtain ⟨y, hy, a, _, b⟩ := xN B n i x hi
  rw [a, b]; exact hsm.2 y (List.mem_of_getElem? hy)⟩
 exact ⟨hb.row, hb.traf, hb.small, hb.cap⟩
theorem YV.keep {base g gc n : Nat} {B : Bk} {W W1 : World} {l : List Grp} {tb : Nat → Nat} (h : YV base B n W g gc l tb) (hB : Below W.heap.size W W1) : YV base B n W1 g gc l tb := ⟨h.1, h.2.1.keep hB, h.2.2⟩
theorem YV.filled {base g gc n : Nat} {B : Bk} {W : World} {l : List Grp} {tb : Nat → Nat} (h : YV base B n W g gc l tb) (ht : ∀ x ∈ B.gs, 1 ≤ x.traffic.length) : ∀ x ∈ l, 1 ≤ x.traffic.length := fun x hx => by
 obtain ⟨i, hi, rfl⟩ := List.getElem_of_mem hx
 have hl := h.1.1
 obtain ⟨z, hz⟩ : ∃ z, (qX B n).gs[i]? = some z := ⟨(qX B n).gs[i]'(by omega), by simp⟩
 obtain ⟨_, _, c⟩ := h.1.2 i z l[i] hz (by simp)
 obtain ⟨y, hy, _, _, b⟩ := xN B n i z hz
 rw [c, b]; exact ht y (List.mem_of_getElem? hy)
theorem YV.year {base b' g gc n : Nat} {B : Bk} {W W1 : World} {l : List Grp} {tb : Nat → Nat} {e : Ending} (h : YV base B n W g gc l tb) (hb : base ≤ b') (k : OwnP b' (Yr { B with gs := l, ga := some ⟨g, 0, none⟩, gc := gc }) W1 e) :
 ∃ g gc l tb, e = .returned (bv { B with gs := l, ga := some ⟨g, 0, none⟩, gc := gc }) ∧ YV base B (n + 1) W1 g gc l tb := by
 obtain ⟨g1, gc1, l1, tb1, e1, hS, hO, hc⟩ := k
 refine ⟨g1, gc1, l1, tb1, e1, ?_, hO.mono hb, hc⟩
 have := Yt (r := B.growth) h.1
 have e := (xW B n).2.1
 simp only [qX, Yr, e]
 exact this.trans hS
theorem OwnP.first {base : Nat} {B : Bk} {W : World} {e : Ending} (k : OwnP base B W e) : ∃ g gc l tb, e = .returned (bv { B with gs := l, ga := some ⟨g, 0, none⟩, gc := gc }) ∧ YV base B 0 W g gc l tb := by
 obtain ⟨g1, gc1, l1, tb1, e1, hS, hO, hc⟩ := k
 exact ⟨g1, gc1, l1, tb1, e1, hS, hO, hc⟩
end Go.Proofs.Tryz
end
section
namespace Go.Proofs.Tryz
open Go Go.Load Go.RowKit
structure Five (W : World) (b : Nat) (v0 v1 v2 v3 v4 : Value) : Prop where
 c : W.cell? ⟨b, 0, none⟩ = some v0 ∧ W.cell? ⟨b, 1, none⟩ = some v1 ∧ W.cell? ⟨b, 2, none⟩ = some v2 ∧ W.cell? ⟨b, 3, none⟩ = some v3 ∧ W.cell? ⟨b, 4, none⟩ = some v4
 f : W.frozen? ⟨b, 0, none⟩ = false ∧ W.frozen? ⟨b, 1, none⟩ = false ∧ W.frozen? ⟨b, 2, none⟩ = false ∧ W.frozen? ⟨b, 3, none⟩ = false ∧ W.frozen? ⟨b, 4, none⟩ = false
theorem Five.keep {W W1 : World} {b : Nat} {v0 v1 v2 v3 v4 : Value} (h : Five W b v0 v1 v2 v3 v4) (hB : Below W.heap.size W W1) : Five W1 b v0 v1 v2 v3 v4 := by
 obtain ⟨⟨a0, a1, a2, a3, a4⟩, ⟨f0, f1, f2, f3, f4⟩⟩ := h
 exact ⟨⟨qb _ hB a0, qb _ hB a1, qb _ hB a2, qb _ hB a3, qb _ hB a4⟩, ⟨qf _ hB a0 f0, qf _ hB a1 f1, qf _ hB a2 f2, qf _ hB a3 f3, qf _ hB a4 f4⟩⟩
theorem Five.put {W : World} {b : Nat} {v0 v1 v2 v3 v4 : Value} (u0 u1 u2 u3 u4 : Value) (h : Five W b v0 v1 v2 v3 v4) : Five (set5 W b u0 u1 u2 u3 u4) b u0 u1 u2 u3 u4 := by
 obtain ⟨⟨a0, a1, a2, a3, a4⟩, ⟨f0, f1, f2, f3, f4⟩⟩ := h
 exact ⟨put5 u0 u1 u2 u3 u4 a0 a1 a2 a3 a4, by simpa [set5] using f0, by simpa [set5] using f1, by simpa [set5] using f2, by simpa [set5] using f3, by simpa [set5] using f4⟩
theorem Five.other {W : World} {b c : Nat} {v0 v1 v2 v3 v4 : Value} (u0 u1 u2 u3 u4 : Value) (h : Five W b v0 v1 v2 v3 v4) (e : b ≠ c) : Five (set5 W c u0 u1 u2 u3 u4) b v0 v1 v2 v3 v4 := by
 obtain ⟨⟨a0, a1, a2, a3, a4⟩, ⟨f0, f1, f2, f3, f4⟩⟩ := h
 exact ⟨⟨(qP e).trans a0, (qP e).trans a1, (qP e).trans a2, (qP e).trans a3, (qP e).trans a4⟩, by simpa [set5] using f0, by simpa [set5] using f1, by simpa [set5] using f2, by simpa [set5] using f3, by simpa [set5] using f4⟩
theorem Five.new (W : World) (v0 v1 v2 v3 v4 : Value) (ty : TypeId) : Five (W.alloc (.cells #[v0, v1, v2, v3, v4] ty)) W.heap.size v0 v1 v2 v3 v4 :=
 ⟨⟨by go_cell, by go_cell, by go_cell, by go_cell, by go_cell⟩, ⟨by go_cell, by go_cell, by go_cell, by go_cell, by go_cell⟩⟩
theorem Five.new' {b : Nat} (W : World) (v0 v1 v2 v3 v4 : Value) (ty : TypeId) (e : b = W.heap.size) : Five (W.alloc (.cells #[v0, v1, v2, v3, v4] ty)) b v0 v1 v2 v3 v4 := by subst e; exact .new W v0 v1 v2 v3 v4 ty
theorem OwnGs.five' {base g k b : Nat} {W : World} {l : List Grp} {tb : Nat → Nat} {v0 v1 v2 v3 v4 : Value} (h : OwnGs base W g l k tb) (hk : k = l.length) (hb : b < base) : OwnGs base (set5 W b v0 v1 v2 v3 v4) g l k tb :=
 h.five (by have := h.lo; omega) fun i y hi hy => by have := (h.ta i y hi hy).2.1; omega
theorem YV.five {base g gc n b : Nat} {B : Bk} {W : World} {l : List Grp} {tb : Nat → Nat} {v0 v1 v2 v3 v4 : Value} (h : YV base B n W g gc l tb) (hb : b < base) : YV base B n (set5 W b v0 v1 v2 v3 v4) g gc l tb := ⟨h.1, h.2.1.five' rfl hb, h.2.2⟩
theorem YV.mono {a b g gc n : Nat} {B : Bk} {W : World} {l : List Grp} {tb : Nat → Nat} (h : YV b B n W g gc l tb) (e : a ≤ b) : YV a B n W g gc l tb := ⟨h.1, h.2.1.mono e, h.2.2⟩
def qbO (base : Nat) (B : Bk) (N : Nat) (W : World) (e : Ending) : Prop :=
 if checkN (qX B N) ≠ 0 then e = .returned (.tuple #[bz, .int .i64 (checkN (qX B N))])
 else ∃ g gc l tb, e = .returned (.tuple #[bv { B with gs := l, ga := some ⟨g, 0, none⟩, gc := gc }, .int .i64 0]) ∧ YV base B N W g gc l tb
set_option maxHeartbeats 4000000 in
set_option maxRecDepth 100000 in
theorem Grow_ok (B : Bk) (N : Nat) (w : World) (h : BookAt w B) (hG : Globs w) (hc : checkN B = 0) (hn : N ≤ 6) : Calls qg 44 #[bv B, .int .i64 N] w fun e w' => qbO w.heap.size B N w' e ∧ Below w.heap.size w w' := by
 have hop := fun W (hB : Below w.heap.size w W) => yg B true W (h.keep hB) (hG.keep hB)
 simp only [Qi, if_pos hc] at hop
 have hbt := fun W => qE (N : Int) 0 6 W ⟨by omega, by omega⟩
 have hV := za hc
 have hsm := h.small
 have hfl : ∀ g ∈ B.gs, 1 ≤ g.traffic.length := fun g hg => by have := (hV.grp g hg).len; have := hV.num.2.2.1; omega
 have hown := fun W (hB : Below w.heap.size w W) => qas B W (h.keep hB) hV.len1 hfl
 have HS := Lib.hid hsm
 have HF := Lib.hid hfl
 have HV := Lib.hid hV
 have HG := Lib.hid hG
 have H1 := Lib.hid hV.num.2.1
 clear hsm hfl hV
 obtain ⟨lim, gr, hr, gs, ga, gc⟩ := B
 simp only [bv, bz] at *
 clear h hG hc
 go_enter s44, ntmps44
 go_upto_region 6 with (first | ((go_at_call 59; (with_reducible refine (hop _ (by go_grown)).mono ?_); rintro e w1 ⟨rfl, hB1⟩; (first | (replace hB := Below.call (by with_reducible assumption) hB1 (Nat.le_refl _)) | (replace hB := Below.call (by go_grown) hB1 (Nat.le_refl _)) | (have hB := hB1)); (try clear hc hg hz); obtain ⟨hc, hg⟩ := qp hB; have hz := hB.size; clear hB1; (try simp at hz); (try have hlt0 : w.heap.size < w1.heap.size := by omega)); have hz5 : w.heap.size + 1 < w1.heap.size := (by omega); have hz6 : w.heap.size + 1 < w1.heap.size + 1 := (by omega)) | (go_at_call 33; (with_reducible refine (hbt _).mono ?_); rintro e w1 ⟨rfl, rfl⟩))
 have hF := ((Five.new' (b := w.heap.size + 1) _ _ _ _ _ _ 45 (by simp)).keep hB).keep ((Below.refl _ w1).alloc (Nat.le_refl _) (.cells #[.int .i64 lim.1, .int .i64 lim.2, .int .i64 gr, .int .i64 hr, .slice ga gs.length gc] 80))
 have hF6 := Five.new w1 (.int .i64 lim.1) (.int .i64 lim.2) (.int .i64 gr) (.int .i64 hr) (.slice ga gs.length gc) 80
 have hBw := (Below.call (B := w.heap.size) (by go_grown) hB (Nat.le_refl _)).alloc (w := w1) (by omega) (.cells #[.int .i64 lim.1, .int .i64 lim.2, .int .i64 gr, .int .i64 hr, .slice ga gs.length gc] 80)
 obtain ⟨W, hW⟩ : ∃ W, w1.alloc (.cells #[.int .i64 lim.1, .int .i64 lim.2, .int .i64 gr, .int .i64 hr, .slice ga gs.length gc] 80) = W := ⟨_, rfl⟩
 have hWs : w1.heap.size < W.heap.size := by rw [← hW]; simp
 rw [hW] at hF hF6 hBw ⊢
 clear hW hc hg hB hz hz6
 obtain ⟨q, hq⟩ : ∃ q, w1.heap.size = q := ⟨_, rfl⟩
 rw [hq] at hF6 hWs ⊢
 have hF6' := hF6
 obtain ⟨⟨e0, e1, e2, e3, e4⟩, _⟩ := hF6'
 go_wp2
 go_at_call 69
 refine (hown _ hBw).mono ?_
 rintro e w2 ⟨hP, hB2⟩
 obtain ⟨g, cg, l, tb, rfl, hN⟩ := hP.first
 replace hN := hN.mono (show q + 1 ≤ W.heap.size from hWs)
 have hqn : w.heap.size + 1 < q := by omega
 have hF := hF.keep hB2
 have hF6 := hF6.keep hB2
 have hBx := Below.call hBw hB2 (Nat.le_refl _)
 clear hB2 e0 e1 e2 e3 e4 hown hop hbt hP hz5 hBw hWs hq
 obtain ⟨⟨e0, e1, e2, e3, e4⟩, ⟨k0, k1, k2, k3, k4⟩⟩ := id hF6
 simp only [bv]
 go_wp2
 have hN5 := hN.five (show q < q + 1 by omega) (v0 := .int .i64 lim.1) (v1 := .int .i64 lim.2) (v2 := .int .i64 gr) (v3 := .int .i64 hr) (v4 := .slice (some ⟨g, 0, none⟩) l.length cg)
 have hF5 := hF.other (.int .i64 lim.1) (.int .i64 lim.2) (.int .i64 gr) (.int .i64 hr) (.slice (some ⟨g, 0, none⟩) l.length cg) (show w.heap.size + 1 ≠ q by omega)
 have hF65 := hF6.put (.int .i64 lim.1) (.int .i64 lim.2) (.int .i64 gr) (.int .i64 hr) (.slice (some ⟨g, 0, none⟩) l.length cg)
 have hB5 := Below.set5 hBx (b := q) (by omega) (v0 := .int .i64 lim.1) (v1 := .int .i64 lim.2) (v2 := .int .i64 gr) (v3 := .int .i64 hr) (v4 := .slice (some ⟨g, 0, none⟩) l.length cg)
 obtain ⟨W5, hW5⟩ : ∃ W5, set5 w2 q (.int .i64 lim.1) (.int .i64 lim.2) (.int .i64 gr) (.int .i64 hr) (.slice (some ⟨g, 0, none⟩) l.length cg) = W5 := ⟨_, rfl⟩
 rw [hW5] at hN5 hF5 hF65 hB5
 unfold set5 at hW5
 rw [hW5]
 clear hW5 e0 e1 e2 e3 e4 k0 k1 k2 k3 k4 hF hF6 hBx hN
 go_loopw [27] (fun i wr => ∃ k : Nat, i = .int .i64 k ∧ k ≤ N ∧ Below w.heap.size w wr ∧ ∃ g gc' l tb, Hid (YV (q + 1) ⟨lim, gr, hr, gs, ga, gc⟩ k wr g gc' l tb) ∧ Hid (Five wr (w.heap.size + 1) (.int .i64 0) (.int .i64 0) (.int .i64 0) (.int .i64 0) (.slice none 0 0)) ∧ Hid (Five wr q (.int .i64 lim.1) (.int .i64 lim.2) (.int .i64 gr) (.int .i64 hr) (.slice (some ⟨g, 0, none⟩) l.length gc'))) (fun i _ => N - (intOf i).toNat)
 case atStart => exact ⟨0, rfl, by omega, hB5, g, cg, l, tb, Lib.hid hN5, Lib.hid hF5, Lib.hid hF65⟩
 case round =>
  clear hN5 hF5 hF65 hB5
  obtain ⟨k, rfl, hk, hBr, g, gc', l, tb, hN, hF, hF6⟩ := hrel
  obtain ⟨⟨e0, e1, e2, e3, e4⟩, ⟨k0, k1, k2, k3, k4⟩⟩ := id hF6.out
  by_cases hlt : k < N
  ·have hgr := JS ⟨lim, gr, hr, l, some ⟨g, 0, none⟩, gc'⟩ wr (hN.out.book HS.out) (by rw [hN.out.1.1, Qd]; exact HV.out.len1) (hN.out.filled HF.out) H1.out.1 (by have := H1.out.2; simp only at this ⊢; omega)
   have hk1 : (k : Int) < (N : Int) := by omega
   have hk0 : (0 : Int) ≤ (k : Int) := Int.natCast_nonneg k
   have hql : q < wr.heap.size := lt_of_cell e0
   simp only [bv] at hgr
   go_wp2
   go_at_call 74
   refine hgr.mono ?_
   rintro e w3 ⟨hP, hB3⟩
   obtain ⟨g1, gc1, l1, tb1, rfl, hN1⟩ := hN.out.year (show q + 1 ≤ wr.heap.size from hql) hP
   have hF := hF.out.keep hB3
   have hF6 := hF6.out.keep hB3
   have hBx := Below.call hBr hB3 (Nat.le_refl _)
   clear hB3 e0 e1 e2 e3 e4 k0 k1 k2 k3 k4 hgr hP
   obtain ⟨⟨e0, e1, e2, e3, e4⟩, ⟨k0, k1, k2, k3, k4⟩⟩ := id hF6
   simp only [bv]
   go_wp2
   go_roundw
   case rel => exact ⟨k + 1, rfl, by omega, Below.set5 hBx (by omega), g1, gc1, l1, tb1, Lib.hid (hN1.five (by omega)), Lib.hid (hF.other _ _ _ _ _ (by omega)), Lib.hid (hF6.put _ _ _ _ _)⟩
   case measure => simp [intOf]; omega
  ·obtain rfl : k = N := by omega
   have hch := QL ⟨lim, gr, hr, l, some ⟨g, 0, none⟩, gc'⟩ wr (hN.out.book HS.out) (HG.out.keep hBr)
   have hcN : checkN ⟨lim, gr, hr, l, some ⟨g, 0, none⟩, gc'⟩ = checkN (qX ⟨lim, gr, hr, gs, ga, gc⟩ k) := by
    rw [← Ye hN.out.1 (some ⟨g, 0, none⟩) gc']
    have e := xW ⟨lim, gr, hr, gs, ga, gc⟩ k
    simp only at e
    rw [e.1, e.2.1, e.2.2.1]
   rw [hcN] at hch
   have hql : q < wr.heap.size := lt_of_cell e0
   obtain ⟨⟨c0, c1, c2, c3, c4⟩, ⟨f0, f1, f2, f3, f4⟩⟩ := id hF.out
   have hNN := Lib.hid hN.out
   obtain ⟨r, hr⟩ : ∃ r, checkN (qX ⟨lim, gr, hr, gs, ga, gc⟩ k) = r := ⟨_, rfl⟩
   rw [hr] at hch
   have HR := Lib.hid hr
   have hBq := Lib.hid hBr
   clear hcN hr hN hF hF6
   simp only [bv] at hch
   have hnl : w.heap.size + 1 < wr.heap.size := lt_of_cell c0
   by_cases hr0 : r = 0
   ·subst hr0
    go_wp2_with (go_at_call 75; refine hch.mono ?_; rintro e w1 ⟨rfl, hB⟩; obtain ⟨hc, hg⟩ := qp hB; have hz1 : w.heap.size + 1 < w1.heap.size := (Nat.lt_of_lt_of_le hnl hB.size); have hz2 : q < w1.heap.size := (Nat.lt_of_lt_of_le hql hB.size))
    have hbB := Below.call hBq.out hB (Nat.le_refl _)
    refine YK results44 Yh Zj rfl rfl (qb _ hB c0) (qb _ hB c1) (qb _ hB c2) (qb _ hB c3) (qb _ hB c4) ⟨?_, Below.set5 hbB (Nat.le_succ _)⟩
    unfold qbO
    rw [if_neg (fun e => e HR.out)]
    exact ⟨g, gc', l, tb, rfl, ((hNN.out.keep hB).five (b := w.heap.size + 1) (by omega)).mono (show w.heap.size ≤ q + 1 by omega)⟩
   ·have hrb : (r != 0) = true := by simp [hr0]
    go_wp2_with (go_at_call 75; refine hch.mono ?_; rintro e w1 ⟨rfl, hB⟩; obtain ⟨hc, hg⟩ := qp hB; have hz1 : w.heap.size + 1 < w1.heap.size := (Nat.lt_of_lt_of_le hnl hB.size); have hz2 : q < w1.heap.size := (Nat.lt_of_lt_of_le hql hB.size))
    have hbB := Below.call hBq.out hB (Nat.le_refl _)
    refine YK results44 Yh Zj rfl rfl (qb _ hB c0) (qb _ hB c1) (qb _ hB c2) (qb _ hB c3) (qb _ hB c4) ⟨?_, Below.set5 hbB (Nat.le_succ _)⟩
    unfold qbO
    rw [if_pos (by rw [HR.out]; exact hr0), HR.out]
    rfl
end Go.Proofs.Tryz
end
section
namespace Go.Proofs.Tryz
open Go Go.Sim
@[go_sem] theorem s37 : qg.funcs[37]? = some f37 := by kernel_rfl
@[go_sem] theorem c37 (args : Array Value) (w : World) : (callFunc 37 args).run qg w = .ok (.enter 37 args) w := qh s37 (by kernel_rfl) (by kernel_rfl) args w
@[go_sem] theorem s53 : qg.funcs[53]? = some f53 := by kernel_rfl
@[go_sem] theorem c53 (args : Array Value) (w : World) : (callFunc 53 args).run qg w = .ok (.enter 53 args) w := qh s53 (by kernel_rfl) (by kernel_rfl) args w
@[go_sem] theorem s16 : qg.funcs[16]? = some f16 := by kernel_rfl
@[go_sem] theorem c16 (args : Array Value) (w : World) : (callFunc 16 args).run qg w = .ok (.enter 16 args) w := qh s16 (by kernel_rfl) (by kernel_rfl) args w
@[go_sem] theorem s56 : qg.funcs[56]? = some f56 := by kernel_rfl
@[go_sem] theorem c56 (args : Array Value) (w : World) : (callFunc 56 args).run qg w = .ok (.enter 56 args) w := qh s56 (by kernel_rfl) (by kernel_rfl) args w
@[go_sem] theorem s58 : qg.funcs[58]? = some f58 := by kernel_rfl
@[go_sem] theorem c58 (args : Array Value) (w : World) : (callFunc 58 args).run qg w = .ok (.enter 58 args) w := qh s58 (by kernel_rfl) (by kernel_rfl) args w
@[go_sem] theorem s35 : qg.funcs[35]? = some f35 := by kernel_rfl
@[go_sem] theorem c35 (args : Array Value) (w : World) : (callFunc 35 args).run qg w = .ok (.enter 35 args) w := qh s35 (by kernel_rfl) (by kernel_rfl) args w
@[go_sem] theorem s36 : qg.funcs[36]? = some f36 := by kernel_rfl
@[go_sem] theorem c36 (args : Array Value) (w : World) : (callFunc 36 args).run qg w = .ok (.enter 36 args) w := qh s36 (by kernel_rfl) (by kernel_rfl) args w
@[go_sem] theorem s47 : qg.funcs[47]? = some f47 := by kernel_rfl
@[go_sem] theorem c47 (args : Array Value) (w : World) : (callFunc 47 args).run qg w = .ok (.enter 47 args) w := qh s47 (by kernel_rfl) (by kernel_rfl) args w
@[go_sem] theorem s48 : qg.funcs[48]? = some f48 := by kernel_rfl
@[go_sem] theorem c48 (args : Array Value) (w : World) : (callFunc 48 args).run qg w = .ok (.enter 48 args) w := qh s48 (by kernel_rfl) (by kernel_rfl) args w
@[go_sem] theorem s80 : qg.funcs[80]? = some f80 := by kernel_rfl
@[go_sem] theorem c80 (args : Array Value) (w : World) : (callFunc 80 args).run qg w = .ok (.enter 80 args) w := qh s80 (by kernel_rfl) (by kernel_rfl) args w
@[go_sem] theorem s105 : qg.funcs[105]? = some f105 := by kernel_rfl
@[go_sem] theorem c105 (args : Array Value) (w : World) : (callFunc 105 args).run qg w = .ok (.enter 105 args) w := qh s105 (by kernel_rfl) (by kernel_rfl) args w
end Go.Proofs.Tryz
end
section
namespace Go.Proofs.Tryz
open Go Go.Load Go.RowKit
def west : ByteArray := ⟨#[119, 101, 115, 116]⟩
def east : ByteArray := ⟨#[101, 97, 115, 116]⟩
def exB (g a b : Nat) : Bk := ⟨(1, 5), 50, 2, [⟨west, 1, [(1, 1), (1, 2)], some ⟨a, 0, none⟩, 2⟩, ⟨east, 2, [(2, 1), (1, 1)], some ⟨b, 0, none⟩, 2⟩], some ⟨g, 0, none⟩, 2⟩
set_option maxHeartbeats 1000000 in
theorem qev (a b : Int) (w : World) : Calls qg 37 #[.int .i64 a, .int .i64 b] w fun e w' => e = .returned (fv (a, b)) ∧ Below w.heap.size w w' := by
 simp only [fv]
 go_enter s37, ntmps37
 go_wp2
 have c0 := qW w #[.int .i64 a, .int .i64 b] 23 0 (by simp)
 have c1 := qW w #[.int .i64 a, .int .i64 b] 23 1 (by simp)
 exact bodyPost_ret (QI results37 rfl (zk qC qo c0 c1)) rfl ⟨rfl, (Below.refl _ w).alloc (Nat.le_refl _) _⟩
theorem Xf {W : World} {a o b : Nat} {v0 v1 v2 v3 v4 : Value} {l : List (Int × Int)} (h : qR W a o l) (e : a ≠ b) : qR (set5 W b v0 v1 v2 v3 v4) a o l := fun i x hx =>
 ⟨(qP (by show a ≠ b; exact e)).trans (h i x hx).1, (qP (by show a ≠ b; exact e)).trans (h i x hx).2⟩
theorem YD (W : World) (a b c d : Int) (ty : TypeId) : qR (W.alloc (.cells #[.int .i64 a, .int .i64 b, .int .i64 c, .int .i64 d] ty)) W.heap.size 0 [(a, b), (c, d)] := fun i x hx => by
 have n := fun j hj => qW W #[.int .i64 a, .int .i64 b, .int .i64 c, .int .i64 d] ty j hj
 match i, hx with
 | 0, hx => obtain rfl := Option.some.inj hx; exact ⟨n 0 (by simp), n 1 (by simp)⟩
 | 1, hx => obtain rfl := Option.some.inj hx; exact ⟨n 2 (by simp), n 3 (by simp)⟩
set_option maxHeartbeats 400000 in
theorem YP (w : World) : Calls qg 36 #[] w fun e w' => (∃ g a b, e = .returned (bv (exB g a b)) ∧ BookAt w' (exB g a b)) ∧ Below w.heap.size w w' := by
 have hof := fun a b W => qev a b W
 simp only [fv] at hof
 go_enter s36, ntmps36
 go_wp2
 go_at_call 37
 refine (hof _ _ _).mono ?_
 rintro e w1 ⟨rfl, h1⟩
 go_wp2
 go_at_call 37
 refine (hof _ _ _).mono ?_
 rintro e w2 ⟨rfl, h2⟩
 go_wp2
 go_at_call 37
 refine (hof _ _ _).mono ?_
 rintro e w3 ⟨rfl, h3⟩
 have F3 := (((Five.new w (.int .i64 0) (.int .i64 0) (.int .i64 0) (.int .i64 0) (.slice none 0 0) 45).keep h1).keep h2).keep h3
 have B3 := Below.call (Below.call (Below.call ((Below.refl _ w).alloc (Nat.le_refl _) _) h1 (Nat.le_refl _)) h2 (Nat.le_refl _)) h3 (Nat.le_refl _)
 clear h1 h2 h3
 go_wp2
 go_at_call 37
 refine (hof _ _ _).mono ?_
 rintro e w4 ⟨rfl, h4⟩
 go_wp2
 go_at_call 37
 refine (hof _ _ _).mono ?_
 rintro e w5 ⟨rfl, h5⟩
 have F5 := ((F3.keep ((Below.refl _ w3).alloc (Nat.le_refl _) (.cells #[.int .i64 1, .int .i64 1, .int .i64 1, .int .i64 2] 23))).keep h4).keep h5
 have B5 := Below.call (Below.call (B3.alloc B3.size (.cells #[.int .i64 1, .int .i64 1, .int .i64 1, .int .i64 2] 23)) h4 (Nat.le_refl _)) h5 (Nat.le_refl _)
 have P5 : qR w5 w3.heap.size 0 [(1, 1), (1, 2)] := fun i x hx => by
  have n := fun j hj => qW w3 #[.int .i64 1, .int .i64 1, .int .i64 1, .int .i64 2] 23 j hj
  match i, hx with
  | 0, hx => obtain rfl := Option.some.inj hx; exact ⟨qb _ h5 (qb _ h4 (n 0 (by decide))), qb _ h5 (qb _ h4 (n 1 (by decide)))⟩
  | 1, hx => obtain rfl := Option.some.inj hx; exact ⟨qb _ h5 (qb _ h4 (n 2 (by decide))), qb _ h5 (qb _ h4 (n 3 (by decide)))⟩
 have hw13 : w.heap.size < w3.heap.size := lt_of_cell F3.c.1
 clear F3 B3 h4 h5
 have F7 := (F5.keep ((Below.refl _ w5).alloc (Nat.le_refl _) (.cells #[.int .i64 2, .int .i64 1, .int .i64 1, .int .i64 1] 23))).keep ((Below.refl _ _).alloc (Nat.le_refl _) (.cells #[.string ⟨#[119, 101, 115, 116]⟩, .int .i64 1, .slice (some ⟨w3.heap.size, 0, none⟩) 2 2, .string ⟨#[101, 97, 115, 116]⟩, .int .i64 2, .slice (some ⟨w5.heap.size, 0, none⟩) 2 2] 69))
 have B7 := (B5.alloc B5.size (.cells #[.int .i64 2, .int .i64 1, .int .i64 1, .int .i64 1] 23)).alloc (by have := B5.size; simp; omega) (.cells #[.string ⟨#[119, 101, 115, 116]⟩, .int .i64 1, .slice (some ⟨w3.heap.size, 0, none⟩) 2 2, .string ⟨#[101, 97, 115, 116]⟩, .int .i64 2, .slice (some ⟨w5.heap.size, 0, none⟩) 2 2] 69)
 obtain ⟨⟨c0, c1, c2, c3, c4⟩, ⟨f0, f1, f2, f3, f4⟩⟩ := F7
 have P5 := Lib.hid P5
 have B7 := Lib.hid B7
 clear hof F5 B5
 go_wp2
 have P5 := P5.out
 have P6 := (YD w5 2 1 1 1 23)
 have hw3 : w3.heap.size < w5.heap.size := lt_of_cell (P5 0 _ rfl).1
 have hn : w.heap.size < w3.heap.size := hw13
 refine qen results36 Yh Zj rfl c0 c1 c2 c3 c4 ⟨⟨w5.heap.size + 1, w3.heap.size, w5.heap.size, rfl, ?_⟩, Below.set5 B7.out (Nat.le_refl _)⟩
 have A1 : Below w5.heap.size w5 (w5.alloc (.cells #[.int .i64 2, .int .i64 1, .int .i64 1, .int .i64 1] 23)) := (Below.refl _ w5).alloc (Nat.le_refl _) _
 have A2 : ∀ (W : World) o, Below W.heap.size W (W.alloc o) := fun W o => (Below.refl _ W).alloc (Nat.le_refl _) o
 refine ⟨fun _ => ⟨w5.heap.size + 1, 0, rfl, fun i x hx => ?_⟩, fun x hx _ => ?_, ⟨by show (2 : Nat) ≤ 20; decide, fun x hx => ?_⟩, by show (2 : Nat) ≤ 2; decide⟩
 ·have n := fun j hj => Qz (b := w5.heap.size + 1) (w5.alloc (.cells #[.int .i64 2, .int .i64 1, .int .i64 1, .int .i64 1] 23)) #[.string ⟨#[119, 101, 115, 116]⟩, .int .i64 1, .slice (some ⟨w3.heap.size, 0, none⟩) 2 2, .string ⟨#[101, 97, 115, 116]⟩, .int .i64 2, .slice (some ⟨w5.heap.size, 0, none⟩) 2 2] 69 j hj (by simp)
  have o : ∀ j, (⟨w5.heap.size + 1, j, none⟩ : Addr).block ≠ w.heap.size := fun j => by show w5.heap.size + 1 ≠ w.heap.size; omega
  match i, hx with
  | 0, hx => obtain rfl := Option.some.inj hx; exact ⟨(qP (o _)).trans (n 0 (by simp)), (qP (o _)).trans (n 1 (by simp)), (qP (o _)).trans (n 2 (by simp))⟩
  | 1, hx => obtain rfl := Option.some.inj hx; exact ⟨(qP (o _)).trans (n 3 (by simp)), (qP (o _)).trans (n 4 (by simp)), (qP (o _)).trans (n 5 (by simp))⟩
 ·rcases List.mem_cons.1 hx with rfl | hx
  ·exact ⟨w3.heap.size, 0, rfl, Xf ((P5.keep A1).keep (A2 _ _)) (by omega)⟩
  ·obtain rfl := List.mem_singleton.1 hx
   exact ⟨w5.heap.size, 0, rfl, Xf (P6.keep (A2 _ _)) (by omega)⟩
 ·rcases List.mem_cons.1 hx with rfl | hx
  ·exact ⟨by show (2 : Nat) ≤ 20; decide, by show west.size ≤ 100; decide⟩
  ·obtain rfl := List.mem_singleton.1 hx
   exact ⟨by show (2 : Nat) ≤ 20; decide, by show east.size ≤ 100; decide⟩
end Go.Proofs.Tryz
end
section
namespace Go.Proofs.Tryz
open Go Go.Load Go.RowKit
theorem Jf (T : Nat) (x : Int × Int) (h : yc x) (hT : T ≤ 7) (w : World) :
 Calls qg 17 #[fv x, .int .i64 T, .func (.func 18) #[] #[]] w fun e w' => e = .returned (tv (qO (low x.1 x.2) T) 0) ∧ Below w.heap.size w w' := by
 obtain ⟨k1, k2, k3, k4⟩ := jE h.1.1 h.1.2 h.2.1 h.2.2
 exact XU _ (fun args w => c18 args w) T x _ h hT (fun W => Zq T _ k1 k2 k3 k4 hT W) w
theorem Xx (T : Nat) (x : Int × Int) (h : yc x) (hT : T ≤ 7) (w : World) :
 Calls qg 17 #[fv x, .int .i64 T, .func (.func 21) #[] #[]] w fun e w' => e = .returned (tv (qK (low x.1 x.2) T) 0) ∧ Below w.heap.size w w' := by
 obtain ⟨k1, k2, k3, k4⟩ := jE h.1.1 h.1.2 h.2.1 h.2.2
 exact XU _ (fun args w => c21 args w) T x _ h hT (fun W => Qf T _ k1 k2 k3 k4 hT W) w
def yf (x : Int × Int) (T : Nat) : Int × Int := low (x.1 * (qK x T).2 - (qK x T).1 * x.2) (x.2 * (qK x T).2)
theorem yR {x : Int × Int} (h1 : 0 ≤ x.1) (h2 : x.1 ≤ 12) (h3 : 1 ≤ x.2) (h4 : x.2 ≤ 4) (T : Nat) (hT : T ≤ 7) : 0 ≤ (qK x T).1 ∧ 1 ≤ (qK x T).2 ∧ (qK x T).2 ≤ 655360000000 ∧ (qK x T).1 ≤ 1966080000000 ∧ (qK x T).1 * x.2 ≤ x.1 * (qK x T).2 := by
 obtain ⟨q1, q2, q3, q4⟩ := xE h1 h2 h3 h4 T hT
 have hp : (40 : Int) ^ T ≤ 40 ^ 7 := by exact_mod_cast Nat.pow_le_pow_right (by decide) hT
 simp only [qK]
 generalize qO x T = q at *
 have q5 : q.2 ≤ 163840000000 := Int.le_trans q4 (Int.le_trans hp (by decide))
 have m0 : 0 ≤ x.1 * q.1 := Int.mul_nonneg h1 q1
 have m2 : x.1 * q.1 ≤ 12 * q.2 := Int.le_trans (Int.mul_le_mul_of_nonneg_right h2 q1) (by omega)
 have m3 : x.2 * q.2 ≤ 4 * q.2 := Int.mul_le_mul_of_nonneg_right h4 (by omega)
 have m4 : 0 < x.2 * q.2 := Int.mul_pos (by omega) (by omega)
 obtain ⟨t1, t2, t3, t4, _⟩ := yV m0 m4
 refine ⟨t1, t3, by omega, by omega, ?_⟩
 have hg := qaJ (a := x.1 * q.1) m4
 have e1 : (low (x.1 * q.1) (x.2 * q.2)).1 * (Int.gcd (x.1 * q.1) (x.2 * q.2) : Int) = x.1 * q.1 := Int.ediv_mul_cancel (Int.gcd_dvd_left ..)
 have e2 : (low (x.1 * q.1) (x.2 * q.2)).2 * (Int.gcd (x.1 * q.1) (x.2 * q.2) : Int) = x.2 * q.2 := Int.ediv_mul_cancel (Int.gcd_dvd_right ..)
 refine Int.le_of_mul_le_mul_right ?_ hg
 have c1 : (low (x.1 * q.1) (x.2 * q.2)).1 * x.2 * (Int.gcd (x.1 * q.1) (x.2 * q.2) : Int) = x.1 * q.1 * x.2 := by rw [Int.mul_right_comm, e1]
 have c2 : x.1 * (low (x.1 * q.1) (x.2 * q.2)).2 * (Int.gcd (x.1 * q.1) (x.2 * q.2) : Int) = x.1 * (x.2 * q.2) := by rw [Int.mul_assoc, e2]
 rw [c1, c2, Int.mul_assoc, Int.mul_comm q.1]
 exact Int.mul_le_mul_of_nonneg_left (Int.mul_le_mul_of_nonneg_left q2 (by omega)) h1
set_option maxHeartbeats 1000000 in
theorem qaA (T : Nat) (x : Int × Int) (h1 : 0 ≤ x.1) (h2 : x.1 ≤ 12) (h3 : 1 ≤ x.2) (h4 : x.2 ≤ 4) (hT : T ≤ 7) (w : World) :
 Calls qg 23 #[fv x, .int .i64 T] w fun e w' => e = .returned (fv (yf x T)) ∧ Below w.heap.size w w' := by
 obtain ⟨q1, q2, q3, q4, q5⟩ := yR h1 h2 h3 h4 T hT
 have hlost := fun W => Qf T x h1 h2 h3 h4 hT W
 simp only [yf]
 generalize qK x T = q at *
 have m1 : x.1 * q.2 ≤ 12 * q.2 := Int.mul_le_mul_of_nonneg_right h2 (by omega)
 have m2 : x.2 * q.2 ≤ 4 * q.2 := Int.mul_le_mul_of_nonneg_right h4 (by omega)
 have hminus := fun W => JJ x q W h1 (by omega) q1 (by omega) (by omega) (by omega) q5
 simp only [fv] at *
 clear m1 m2 q5
 go_enter s23, ntmps23
 go_wp2_with fail
 go_region_held3 (fun w' => w'.cell? ⟨w.heap.size, 0, none⟩ = some (.int .i64 x.1) ∧ w'.cell? ⟨w.heap.size, 1, none⟩ = some (.int .i64 x.2) ∧ w'.frozen? ⟨w.heap.size + 1, 0, none⟩ = false ∧ w'.frozen? ⟨w.heap.size + 1, 1, none⟩ = false ∧
  w'.cell? ⟨w.heap.size + 1, 0, none⟩ = some (atD w' ⟨w.heap.size + 1, 0, none⟩) ∧ w'.cell? ⟨w.heap.size + 1, 1, none⟩ = some (atD w' ⟨w.heap.size + 1, 1, none⟩) ∧ Below w.heap.size w w')
  (first | exact ⟨by go_cell, by go_cell, by go_cell, by go_cell, qL (qy (v := .int .i64 0) (by go_cell)), qL (qy (v := .int .i64 0) (by go_cell)), by go_grown⟩ | exact qdY ‹_› hB | exact QY _ _ ‹_› (by simp) (by simp)) (first | (go_at_call 21; refine (hlost _).mono ?_; rintro e w1 ⟨rfl, hB⟩) | (go_at_call 24; refine (hminus _).mono ?_; rintro e w1 ⟨rfl, hB⟩))
 go_wp2
 rename_i hH
 obtain ⟨c0, c1, hG⟩ := Zp hH
 exact zR results23 zN zF rfl c0 c1 ⟨rfl, hG⟩
theorem ZK (T : Nat) (x : Int × Int) (h : yc x) (hT : T ≤ 7) (w : World) :
 Calls qg 17 #[fv x, .int .i64 T, .func (.func 23) #[] #[]] w fun e w' => e = .returned (tv (yf (low x.1 x.2) T) 0) ∧ Below w.heap.size w w' := by
 obtain ⟨k1, k2, k3, k4⟩ := jE h.1.1 h.1.2 h.2.1 h.2.2
 exact XU _ (fun args w => c23 args w) T x _ h hT (fun W => qaA T _ k1 k2 k3 k4 hT W) w
def zS (what : Int × Int → Nat → Int × Int) (x : Int × Int) (T : Int) : Value := if yc x ∧ 0 ≤ T ∧ T ≤ 7 then tv (what (low x.1 x.2) T.toNat) 0 else tv (0, 0) 1
theorem Jq (T : Int) (x : Int × Int) (w : World) : Calls qg 17 #[fv x, .int .i64 T, .func (.func 18) #[] #[]] w fun e w' => e = .returned (zS qO x T) ∧ Below w.heap.size w w' := by
 unfold zS
 by_cases h : yc x ∧ 0 ≤ T ∧ T ≤ 7
 ·obtain ⟨n, rfl⟩ := Int.eq_ofNat_of_zero_le h.2.1
  rw [if_pos h]
  exact Jf n x h.1 (by omega) w
 ·rw [if_neg h]; exact qaQ _ T x h w
theorem qeI (T : Int) (x : Int × Int) (w : World) : Calls qg 17 #[fv x, .int .i64 T, .func (.func 21) #[] #[]] w fun e w' => e = .returned (zS qK x T) ∧ Below w.heap.size w w' := by
 unfold zS
 by_cases h : yc x ∧ 0 ≤ T ∧ T ≤ 7
 ·obtain ⟨n, rfl⟩ := Int.eq_ofNat_of_zero_le h.2.1
  rw [if_pos h]
  exact Xx n x h.1 (by omega) w
 ·rw [if_neg h]; exact qaQ _ T x h w
theorem qag (T : Int) (x : Int × Int) (w : World) : Calls qg 17 #[fv x, .int .i64 T, .func (.func 23) #[] #[]] w fun e w' => e = .returned (zS yf x T) ∧ Below w.heap.size w w' := by
 unfold zS
 by_cases h : yc x ∧ 0 ≤ T ∧ T ≤ 7
 ·obtain ⟨n, rfl⟩ := Int.eq_ofNat_of_zero_le h.2.1
  rw [if_pos h]
  exact ZK n x h.1 (by omega) w
 ·rw [if_neg h]; exact qaQ _ T x h w
theorem xw (what : Int × Int → Nat → Int × Int) (x : Int × Int) (T : Int) : ∃ r a, zS what x T = tv r a := by
 unfold zS; split <;> exact ⟨_, _, rfl⟩
set_option maxHeartbeats 1000000 in
theorem qbG (T : Int) (x : Int × Int) (w : World) : Calls qg 4 #[fv x, .int .i64 T] w fun e w' => e = .returned (zS qO x T) ∧ Below w.heap.size w w' := by
 have ht := fun W => Jq T x W
 obtain ⟨r, a, hr⟩ := xw qO x T
 simp only [hr] at ht ⊢
 simp only [fv, tv] at *
 go_enter s4, ntmps4
 go_wp2_with (go_at_call 17; (with_reducible refine (ht _).mono ?_); rintro e w1 ⟨rfl, hB1⟩; (first | (replace hB := Below.call (by with_reducible assumption) hB1 (Nat.le_refl _)) | (replace hB := Below.call (by go_grown) hB1 (Nat.le_refl _)) | (have hB := hB1)); (try clear hc hg hz); obtain ⟨hc, hg⟩ := qp hB; have hz := hB.size; clear hB1; (try simp at hz); (try have hlt0 : w.heap.size < w1.heap.size := by omega))
 have c0 : w1.cell? ⟨w.heap.size + 1, 0, none⟩ = some (.int .i64 0) := by rw [hc _ _ (by simp)]; go_cell
 have c1 : w1.cell? ⟨w.heap.size + 1, 1, none⟩ = some (.int .i64 0) := by rw [hc _ _ (by simp)]; go_cell
 have hp := xX (.int .i64 r.1) (.int .i64 r.2) c0 c1
 refine bodyPost_ret (qB results4 rfl rfl (zk qC qo hp.1 hp.2)) rfl ⟨rfl, ?_⟩
 exact ((Below.call (B := w.heap.size) (by go_grown) hB (Nat.le_refl _)).setCell (by simp) _).setCell (by simp) _
set_option maxHeartbeats 1000000 in
theorem qbF (T : Int) (x : Int × Int) (w : World) : Calls qg 6 #[fv x, .int .i64 T] w fun e w' => e = .returned (zS qK x T) ∧ Below w.heap.size w w' := by
 have ht := fun W => qeI T x W
 obtain ⟨r, a, hr⟩ := xw qK x T
 simp only [hr] at ht ⊢
 simp only [fv, tv] at *
 go_enter s6, ntmps6
 go_wp2_with (go_at_call 17; (with_reducible refine (ht _).mono ?_); rintro e w1 ⟨rfl, hB1⟩; (first | (replace hB := Below.call (by with_reducible assumption) hB1 (Nat.le_refl _)) | (replace hB := Below.call (by go_grown) hB1 (Nat.le_refl _)) | (have hB := hB1)); (try clear hc hg hz); obtain ⟨hc, hg⟩ := qp hB; have hz := hB.size; clear hB1; (try simp at hz); (try have hlt0 : w.heap.size < w1.heap.size := by omega))
 have c0 : w1.cell? ⟨w.heap.size + 1, 0, none⟩ = some (.int .i64 0) := by rw [hc _ _ (by simp)]; go_cell
 have c1 : w1.cell? ⟨w.heap.size + 1, 1, none⟩ = some (.int .i64 0) := by rw [hc _ _ (by simp)]; go_cell
 have hp := xX (.int .i64 r.1) (.int .i64 r.2) c0 c1
 refine bodyPost_ret (qB results6 rfl rfl (zk qC qo hp.1 hp.2)) rfl ⟨rfl, ?_⟩
 exact ((Below.call (B := w.heap.size) (by go_grown) hB (Nat.le_refl _)).setCell (by simp) _).setCell (by simp) _
set_option maxHeartbeats 1000000 in
theorem YN (T : Int) (x : Int × Int) (w : World) : Calls qg 8 #[fv x, .int .i64 T] w fun e w' => e = .returned (zS yf x T) ∧ Below w.heap.size w w' := by
 have ht := fun W => qag T x W
 obtain ⟨r, a, hr⟩ := xw yf x T
 simp only [hr] at ht ⊢
 simp only [fv, tv] at *
 go_enter s8, ntmps8
 go_wp2_with (go_at_call 17; (with_reducible refine (ht _).mono ?_); rintro e w1 ⟨rfl, hB1⟩; (first | (replace hB := Below.call (by with_reducible assumption) hB1 (Nat.le_refl _)) | (replace hB := Below.call (by go_grown) hB1 (Nat.le_refl _)) | (have hB := hB1)); (try clear hc hg hz); obtain ⟨hc, hg⟩ := qp hB; have hz := hB.size; clear hB1; (try simp at hz); (try have hlt0 : w.heap.size < w1.heap.size := by omega))
 have c0 : w1.cell? ⟨w.heap.size + 1, 0, none⟩ = some (.int .i64 0) := by rw [hc _ _ (by simp)]; go_cell
 have c1 : w1.cell? ⟨w.heap.size + 1, 1, none⟩ = some (.int .i64 0) := by rw [hc _ _ (by simp)]; go_cell
 have hp := xX (.int .i64 r.1) (.int .i64 r.2) c0 c1
 refine bodyPost_ret (qB results8 rfl rfl (zk qC qo hp.1 hp.2)) rfl ⟨rfl, ?_⟩
 exact ((Below.call (B := w.heap.size) (by go_grown) hB (Nat.le_refl _)).setCell (by simp) _).setCell (by simp) _
def qaP (m n : Int) (x : Int × Int) : Value := if (0 ≤ m ∧ m ≤ 7) ∧ 0 ≤ n ∧ n ≤ 7 then zS qO x (m + n) else tv (0, 0) 1
set_option maxHeartbeats 1000000 in
theorem qbI (m n : Int) (x : Int × Int) (w : World) : Calls qg 14 #[.int .i64 m, .int .i64 n, fv x] w fun e w' => e = .returned (qaP m n x) ∧ Below w.heap.size w w' := by
 unfold qaP
 by_cases hm : 0 ≤ m ∧ m ≤ 7
 ·by_cases hn : 0 ≤ n ∧ n ≤ 7
  ·rw [if_pos ⟨hm, hn⟩]
   have ht := fun W => Jq (m + n) x W
   obtain ⟨r, a, hr⟩ := xw qO x (m + n)
   simp only [hr] at ht ⊢
   simp only [fv, tv] at *
   go_enter s14, ntmps14
   go_wp2_with (first | (go_at_call 17; (with_reducible refine (ht _).mono ?_); rintro e w1 ⟨rfl, hB1⟩; (first | (replace hB := Below.call (by with_reducible assumption) hB1 (Nat.le_refl _)) | (replace hB := Below.call (by go_grown) hB1 (Nat.le_refl _)) | (have hB := hB1)); (try clear hc hg hz); obtain ⟨hc, hg⟩ := qp hB; have hz := hB.size; clear hB1; (try simp at hz); (try have hlt0 : w.heap.size < w1.heap.size := by omega)) | (go_at_call 32; (with_reducible refine (zI _ _ hm).mono ?_); rintro e w1 ⟨rfl, rfl⟩) | (go_at_call 32; (with_reducible refine (zI _ _ hn).mono ?_); rintro e w1 ⟨rfl, rfl⟩))
   have c0 : w1.cell? ⟨w.heap.size + 1, 0, none⟩ = some (.int .i64 0) := by rw [hc _ _ (by simp)]; go_cell
   have c1 : w1.cell? ⟨w.heap.size + 1, 1, none⟩ = some (.int .i64 0) := by rw [hc _ _ (by simp)]; go_cell
   have hp := xX (.int .i64 r.1) (.int .i64 r.2) c0 c1
   refine bodyPost_ret (qB results14 rfl rfl (zk qC qo hp.1 hp.2)) rfl ⟨rfl, ?_⟩
   exact ((Below.call (B := w.heap.size) (by go_grown) hB (Nat.le_refl _)).setCell (by simp) _).setCell (by simp) _
  ·rw [if_neg (fun h => hn h.2)]
   simp only [fv, tv] at *
   go_enter s14, ntmps14
   go_wp2_with (first | (go_at_call 32; (with_reducible refine (zI _ _ hm).mono ?_); rintro e w1 ⟨rfl, rfl⟩) | (go_at_call 32; (with_reducible refine (jb _ _ hn).mono ?_); rintro e w1 ⟨rfl, rfl⟩))
   go_returns
   exact ⟨rfl, by go_grown⟩
 ·rw [if_neg (fun h => hm h.1)]
  simp only [fv, tv] at *
  go_enter s14, ntmps14
  go_wp2_with (first | (go_at_call 32; (with_reducible refine (jb _ _ hm).mono ?_); rintro e w1 ⟨rfl, rfl⟩))
  go_returns
  exact ⟨rfl, by go_grown⟩
end Go.Proofs.Tryz
end
section
namespace Go.Proofs.Tryz
open Go Go.Load Go.RowKit Go.Instr
def kv (x : Int × Int) (T : Nat) : Value := .agg #[.int .i64 x.1, .int .i64 x.2, .int .i64 T]
theorem ck (e : Bool) (a b c : Int) (w : World) : (checkKey e 10000 145 (.agg #[.int .i64 a, .int .i64 b, .int .i64 c])).run qg w = .ok () w := by kernel_rfl
theorem sq151 : qg.underlying 145 = some (.struct (qg.fieldsOf 145)) := by kernel_rfl
theorem sp74 : qg.underlying 37 = some (.struct (qg.fieldsOf 37)) := by kernel_rfl
theorem hq151 : qg.stoodInHeld 145 = false := by kernel_rfl
theorem hp74 : qg.stoodInHeld 37 = false := by kernel_rfl
theorem eqp (d : Nat) (a b a' b' : Int) (w : World) : (Op.equalIn (d + 2) 37 (.agg #[.int .i64 a, .int .i64 b]) (.agg #[.int .i64 a', .int .i64 b'])).run qg w = .ok (a == a' && b == b') w := by
 rw [run_equalIn_agg w (d + 1) 37 _ _ sp74 hp74]
 have e0 : (Op.eqFields (d + 1) #[.int .i64 a, .int .i64 b] #[.int .i64 a', .int .i64 b'] (qg.fieldsOf 37).toList).run qg w = (if (!(a == a')) = true then (pure false : Sem Bool) else Op.eqFields (d + 1) #[.int .i64 a, .int .i64 b] #[.int .i64 a', .int .i64 b'] (qg.fieldsOf 37).toList.tail).run qg w := by kernel_rfl
 rw [e0]
 cases h : (a == a') with
 | false => simp
 | true =>
   have e1 : (Op.eqFields (d + 1) #[.int .i64 a, .int .i64 b] #[.int .i64 a', .int .i64 b'] (qg.fieldsOf 37).toList.tail).run qg w = (if (!(b == b')) = true then (pure false : Sem Bool) else pure true).run qg w := by kernel_rfl
   simp only [Bool.not_true, Bool.false_eq_true, if_false]
   rw [e1]
   cases h : (b == b') <;> simp
theorem eqk (a b c a' b' c' : Int) (w : World) : (Op.equal 145 (.agg #[.int .i64 a, .int .i64 b, .int .i64 c]) (.agg #[.int .i64 a', .int .i64 b', .int .i64 c'])).run qg w = .ok ((a == a' && b == b') && c == c') w := by
 show (Op.equalIn (9999 + 1) 145 _ _).run qg w = _
 rw [run_equalIn_agg w 9999 145 _ _ sq151 hq151]
 have e0 : (Op.eqFields 9999 #[.int .i64 a, .int .i64 b, .int .i64 c] #[.int .i64 a', .int .i64 b', .int .i64 c'] (qg.fieldsOf 145).toList).run qg w = (Op.equalIn 9999 37 (.agg #[.int .i64 a, .int .i64 b]) (.agg #[.int .i64 a', .int .i64 b']) >>= fun r => if (!r) = true then (pure false : Sem Bool) else Op.eqFields 9999 #[.int .i64 a, .int .i64 b, .int .i64 c] #[.int .i64 a', .int .i64 b', .int .i64 c'] (qg.fieldsOf 145).toList.tail).run qg w := by kernel_rfl
 rw [e0, Sem.run_bind, show (9999 : Nat) = 9997 + 2 from rfl, eqp, Result.andThen_ok]
 cases h : (a == a' && b == b') with
 | false => simp
 | true =>
   have e1 : (Op.eqFields (9997 + 2) #[.int .i64 a, .int .i64 b, .int .i64 c] #[.int .i64 a', .int .i64 b', .int .i64 c'] (qg.fieldsOf 145).toList.tail).run qg w = (if (!(c == c')) = true then (pure false : Sem Bool) else pure true).run qg w := by kernel_rfl
   simp only [Bool.not_true, Bool.false_eq_true, if_false]
   rw [e1]
   cases h : (c == c') <;> simp
theorem eqkv (p q : (Int × Int) × Nat) (w : World) : (Op.equal 145 (kv p.1 p.2) (kv q.1 q.2)).run qg w = .ok (decide (p = q)) w := by
 obtain ⟨⟨a, b⟩, c⟩ := p
 obtain ⟨⟨a', b'⟩, c'⟩ := q
 have e : ((a == a' && b == b') && (c : Int) == (c' : Int)) = decide (((a, b), c) = ((a', b'), c')) := by
  rw [Bool.eq_iff_iff]
  simp only [Bool.and_eq_true, beq_iff_eq, decide_eq_true_eq, Prod.mk.injEq, Int.natCast_inj]
 show (Op.equal 145 (.agg #[.int .i64 a, .int .i64 b, .int .i64 c]) (.agg #[.int .i64 a', .int .i64 b', .int .i64 c'])).run qg w = _
 rw [eqk, e]
def Ents (es : List MapEntry) (L : List ((Int × Int) × Nat)) : Prop := es.map (fun e => (e.key, e.val)) = L.map fun p => (kv p.1 p.2, fv (qK p.1 p.2))
theorem qbP (p : (Int × Int) × Nat) : ∀ (es : List MapEntry) (L : List ((Int × Int) × Nat)) (i : Nat) (w : World), Ents es L → ∃ r, (findAsking 145 (kv p.1 p.2) es i).run qg w = .ok r w ∧ (p ∈ L → ∃ j, r = some (j, fv (qK p.1 p.2))) ∧ (p ∉ L → r = none)
 | [], L, i, w, h => by
   cases L with
   | nil => exact ⟨none, rfl, (fun h => absurd h List.not_mem_nil), fun _ => rfl⟩
   | cons q L => simp [Ents] at h
 | e :: es, L, i, w, h => by
   cases L with
   | nil => simp [Ents] at h
   | cons q L =>
     simp only [Ents, List.map_cons, List.cons.injEq, Prod.mk.injEq] at h
     obtain ⟨⟨hk, hv⟩, ht⟩ := h
     obtain ⟨r, h1, h2, h3⟩ := qbP p es L (i + 1) w ht
     unfold findAsking
     rw [Sem.run_bind, hk, eqkv, Result.andThen_ok]
     by_cases hpq : p = q
     ·subst hpq
      exact ⟨_, by rw [if_pos (by simp)]; rfl, fun _ => ⟨i, by rw [hv]⟩, fun h => absurd List.mem_cons_self h⟩
     ·refine ⟨r, by rw [if_neg (by simpa using hpq)]; exact h1, fun h => h2 ?_, fun h => h3 fun h' => h (List.mem_cons_of_mem _ h')⟩
      rcases List.mem_cons.1 h with h | h
      ·exact absurd h hpq
      ·exact h
theorem Yi (p : (Int × Int) × Nat) (es : List MapEntry) (L : List ((Int × Int) × Nat)) (w : World) (h : Ents es L) : ∃ r, (findKey 145 (kv p.1 p.2) es).run qg w = .ok r w ∧ (p ∈ L → ∃ j, r = some (j, fv (qK p.1 p.2))) ∧ (p ∉ L → r = none) := by
 unfold findKey
 rw [Sem.run_bind]
 rw [run_underlying sq151, Result.andThen_ok]
 cases es with
 | nil =>
   cases L with
   | nil => exact ⟨none, rfl, (fun h => absurd h List.not_mem_nil), fun _ => rfl⟩
   | cons q L => simp [Ents] at h
 | cons e es => exact qbP p (e :: es) L 0 w h
def Jl (W : World) (m : Nat) (L : List ((Int × Int) × Nat)) : Prop := ∃ es clock, W.heap[m]? = some (.map es clock) ∧ Ents es.toList L
theorem qcU {W : World} {m : Nat} {L : List ((Int × Int) × Nat)} (h : Jl W m L) (x : Int × Int) (T : Nat) : (Instr.lookup 103 (.map (some m)) (.agg #[.int .i64 x.1, .int .i64 x.2, .int .i64 T]) true).run qg W = .ok (if (x, T) ∈ L then .tuple #[fv (qK x T), .bool true] else .tuple #[fv (0, 0), .bool false]) W := by
 obtain ⟨es, clock, h1, h2⟩ := h
 obtain ⟨r, hr, h3, h4⟩ := Yi (x, T) es.toList L W h2
 unfold Instr.lookup
 have hu : (Go.underlying 103).run qg W = .ok (.map 145 37) W := by kernel_rfl
 have hg : (getObj m).run qg W = .ok (.map es clock) W := by simp [getObj, Sem.run, h1]
 have hz : (zeroValue 37).run qg W = .ok (fv (0, 0)) W := by kernel_rfl
 simp only [Sem.run_bind, hu, hg, Result.andThen_ok, Sem.run_pure, ck]
 show ((findKey 145 (kv x T) es.toList).run qg W).andThen _ = _
 rw [hr, Result.andThen_ok]
 by_cases hm : (x, T) ∈ L
 ·obtain ⟨j, rfl⟩ := h3 hm
  simp [hm]
 ·obtain rfl := h4 hm
  simp [hm, hz]
theorem qcp {W : World} {m : Nat} {L : List ((Int × Int) × Nat)} (h : Jl W m L) (x : Int × Int) (T : Nat) (hn : (x, T) ∉ L) : ∃ W1, (Instr.mapUpdate 103 (.map (some m)) (.agg #[.int .i64 x.1, .int .i64 x.2, .int .i64 T]) (fv (qK x T))).run qg W = .ok () W1 ∧ Jl W1 m (L ++ [(x, T)]) ∧ W.grownBy W1 (some m) ∧ W1.heap.size = W.heap.size := by
 obtain ⟨es, clock, h1, h2⟩ := h
 obtain ⟨r, hr, h3, h4⟩ := Yi (x, T) es.toList L W h2
 obtain rfl := h4 hn
 have hu : (Go.underlying 103).run qg W = .ok (.map 145 37) W := by kernel_rfl
 have hg : (getObj m).run qg W = .ok (.map es clock) W := by simp [getObj, Sem.run, h1]
 have hlt : m < W.heap.size := (Array.getElem?_eq_some_iff.1 h1).1
 refine ⟨W.putObj m (.map (es.push { key := kv x T, val := fv (qK x T), born := clock }) (clock + 1)), ?_, ⟨_, _, World.putObj_heap_same hlt, ?_⟩, grownBy_putObj' W _ _, by simp [World.putObj]⟩
 ·unfold Instr.mapUpdate
  simp only [Sem.run_bind, hu, hg, Result.andThen_ok, ck]
  show ((findKey 145 (kv x T) es.toList).run qg W).andThen _ = _
  rw [hr, Result.andThen_ok]
  show (setObj m _).run qg W = _
  unfold setObj
  simp [Sem.run, h1, World.putObj]
  rfl
 ·unfold Ents at h2 ⊢
  simp [h2]
def Zy (m : Nat) (w w' : World) : Prop := (∃ L, Jl w' m L) ∧ w.grownBy w' (some m)
theorem Jl.block {W W1 : World} {m : Nat} {L : List ((Int × Int) × Nat)} (h : Jl W m L) (e : W1.heap[m]? = W.heap[m]?) : Jl W1 m L := by
 obtain ⟨es, c, h1, h2⟩ := h
 exact ⟨es, c, e.trans h1, h2⟩
theorem Jl.lt {W : World} {m : Nat} {L : List ((Int × Int) × Nat)} (h : Jl W m L) : m < W.heap.size := by
 obtain ⟨es, c, h1, h2⟩ := h
 exact (Array.getElem?_eq_some_iff.1 h1).1
theorem Jl.keep {W W1 : World} {m : Nat} {L : List ((Int × Int) × Nat)} (h : Jl W m L) (hB : Below W.heap.size W W1) : Jl W1 m L := h.block (hB.block m h.lt)
theorem zJ {w w1 w2 : World} {r : Option Nat} (h : w.grownBy w1 r) (k : w1.grownBy w2 r) : w.grownBy w2 r :=
 ⟨k.os.trans h.os, k.tape.trans h.tape, k.output.trans h.output, Nat.le_trans h.size k.size, fun b hb hr => (k.block b (Nat.lt_of_lt_of_le hb h.size) hr).trans (h.block b hb hr)⟩
theorem zi {w w1 : World} {r : Option Nat} (h : Below w.heap.size w w1) : w.grownBy w1 r := ⟨h.os, h.tape, h.output, h.size, fun k hk _ => h.block k hk⟩
theorem yE {w w1 : World} {r : Option Nat} (h : w.grownBy w1 r) {p : Addr} (hp : w.heap.size ≤ p.block) (v : Value) : w.grownBy (w1.setCell p v) r :=
 ⟨h.os, h.tape, h.output, by simpa using h.size, fun k hk hr => (Below.heap_setCell _ _ _ _ (by omega)).trans (h.block k hk hr)⟩
theorem qw {w w1 : World} {m : Nat} (h : w.grownBy w1 (some m)) {p : Addr} {v : Value} (hc : w.cell? p = some v) (hp : p.block ≠ m) : w1.cell? p = some v := h.cell hc (by simpa using hp)
theorem qD {w w1 : World} {m : Nat} (h : w.grownBy w1 (some m)) {p : Addr} {v : Value} (hc : w.cell? p = some v) (hf : w.frozen? p = false) (hp : p.block ≠ m) : w1.frozen? p = false :=
 (World.frozen?_of_block (w := w) (h.block p.block (lt_of_cell hc) (by simpa using hp))).trans hf
set_option maxHeartbeats 2000000 in
set_option maxRecDepth 100000 in
theorem lost_any (m : Nat) (L : List ((Int × Int) × Nat)) (T : Nat) (x : Int × Int) (h1 : 0 ≤ x.1) (h2 : x.1 ≤ 12) (h3 : 1 ≤ x.2) (h4 : x.2 ≤ 4) (hT : T ≤ 7) (w : World) (hL : Jl w m L) :
 Calls qg 111 #[.map (some m), fv x, .int .i64 T] w fun e w' => e = .returned (fv (qK x T)) ∧ Zy m w w' := by
 have hlo := fun W => Qf T x h1 h2 h3 h4 hT W
 have hlt := hL.lt
 have HL := Lib.hid fun (W : World) (h : Jl W m L) => qcU h x T
 have HU := Lib.hid fun (W : World) (h : Jl W m L) (hn : (x, T) ∉ L) => qcp h x T hn
 generalize qK x T = r at *
 simp only [fv] at *
 have HM := Lib.hid hL
 clear hL
 have pre : ∀ {W : World}, Below w.heap.size w W → Zy m w W := fun hB => ⟨⟨L, HM.out.keep hB⟩, zi hB⟩
 by_cases hin : (x, T) ∈ L
 ·go_enter s111, ntmps111
  go_wp2
  obtain ⟨W, hW⟩ : ∃ W, ((w.alloc (Obj.cells #[.int .i64 x.1, .int .i64 x.2] 37)).alloc (Obj.cells #[.int .i64 0, .int .i64 0] 37)).alloc (Obj.cells #[.int .i64 x.1, .int .i64 x.2, .int .i64 T] 145) = W := ⟨_, rfl⟩
  have hB : Below w.heap.size w W := by subst hW; go_grown
  have c0 : W.cell? ⟨w.heap.size + 1, 0, none⟩ = some (.int .i64 0) := by subst hW; go_cell
  have c1 : W.cell? ⟨w.heap.size + 1, 1, none⟩ = some (.int .i64 0) := by subst hW; go_cell
  have f0 : W.frozen? ⟨w.heap.size + 1, 0, none⟩ = false := by subst hW; go_cell
  have f1 : W.frozen? ⟨w.heap.size + 1, 1, none⟩ = false := by subst hW; go_cell
  have hs : w.heap.size + 1 < W.heap.size := by subst hW; simp
  rw [hW]
  clear hW
  rw [HL.out W (HM.out.keep hB), if_pos hin]
  go_wp2
  have hp := xX (.int .i64 r.1) (.int .i64 r.2) c0 c1
  refine bodyPost_ret (QI results111 rfl (zk zN zF (qi hp.1) (qi hp.2))) rfl ⟨rfl, pre ?_⟩
  exact ((hB.setCell (p := ⟨w.heap.size + 1, 0, none⟩) (Nat.le_succ _) _).setCell (p := ⟨w.heap.size + 1, 1, none⟩) (Nat.le_succ _) _).alloc (by simp; omega) _
 ·go_enter s111, ntmps111
  go_wp2
  obtain ⟨W, hW⟩ : ∃ W, ((w.alloc (Obj.cells #[.int .i64 x.1, .int .i64 x.2] 37)).alloc (Obj.cells #[.int .i64 0, .int .i64 0] 37)).alloc (Obj.cells #[.int .i64 x.1, .int .i64 x.2, .int .i64 T] 145) = W := ⟨_, rfl⟩
  have hB : Below w.heap.size w W := by subst hW; go_grown
  have a0 : W.cell? ⟨w.heap.size, 0, none⟩ = some (.int .i64 x.1) := by subst hW; go_cell
  have a1 : W.cell? ⟨w.heap.size, 1, none⟩ = some (.int .i64 x.2) := by subst hW; go_cell
  have c0 : W.cell? ⟨w.heap.size + 1, 0, none⟩ = some (.int .i64 0) := by subst hW; go_cell
  have c1 : W.cell? ⟨w.heap.size + 1, 1, none⟩ = some (.int .i64 0) := by subst hW; go_cell
  have f0 : W.frozen? ⟨w.heap.size + 1, 0, none⟩ = false := by subst hW; go_cell
  have f1 : W.frozen? ⟨w.heap.size + 1, 1, none⟩ = false := by subst hW; go_cell
  have q0 : W.cell? ⟨w.heap.size + 1 + 1, 0, none⟩ = some (.int .i64 x.1) := by subst hW; go_cell
  have q1 : W.cell? ⟨w.heap.size + 1 + 1, 1, none⟩ = some (.int .i64 x.2) := by subst hW; go_cell
  have q2 : W.cell? ⟨w.heap.size + 1 + 1, 2, none⟩ = some (.int .i64 T) := by subst hW; go_cell
  have hs : w.heap.size + 1 + 1 < W.heap.size := by subst hW; simp
  have hs1 : w.heap.size + 1 < W.heap.size := by omega
  have hs2 : w.heap.size < W.heap.size := by omega
  rw [hW]
  clear hW
  rw [HL.out W (HM.out.keep hB), if_neg hin]
  go_wp2_with (go_at_call 21; refine (hlo _).mono ?_; rintro e w1 ⟨rfl, hB1⟩; have z0 := qb ⟨W.heap.size, 0, none⟩ hB1 (v := .int .i64 0) (by go_cell); have z1 := qb ⟨W.heap.size, 1, none⟩ hB1 (v := .int .i64 0) (by go_cell); have y0 := qf ⟨W.heap.size, 0, none⟩ hB1 (v := .int .i64 0) (by go_cell) (by go_cell); have y1 := qf ⟨W.heap.size, 1, none⟩ hB1 (v := .int .i64 0) (by go_cell) (by go_cell); have c0 := qb _ hB1 (qi c0); have c1 := qb _ hB1 (qi c1); have f0 := qf _ hB1 (qi ‹W.cell? ⟨w.heap.size + 1, 0, none⟩ = _›) (qm ‹W.cell? ⟨w.heap.size + 1, 0, none⟩ = _› f0); have f1 := qf _ hB1 (qi ‹W.cell? ⟨w.heap.size + 1, 1, none⟩ = _›) (qm ‹W.cell? ⟨w.heap.size + 1, 1, none⟩ = _› f1); have q0 := qb _ hB1 (qi q0); have q1 := qb _ hB1 (qi q1); have q2 := qb _ hB1 (qi q2); have hz := hB1.size; simp at hz; have hBx := Below.call (B := w.heap.size) (by go_grown) hB1 (Nat.le_refl _))
  obtain ⟨W2, hW2⟩ : ∃ W2, (w1.setCell ⟨W.heap.size, 0, none⟩ (.int .i64 r.1)).setCell ⟨W.heap.size, 1, none⟩ (.int .i64 r.2) = W2 := ⟨_, rfl⟩
  have hB2 : Below w.heap.size w W2 := by subst hW2; exact (hBx.setCell (by simp <;> omega) _).setCell (by simp <;> omega) _
  have z0' : W2.cell? ⟨W.heap.size, 0, none⟩ = some (.int .i64 r.1) := by subst hW2; exact (xX _ _ z0 z1).1
  have z1' : W2.cell? ⟨W.heap.size, 1, none⟩ = some (.int .i64 r.2) := by subst hW2; exact (xX _ _ z0 z1).2
  have nq : ∀ i j k, k ≠ W.heap.size → (⟨W.heap.size, i, none⟩ : Addr) ≠ ⟨k, j, none⟩ := fun i j k h e => h (congrArg Addr.block e).symm
  have c0 : W2.cell? ⟨w.heap.size + 1, 0, none⟩ = some (.int .i64 0) := by subst hW2; exact qc (nq _ _ _ (by omega)) (qc (nq _ _ _ (by omega)) c0)
  have c1 : W2.cell? ⟨w.heap.size + 1, 1, none⟩ = some (.int .i64 0) := by subst hW2; exact qc (nq _ _ _ (by omega)) (qc (nq _ _ _ (by omega)) c1)
  have f0 : W2.frozen? ⟨w.heap.size + 1, 0, none⟩ = false := by subst hW2; simpa using f0
  have f1 : W2.frozen? ⟨w.heap.size + 1, 1, none⟩ = false := by subst hW2; simpa using f1
  rw [hW2]
  obtain ⟨W3, h3, h4, h5, h6⟩ := HU.out W2 (HM.out.keep hB2) hin
  rw [h3]
  have hmw : m ≠ W.heap.size := by omega
  have hmw1 : m ≠ w.heap.size + 1 := by omega
  have z0' := qw h5 z0' (Ne.symm hmw)
  have z1' := qw h5 z1' (Ne.symm hmw)
  have f0 := qD h5 c0 f0 (Ne.symm hmw1)
  have f1 := qD h5 c1 f1 (Ne.symm hmw1)
  have c0 := qw h5 c0 (Ne.symm hmw1)
  have c1 := qw h5 c1 (Ne.symm hmw1)
  clear h3 hW2 hB1 hBx
  go_wp2
  refine zR results111 zN zF rfl c0 c1 ⟨rfl, ⟨L ++ [(x, T)], ?_⟩, ?_⟩
  ·exact h4.block ((Below.heap_setCell _ _ _ _ (by simp <;> omega)).trans (Below.heap_setCell _ _ _ _ (by simp <;> omega)))
  ·exact yE (yE (zJ (zi hB2) h5) (p := ⟨w.heap.size + 1, 0, none⟩) (Nat.le_succ _) _) (p := ⟨w.heap.size + 1, 1, none⟩) (Nat.le_succ _) _
end Go.Proofs.Tryz
end
section
namespace Go.Proofs.Tryz
open Go Go.Load Go.RowKit Go.Instr
theorem sp23 : qg.underlying 23 = some (.struct (qg.fieldsOf 23)) := by kernel_rfl
theorem hp23 : qg.stoodInHeld 23 = false := by kernel_rfl
theorem eqf (d : Nat) (a b a' b' : Int) (w : World) : (Op.equalIn (d + 2) 23 (.agg #[.int .i64 a, .int .i64 b]) (.agg #[.int .i64 a', .int .i64 b'])).run qg w = .ok (a == a' && b == b') w := by
 rw [run_equalIn_agg w (d + 1) 23 _ _ sp23 hp23]
 have e0 : (Op.eqFields (d + 1) #[.int .i64 a, .int .i64 b] #[.int .i64 a', .int .i64 b'] (qg.fieldsOf 23).toList).run qg w = (if (!(a == a')) = true then (pure false : Sem Bool) else Op.eqFields (d + 1) #[.int .i64 a, .int .i64 b] #[.int .i64 a', .int .i64 b'] (qg.fieldsOf 23).toList.tail).run qg w := by kernel_rfl
 rw [e0]
 cases h : (a == a') with
 | false => simp
 | true =>
   have e1 : (Op.eqFields (d + 1) #[.int .i64 a, .int .i64 b] #[.int .i64 a', .int .i64 b'] (qg.fieldsOf 23).toList.tail).run qg w = (if (!(b == b')) = true then (pure false : Sem Bool) else pure true).run qg w := by kernel_rfl
   simp only [Bool.not_true, Bool.false_eq_true, if_false]
   rw [e1]
   cases h : (b == b') <;> simp
@[go_sem] theorem qdZ (a b a' b' : Int) (w : World) : (Op.equalIn 10000 23 (.agg #[.int .i64 a, .int .i64 b]) (.agg #[.int .i64 a', .int .i64 b'])).run qg w = .ok (a == a' && b == b') w := eqf 9998 a b a' b' w
@[go_sem] theorem neqf_run (a b a' b' : Int) (w : World) : (binOp .neq 23 (.agg #[.int .i64 a, .int .i64 b]) (.agg #[.int .i64 a', .int .i64 b'])).run qg w = .ok (.bool (!(a == a' && b == b'))) w := by
  rw [run_neq_struct, qdZ]; rfl
theorem hm23 : qg.eqGuardType qg.depth 23 = false := by kernel_rfl
@[go_sem] theorem guardf_run (op : BinOp) (p q : Operand) (xs ys : Array Value) (w : World) : (eqGuard op 23 p q (.agg xs) (.agg ys)).run qg w = .ok () w := run_eqGuard_agg w op _ p q xs ys hm23
def xB (w : World) (v : Value) (L : List (Int × Int)) : Prop := ∃ a c, v = .slice a L.length c ∧ (1 ≤ L.length → ∃ b o, a = some ⟨b, o, none⟩ ∧ qR w b o L)
set_option maxHeartbeats 2000000 in
set_option maxRecDepth 100000 in
theorem jD (va vb : Value) (A B : List (Int × Int)) (w : World) (hA : xB w va A) (hB : xB w vb B) (h1 : A.length ≤ 100) (h2 : B.length ≤ 100) : Calls qg 48 #[va, vb] w fun e w' => e = .returned (.bool (decide (A = B))) ∧ Below w.heap.size w w' := by
 obtain ⟨aa, ca, rfl, ha⟩ := hA
 obtain ⟨ab, cb, rfl, hb⟩ := hB
 have HA := Lib.hid ha
 have HB := Lib.hid hb
 clear ha hb
 by_cases hl : A.length = B.length
 ·have hli : (A.length : Int) = (B.length : Int) := by omega
  have HL := Lib.hid hl
  clear hl
  go_enter s48, ntmps48
  go_wp2
  go_loopw [5] (fun i wr => ∃ k : Nat, i = .int .i64 k ∧ k ≤ A.length ∧ Below w.heap.size w wr ∧ Hid (∀ j, j < k → A[j]? = B[j]?)) (fun i _ => A.length - (intOf i).toNat)
  case atStart => exact ⟨0, rfl, by omega, .refl _ _, Lib.hid fun j hj => absurd hj (by omega)⟩
  case round =>
   obtain ⟨k, rfl, hk, hBr, HK⟩ := hrel
   have hk0 : (0 : Int) ≤ (k : Int) := Int.natCast_nonneg k
   by_cases l1 : k < A.length
   ·have l2 : k < B.length := by have := HL.out; omega
    obtain ⟨x, hx⟩ : ∃ x, A[k]? = some x := ⟨A[k], by simp [l1]⟩
    obtain ⟨y, hy⟩ : ∃ y, B[k]? = some y := ⟨B[k], by simp [l2]⟩
    obtain ⟨ba, oa, rfl, ra⟩ := HA.out (by omega)
    obtain ⟨bb, ob, rfl, rb⟩ := HB.out (by omega)
    obtain ⟨a0, a1⟩ := ra k x hx
    obtain ⟨b0, b1⟩ := rb k y hy
    have a0 := qb _ hBr a0
    have a1 := qb _ hBr a1
    have b0 := qb _ hBr b0
    have b1 := qb _ hBr b1
    have i1 : (k : Int) < (A.length : Int) := by omega
    have i2 : (k : Int) < (B.length : Int) := by omega
    have HX := Lib.hid (And.intro hx hy)
    clear ra rb hx hy hli
    by_cases e : x = y
    ·subst e
     have hq : (!(x.1 == x.1 && x.2 == x.2)) = false := by simp
     go_wp2
     go_region
     go_wp2
     go_roundw
     case rel => exact ⟨k + 1, rfl, by omega, (by first | exact hBr.drew | exact below_drewN hBr _ | go_grown), Lib.hid fun j hj => by
      by_cases e : j = k
      ·subst e; rw [HX.out.1, HX.out.2]
      ·exact HK.out j (by omega)⟩
     case measure => simp [intOf]; omega
    ·have hq : (x.1 == y.1 && x.2 == y.2) = false := by
      cases hq : (x.1 == y.1 && x.2 == y.2) with
      | false => rfl
      | true => simp at hq; exact absurd (Prod.ext hq.1 hq.2) e
     have HN : Hid (decide (A = B) = false) := Lib.hid (decide_eq_false fun h => e (by rw [h] at HX; exact Option.some.inj (HX.out.1.symm.trans HX.out.2)))
     go_wp2
     go_region
     go_wp2
     go_ret
     exact ⟨by rw [HN.out]; rfl, (by first | exact hBr.drew | exact below_drewN hBr _ | go_grown)⟩
   ·have i1 : ¬ (k : Int) < (A.length : Int) := by omega
    have HT : Hid (decide (A = B) = true) := Lib.hid (decide_eq_true (List.ext_getElem? fun j => by
     by_cases hj : j < k
     ·exact HK.out j hj
     ·rw [List.getElem?_eq_none (by omega), List.getElem?_eq_none (by have := HL.out; omega)]))
    go_wp2
    go_ret
    exact ⟨by rw [HT.out]; rfl, hBr⟩
 ·have hli : ((A.length : Int) != (B.length : Int)) = true := bne_iff_ne.2 (by omega)
  have HN : Hid (decide (A = B) = false) := Lib.hid (decide_eq_false fun e => hl (by rw [e]))
  clear hl
  go_enter s48, ntmps48
  go_wp2
  go_ret
  exact ⟨by rw [HN.out]; rfl, .refl _ _⟩
end Go.Proofs.Tryz
end
section
namespace Go.Proofs.Tryz
open Go Go.Load Go.RowKit
end Go.Proofs.Tryz
end
section
namespace Go.Proofs.Tryz
open Go Go.Load Go.RowKit
def qeT (a b : Nat) : Int × Int := (((a / Nat.gcd a b : Nat) : Int), ((b / Nat.gcd a b : Nat) : Int))
set_option maxHeartbeats 1000000 in
theorem Qt (a b : Nat) (w : World) (ha : a < 4611686018427387904) (hb : 1 ≤ b ∧ b < 4611686018427387904) : Calls qg 53 #[.int .i64 a, .int .i64 b] w fun e w' => e = .returned (fv (qeT a b)) ∧ Below w.heap.size w w' := by
 have HG : Hid (1 ≤ Nat.gcd a b) := Lib.hid (Nat.gcd_pos_of_pos_right _ hb.1)
 simp only [fv]
 go_enter s53, ntmps53
 go_wp2
 go_loopw [5, 6] (fun p q wr => ∃ u v : Nat, p = .int .i64 u ∧ q = .int .i64 v ∧ u < 4611686018427387904 ∧ v < 4611686018427387904 ∧ Hid (Nat.gcd u v = Nat.gcd a b) ∧ Below w.heap.size w wr ∧ wr.cell? ⟨w.heap.size, 0, none⟩ = some (.int .i64 0) ∧ wr.cell? ⟨w.heap.size, 1, none⟩ = some (.int .i64 0) ∧ wr.frozen? ⟨w.heap.size, 0, none⟩ = false ∧ wr.frozen? ⟨w.heap.size, 1, none⟩ = false) (fun _ q _ => (intOf q).toNat)
 case atStart => exact ⟨a, b, rfl, rfl, ha, hb.2, Lib.hid rfl, by go_grown, by go_cell, by go_cell, by go_cell, by go_cell⟩
 case round =>
  obtain ⟨u, v, rfl, rfl, hu, hv, HUV, hBr, c0, c1, f0, f1⟩ := hrel
  have hu0 : (0 : Int) ≤ (u : Int) := Int.natCast_nonneg u
  have hv0 : (0 : Int) ≤ (v : Int) := Int.natCast_nonneg v
  by_cases h : 0 < v
  ·have h1 : (0 : Int) < (v : Int) := by omega
   have h2 : ((v : Int) == 0) = false := by rw [beq_eq_false_iff_ne]; omega
   go_wp2
   go_region
   go_wp2
   go_roundw
   case rel => exact ⟨v, u % v, rfl, by rw [Int.natCast_emod], hv, Nat.lt_of_lt_of_le (Nat.mod_lt _ h) (by omega), Lib.hid (by rw [← HUV.out, Nat.gcd_comm v, ← Nat.gcd_rec, Nat.gcd_comm]), hBr.drew, c0, c1, f0, f1⟩
   case measure =>
    have := Nat.mod_lt u h
    have e : ((u : Int) % (v : Int)) = ((u % v : Nat) : Int) := (Int.natCast_emod u v).symm
    show ((u : Int) % (v : Int)).toNat < (v : Int).toNat
    rw [e, Int.toNat_natCast, Int.toNat_natCast]; exact this
  ·obtain rfl : v = 0 := by omega
   have hg : u = Nat.gcd a b := by rw [← HUV.out]; simp
   have hu1 : (1 : Int) ≤ (u : Int) := by have := HG.out; omega
   have hu2 : ((u : Int) == 0) = false := by rw [beq_eq_false_iff_ne]; omega
   have q0 := Int.ediv_nonneg (show (0 : Int) ≤ (a : Int) by omega) (show (0 : Int) ≤ (u : Int) by omega)
   have q1 := Int.ediv_le_self (u : Int) (show (0 : Int) ≤ (a : Int) by omega)
   have q2 := Int.ediv_nonneg (show (0 : Int) ≤ (b : Int) by omega) (show (0 : Int) ≤ (u : Int) by omega)
   have q3 := Int.ediv_le_self (u : Int) (show (0 : Int) ≤ (b : Int) by omega)
   have e1 : (qeT a b).1 = (a : Int) / (u : Int) := by rw [hg]; simp [qeT]
   have e2 : (qeT a b).2 = (b : Int) / (u : Int) := by rw [hg]; simp [qeT]
   have E1 := Lib.hid e1
   have E2 := Lib.hid e2
   have HQ := Lib.hid hg
   clear e1 e2
   clear hg
   go_wp2
   go_region
   go_wp2
   exact zR (w1 := wr.drew) (b := w.heap.size) (v0 := .int .i64 ((a : Int) / (u : Int))) (v1 := .int .i64 ((b : Int) / (u : Int))) results53 qC qo rfl c0 c1 ⟨by rw [E1.out, E2.out], (hBr.drew.setCell (Nat.le_refl _) _).setCell (Nat.le_refl _) _⟩
end Go.Proofs.Tryz
end
section
namespace Go.Proofs.Tryz
open Go Go.Load Go.RowKit
def fairN (x : Int × Int) : Bool := x == qeT x.1.toNat x.2.toNat
abbrev FairS (w : World) (x : Int × Int) (X : World) : Prop := X.cell? ⟨w.heap.size, 0, none⟩ = some (.int .i64 x.1) ∧ X.cell? ⟨w.heap.size, 1, none⟩ = some (.int .i64 x.2) ∧ Below w.heap.size w X ∧ w.heap.size ≤ X.heap.size
theorem FairS.call {w X Y : World} {x : Int × Int} (h : FairS w x X) (hB : Below X.heap.size X Y) : FairS w x Y :=
 ⟨qb _ hB h.1, qb _ hB h.2.1, Below.call h.2.2.1 hB (Nat.le_refl _), Nat.le_trans h.2.2.2 hB.size⟩
end Go.Proofs.Tryz
end
section
namespace Go.Proofs.Tryz
open Go Go.Load Go.RowKit
def xI (t b n : Nat) : Int × Int := qO (low (t : Int) (b : Int)) n
def okF (x : Int × Int) : Prop := 0 ≤ x.1 ∧ x.1 ≤ x.2 ∧ 0 < x.2 ∧ x.2 ≤ 8589934592
instance (x : Int × Int) : Decidable (okF x) := by unfold okF; infer_instance
theorem Jv {t b n : Nat} (ht : t ≤ 12) (hb : 1 ≤ b ∧ b ≤ 4) (hn : n ≤ 7) : zS qO ((t : Int), (b : Int)) (n : Int) = tv (xI t b n) 0 := by
 unfold zS xI
 rw [if_pos ⟨⟨⟨by omega, by omega⟩, by omega, by omega⟩, by omega, by omega⟩]
 rfl
end Go.Proofs.Tryz
end
section
namespace Go.Proofs.Tryz
open Go Go.Load Go.RowKit
set_option maxHeartbeats 1000000 in
theorem qdL (x y : Int × Int) (w : World) (h1 : 0 ≤ x.1) (h2 : 0 < x.2) (h3 : 0 ≤ y.1) (h4 : 0 < y.2) (h5 : x.1 * y.2 < 4611686018427387904) (h6 : x.2 * y.2 < 4611686018427387904) (h7 : y.1 * x.2 ≤ x.1 * y.2) :
 Calls qg 56 #[fv x, fv y] w fun e w' => e = .returned (fv (qeT (x.1 * y.2 - y.1 * x.2).toNat (x.2 * y.2).toNat)) ∧ Below w.heap.size w w' := by
 obtain ⟨a, b⟩ := x
 obtain ⟨c, d⟩ := y
 simp only at h1 h2 h3 h4 h5 h6 h7
 have m1 := Int.mul_nonneg h1 (Int.le_of_lt h4)
 have m2 := Int.mul_pos h2 h4
 have m3 := Int.mul_nonneg h3 (Int.le_of_lt h2)
 have hr := fun W => Qt (a * d - c * b).toNat (b * d).toNat W (by omega) (by omega)
 rw [Int.toNat_of_nonneg (show 0 ≤ a * d - c * b by omega), Int.toNat_of_nonneg (show 0 ≤ b * d by omega)] at hr
 simp only [fv] at *
 go_enter s56, ntmps56
 go_wp2_with (go_at_call 53; refine (hr _).mono ?_; rintro e w1 ⟨rfl, hB⟩; have c0 := qb ⟨w.heap.size + 2, 0, none⟩ hB (v := .int .i64 0) (by go_cell); have c1 := qb ⟨w.heap.size + 2, 1, none⟩ hB (v := .int .i64 0) (by go_cell); have f0 := qf ⟨w.heap.size + 2, 0, none⟩ hB (v := .int .i64 0) (by go_cell) (by go_cell); have f1 := qf ⟨w.heap.size + 2, 1, none⟩ hB (v := .int .i64 0) (by go_cell) (by go_cell))
 refine zR results56 qC qo rfl c0 c1 ⟨rfl, ?_⟩
 exact ((Below.call (by go_grown) hB (Nat.le_refl _)).setCell (by simp <;> omega) _).setCell (by simp <;> omega) _
end Go.Proofs.Tryz
end
section
namespace Go.Proofs.Tryz
open Go Go.Load Go.RowKit
set_option maxHeartbeats 6000000 in
theorem Less_any (x y : Int × Int) (w : World) (h1 : 0 ≤ x.1) (h2 : 0 < x.2) (h3 : 0 ≤ y.1) (h4 : 0 < y.2) (h5 : x.1 < 4611686018427387904) (h6 : x.2 < 4611686018427387904) (h7 : y.1 < 4611686018427387904) (h8 : y.2 < 4611686018427387904) :
 Calls qg 58 #[fv x, fv y] w fun e w' => e = .returned (.bool (above y x)) ∧ Below w.heap.size w w' := by
 obtain ⟨a0, b0⟩ := x
 obtain ⟨c0, d0⟩ := y
 simp only [fv] at *
 go_enter s58, ntmps58
 go_wp2
 go_loopw [] (fun wr => ∃ a b c d : Int, 0 ≤ a ∧ 0 < b ∧ 0 ≤ c ∧ 0 < d ∧ a < 4611686018427387904 ∧ b < 4611686018427387904 ∧ c < 4611686018427387904 ∧ d < 4611686018427387904 ∧ Hid (above (c, d) (a, b) = above (c0, d0) (a0, b0)) ∧
  wr.cell? ⟨w.heap.size, 0, none⟩ = some (.int .i64 a) ∧ wr.cell? ⟨w.heap.size, 1, none⟩ = some (.int .i64 b) ∧ wr.cell? ⟨w.heap.size + 1, 0, none⟩ = some (.int .i64 c) ∧ wr.cell? ⟨w.heap.size + 1, 1, none⟩ = some (.int .i64 d) ∧
  wr.frozen? ⟨w.heap.size, 0, none⟩ = false ∧ wr.frozen? ⟨w.heap.size, 1, none⟩ = false ∧ wr.frozen? ⟨w.heap.size + 1, 0, none⟩ = false ∧ wr.frozen? ⟨w.heap.size + 1, 1, none⟩ = false ∧ w.heap.size + 2 ≤ wr.heap.size ∧ Below w.heap.size w wr)
  (fun wr => cellNat wr ⟨w.heap.size, 1, none⟩ + cellNat wr ⟨w.heap.size + 1, 1, none⟩)
 case atStart => exact ⟨a0, b0, c0, d0, h1, h2, h3, h4, h5, h6, h7, h8, Lib.hid rfl, by go_cell, by go_cell, by go_cell, by go_cell, by go_cell, by go_cell, by go_cell, by go_cell, by simp, by go_grown⟩
 case round =>
  clear h1 h2 h3 h4 h5 h6 h7 h8
  obtain ⟨a, b, c, d, h1, h2, h3, h4, h5, h6, h7, h8, HA, k0, k1, k2, k3, g0, g1, g2, g3, hsz, hB⟩ := hrel
  have e1 := Int.ediv_nonneg h1 (Int.le_of_lt h2)
  have e2 := Int.ediv_nonneg h3 (Int.le_of_lt h4)
  have e3 := Int.ediv_le_self b h1
  have e4 := Int.ediv_le_self d h3
  have e5 := Int.emod_nonneg a (Int.ne_of_gt h2)
  have e6 := Int.emod_lt_of_pos a h2
  have e7 := Int.emod_nonneg c (Int.ne_of_gt h4)
  have e8 := Int.emod_lt_of_pos c h4
  have n1 : (b == 0) = false := by rw [beq_eq_false_iff_ne]; omega
  have n2 : (d == 0) = false := by rw [beq_eq_false_iff_ne]; omega
  go_wp2
  go_region
  all_goals go_wp2
  all_goals go_region
  all_goals go_wp2
  ·have hne : (a / b != c / d) = true := by assumption
   have hne' : c / d ≠ a / b := fun e => by simp [e] at hne
   go_returns
   refine ⟨?_, (hB.drew).drew⟩
   rw [← HA.out]
   unfold above
   simp only [qbt h4 h2 hne']
   rfl
  ·have heq : (a / b != c / d) = false := by assumption
   have heq' : c / d = a / b := (bne_eq_false_iff_eq.1 heq).symm
   have z1 : a % b = 0 := by assumption
   go_returns
   refine ⟨?_, (hB.drew).drew⟩
   rw [← HA.out]
   unfold above
   simp only [ZP h4 h2 heq', z1, Int.zero_mul]
   have : (0 < c % d * b) ↔ (0 < c % d) := ⟨fun h => (Int.lt_or_eq_of_le e7).elim id fun h0 => by rw [← h0, Int.zero_mul] at h; omega, fun h => Int.mul_pos h h2⟩
   simp only [this]
   rfl
  ·have heq : (a / b != c / d) = false := by assumption
   have heq' : c / d = a / b := (bne_eq_false_iff_eq.1 heq).symm
   have z1 : ¬ a % b = 0 := by assumption
   have zz : (a % b == 0) = true ∨ (c % d == 0) = true := by assumption
   have z2 : c % d = 0 := by
    rcases zz with h | h
    ·exact absurd (beq_iff_eq.1 h) z1
    ·exact beq_iff_eq.1 h
   go_returns
   refine ⟨?_, (hB.drew).drew⟩
   rw [← HA.out]
   unfold above
   have hn : ¬ a % b * d < 0 := Int.not_lt.2 (Int.mul_nonneg e5 (Int.le_of_lt h4))
   simp only [ZP h4 h2 heq', z2, Int.zero_mul, hn, decide_false]
   rfl
  ·have heq : (a / b != c / d) = false := by assumption
   have heq' : c / d = a / b := (bne_eq_false_iff_eq.1 heq).symm
   have z1 : ¬ a % b = 0 := by assumption
   have zz : (a % b == 0) = false ∧ (c % d == 0) = false := by assumption
   have z2 : c % d ≠ 0 := beq_eq_false_iff_ne.1 zz.2
   have hA : above (c, d) (a, b) = decide ((a % b) * d < (c % d) * b) := by
    unfold above
    exact decide_eq_decide.2 (ZP h4 h2 heq')
   go_roundw
   case rel =>
    refine ⟨d, c % d, b, a % b, by omega, by omega, by omega, by omega, by omega, by omega, by omega, by omega, Lib.hid ?_, by go_cell, by go_cell, by go_cell, by go_cell, by go_cell, by go_cell, by go_cell, by go_cell, by simpa using hsz, ?_⟩
    ·rw [← HA.out, hA]
     unfold above
     simp only [Int.mul_comm]
    ·exact (((((hB.setCell (p := ⟨w.heap.size, 0, none⟩) (Nat.le_refl _) _).setCell (p := ⟨w.heap.size, 1, none⟩) (Nat.le_refl _) _).setCell (p := ⟨w.heap.size + 1, 0, none⟩) (Nat.le_succ _) _).setCell (p := ⟨w.heap.size + 1, 1, none⟩) (Nat.le_succ _) _).drew).drew
   case measure =>
    rw [zZ k1, zZ k3, zZ (n := c % d) (by go_cell), zZ (n := a % b) (by go_cell)]
    omega
end Go.Proofs.Tryz
end
section
namespace Go.Proofs.Tryz
open Go Go.Load Go.RowKit
def okS (x : Int × Int) (m : Int) : Prop := 0 ≤ x.1 ∧ x.1 ≤ 16 * m ∧ 0 < x.2 ∧ x.2 ≤ m
instance (x : Int × Int) (m : Int) : Decidable (okS x m) := by unfold okS; infer_instance
def jL (t b n : Nat) : Int × Int := qK (low (t : Int) (b : Int)) n
def XK (t b n : Nat) : Int × Int := yf (low (t : Int) (b : Int)) n
def sumB (t b n : Nat) : Bool :=
 fairN (jL t b n) && fairN (XK t b n) && fairN (xI t b n) && decide (okS (jL t b n) 34359738368) && decide (okS (XK t b n) 34359738368) && decide (okS (xI t b n) 8589934592) &&
 decide (((t : Int) * (jL t b n).2 < 4611686018427387904 ∧ (b : Int) * (jL t b n).2 < 4611686018427387904) ∧ (jL t b n).1 * b ≤ t * (jL t b n).2) &&
 decide (qeT ((t : Int) * (jL t b n).2 - (jL t b n).1 * b).toNat ((b : Int) * (jL t b n).2).toNat = XK t b n) && !above (XK t b n) (n, 1) &&
 decide (jL t b n = qeT (t * (xI t b n).1.toNat) (b * (xI t b n).2.toNat))
theorem qer : ((List.range 13).all fun t => (List.range 4).all fun b => (List.range 8).all fun n => sumB t (b + 1) n) = true := by decide +kernel
theorem qda {t b n : Nat} (ht : t ≤ 12) (hb : 1 ≤ b ∧ b ≤ 4) (hn : n ≤ 7) : zS qK ((t : Int), (b : Int)) (n : Int) = tv (jL t b n) 0 := by
 unfold zS jL
 rw [if_pos ⟨⟨⟨by omega, by omega⟩, by omega, by omega⟩, by omega, by omega⟩]
 rfl
theorem qac {t b n : Nat} (ht : t ≤ 12) (hb : 1 ≤ b ∧ b ≤ 4) (hn : n ≤ 7) : zS yf ((t : Int), (b : Int)) (n : Int) = tv (XK t b n) 0 := by
 unfold zS XK
 rw [if_pos ⟨⟨⟨by omega, by omega⟩, by omega, by omega⟩, by omega, by omega⟩]
 rfl
end Go.Proofs.Tryz
end
section
namespace Go.Proofs.Tryz
open Go Go.Load Go.RowKit
def Jc (n : Nat) : Nat → Nat
 | 0 => 1
 | j + 1 => Jc n j * max (n - j) 1
def qcX (t b n : Nat) : Nat → Nat
 | 0 => 0
 | j + 1 => qcX t b n j + Jc n j * t ^ (n - j) * b ^ j
def refB (t b n : Nat) : Bool :=
 decide (qeT (t ^ n) (qcX t b n (n + 1)) = xI t b n) && decide (1 ≤ qcX t b n (n + 1)) &&
 (List.range (n + 2)).all fun j => decide (Jc n j ≤ 5040) && decide (t ^ (n - j) ≤ 35831808) && decide (b ^ j ≤ 65536) && decide (qcX t b n j ≤ 4000000000000000)
theorem ref_all : ((List.range 13).all fun t => (List.range 4).all fun b => (List.range 8).all fun n => refB t (b + 1) n) = true := by decide +kernel
theorem qeF {t b n : Nat} (ht : t ≤ 12) (hb : 1 ≤ b ∧ b ≤ 4) (hn : n ≤ 7) : qeT (t ^ n) (qcX t b n (n + 1)) = xI t b n ∧ 1 ≤ qcX t b n (n + 1) ∧ ∀ j, j ≤ n + 1 → Jc n j ≤ 5040 ∧ t ^ (n - j) ≤ 35831808 ∧ b ^ j ≤ 65536 ∧ qcX t b n j ≤ 4000000000000000 := by
 have h := ref_all
 rw [List.all_eq_true] at h
 have h := h t (List.mem_range.2 (by omega))
 rw [List.all_eq_true] at h
 have h := h (b - 1) (List.mem_range.2 (by omega))
 rw [List.all_eq_true] at h
 have h := h n (List.mem_range.2 (by omega))
 rw [show b - 1 + 1 = b by omega] at h
 unfold refB at h
 simp only [Bool.and_eq_true, decide_eq_true_eq, List.all_eq_true, List.mem_range] at h
 refine ⟨h.1.1, h.1.2, fun j hj => ?_⟩
 have := h.2 j (by omega)
 exact ⟨this.1.1.1, this.1.1.2, this.1.2, this.2⟩
end Go.Proofs.Tryz
end
section
namespace Go.Proofs.Tryz
open Go Go.Load Go.RowKit
structure KSt (w W : World) (l : List (Addr × Value)) : Prop where
 cs : ∀ p ∈ l, W.cell? p.1 = some p.2
 gl : Globs W
 bw : Below w.heap.size w W
section
variable {w W w1 : World} {l : List (Addr × Value)}
theorem KSt.call (h : KSt w W l) (hB : Below W.heap.size W w1) : KSt w w1 l := ⟨fun p hp => qb _ hB (h.cs p hp), h.gl.keep hB, Below.call h.bw hB (Nat.le_refl _)⟩
theorem KSt.cell (h : KSt w W l) (p : Addr × Value) (hp : p ∈ l) : W.cell? p.1 = some p.2 := h.cs p hp
theorem KSt.box2 (h : KSt w W l) (x y : Value) (t : TypeId) : KSt w (W.alloc (.cells #[x, y] t)) ((⟨W.heap.size, 0, none⟩, x) :: (⟨W.heap.size, 1, none⟩, y) :: l) := by
 have hB : Below W.heap.size W (W.alloc (.cells #[x, y] t)) := (Below.refl _ W).alloc (Nat.le_refl _) _
 have h' := h.call hB
 refine ⟨fun p hp => ?_, h'.gl, h'.bw⟩
 rcases List.mem_cons.1 hp with rfl | hp
 ·exact qW W #[x, y] t 0 (by simp)
 rcases List.mem_cons.1 hp with rfl | hp
 ·exact qW W #[x, y] t 1 (by simp)
 ·exact h'.cs p hp
end
abbrev RS4 (W : World) (x1 x2 x3 x4 : Nat) (a b c d : Int × Int) (X : World) : Prop :=
 X.cell? ⟨x1, 0, none⟩ = some (.int .i64 a.1) ∧ X.cell? ⟨x1, 1, none⟩ = some (.int .i64 a.2) ∧ X.cell? ⟨x2, 0, none⟩ = some (.int .i64 b.1) ∧ X.cell? ⟨x2, 1, none⟩ = some (.int .i64 b.2) ∧ X.cell? ⟨x3, 0, none⟩ = some (.int .i64 c.1) ∧ X.cell? ⟨x3, 1, none⟩ = some (.int .i64 c.2) ∧
 X.cell? ⟨x4, 0, none⟩ = some (.int .i64 d.1) ∧ X.cell? ⟨x4, 1, none⟩ = some (.int .i64 d.2) ∧ Below W.heap.size W X
theorem RS4.call {W X Y : World} {x1 x2 x3 x4 : Nat} {a b c d : Int × Int} (h : RS4 W x1 x2 x3 x4 a b c d X) (hB : Below X.heap.size X Y) : RS4 W x1 x2 x3 x4 a b c d Y := by
 obtain ⟨a0, a1, b0, b1, c0, c1, d0, d1, hW⟩ := h
 exact ⟨qb _ hB a0, qb _ hB a1, qb _ hB b0, qb _ hB b1, qb _ hB c0, qb _ hB c1, qb _ hB d0, qb _ hB d1, Below.call hW hB (Nat.le_refl _)⟩
theorem RS4.drew {W X : World} {x1 x2 x3 x4 : Nat} {a b c d : Int × Int} (h : RS4 W x1 x2 x3 x4 a b c d X) : RS4 W x1 x2 x3 x4 a b c d X.drew := by
 obtain ⟨a0, a1, b0, b1, c0, c1, d0, d1, hW⟩ := h
 exact ⟨a0, a1, b0, b1, c0, c1, d0, d1, ⟨hW.os, hW.tape, hW.output, hW.size, hW.block⟩⟩
theorem RS4.bel {W X : World} {x1 x2 x3 x4 : Nat} {a b c d : Int × Int} (h : RS4 W x1 x2 x3 x4 a b c d X) : Below W.heap.size W X := h.2.2.2.2.2.2.2.2
abbrev RS1 (W : World) (x1 : Nat) (a : Int × Int) (X : World) : Prop := X.cell? ⟨x1, 0, none⟩ = some (.int .i64 a.1) ∧ X.cell? ⟨x1, 1, none⟩ = some (.int .i64 a.2) ∧ Below W.heap.size W X
theorem RS1.call {W X Y : World} {x1 : Nat} {a : Int × Int} (h : RS1 W x1 a X) (hB : Below X.heap.size X Y) : RS1 W x1 a Y := ⟨qb _ hB h.1, qb _ hB h.2.1, Below.call h.2.2 hB (Nat.le_refl _)⟩
theorem RS1.drew {W X : World} {x1 : Nat} {a : Int × Int} (h : RS1 W x1 a X) : RS1 W x1 a X.drew := ⟨h.1, h.2.1, ⟨h.2.2.os, h.2.2.tape, h.2.2.output, h.2.2.size, h.2.2.block⟩⟩
theorem RS1.bel {W X : World} {x1 : Nat} {a : Int × Int} (h : RS1 W x1 a X) : Below W.heap.size W X := h.2.2
theorem RS1.alloc {W X : World} {x1 : Nat} {a : Int × Int} (h : RS1 W x1 a X) (o : Obj) : RS1 W x1 a (X.alloc o) := h.call ((Below.refl _ X).alloc (Nat.le_refl _) _)
theorem KSt.drew {w W : World} {l : List (Addr × Value)} (h : KSt w W l) : KSt w W.drew l := h.call (Below.refl _ W).drew
theorem RS1.set {W X : World} {x1 b i : Nat} {a : Int × Int} (h : RS1 W x1 a X) (hx : x1 < W.heap.size) (hb : W.heap.size ≤ b) (v : Value) : RS1 W x1 a (X.setCell ⟨b, i, none⟩ v) :=
 ⟨qc (by simp <;> omega) h.1, qc (by simp <;> omega) h.2.1, h.2.2.setCell hb _⟩
theorem asz (w : World) (o : Obj) : (w.alloc o).heap.size = w.heap.size + 1 := by show (w.heap.push o).size = _; simp
theorem QJ (a b c : Int) (w : World) (h : b ≤ a ∧ a ≤ c) : Calls qg 35 #[.int .i64 a, .int .i64 b, .int .i64 c] w fun e w' => e = .returned (.bool true) ∧ w = w' := by
 have h1 : decide (b ≤ a) = true := decide_eq_true h.1
 have h2 : decide (a ≤ c) = true := decide_eq_true h.2
 go_enter s35, ntmps35
 go_wp2
 go_ret
 exact ⟨by simp [h.2], rfl⟩
end Go.Proofs.Tryz
end
section
namespace Go.Proofs.Tryz
open Go Go.Load Go.RowKit
def qU (x l : Int × Int) (k : Nat) : Option Nat := ((List.range 8).drop k).find? fun n => borne x n l
theorem ZC (x l : Int × Int) : qU x l 8 = none := rfl
theorem Xr {k : Nat} (hk : k < 8) : (List.range 8).drop k = k :: (List.range 8).drop (k + 1) := by
 rcases (show k = 0 ∨ k = 1 ∨ k = 2 ∨ k = 3 ∨ k = 4 ∨ k = 5 ∨ k = 6 ∨ k = 7 by omega) with rfl | rfl | rfl | rfl | rfl | rfl | rfl | rfl <;> rfl
theorem Qo {x l : Int × Int} {k : Nat} (hk : k < 8) (h : borne x k l = true) : qU x l k = some k := by
 unfold qU; rw [Xr hk, List.find?_cons, h]
theorem QK {x l : Int × Int} {k : Nat} (hk : k < 8) (h : borne x k l = false) : qU x l k = qU x l (k + 1) := by
 unfold qU; rw [Xr hk, List.find?_cons, h]
def jG (x l : Int × Int) : Value := if yc x ∧ Lim l then (match qU x l 0 with | some n => .tuple #[.int .i64 n, .bool true, .int .i64 0] | none => .tuple #[.int .i64 0, .bool false, .int .i64 0]) else .tuple #[.int .i64 0, .bool false, .int .i64 1]
set_option maxHeartbeats 2000000 in
theorem Xc (x l : Int × Int) (w : World) : Calls qg 10 #[fv x, fv l] w fun e w' => e = .returned (jG x l) ∧ Below w.heap.size w w' := by
 unfold jG
 by_cases hx : yc x
 ·have htr := fun W => zM x W hx
  by_cases hl : Lim l
  ·rw [if_pos ⟨hx, hl⟩]
   have hli := fun W => Qy l W hl
   have hbe := fun T hT W => bears_any T x l hx.1.1 hx.1.2 hx.2.1 hx.2.2 hT hl.2.1 hl.1.1 hl.2.2 hl.1.2 W
   obtain ⟨R, hR⟩ : ∃ R, (match qU x l 0 with | some n => Value.tuple #[.int .i64 (n : Int), .bool true, .int .i64 0] | none => .tuple #[.int .i64 0, .bool false, .int .i64 0]) = R := ⟨_, rfl⟩
   rw [hR]
   have HR := Lib.hid hR
   clear hR
   simp only [fv] at *
   go_enter s10, ntmps10
   go_wp2_with (first | (go_at_call 26; (with_reducible refine (htr _).mono ?_); rintro e w1 ⟨rfl, hB1⟩; (first | (replace hB := Below.call (by with_reducible assumption) hB1 (Nat.le_refl _)) | (replace hB := Below.call (by go_grown) hB1 (Nat.le_refl _)) | (have hB := hB1)); (try clear hc hg hz); obtain ⟨hc, hg⟩ := qp hB; have hz := hB.size; clear hB1; (try simp at hz); (try have hlt0 : w.heap.size < w1.heap.size := by omega)) | (go_at_call 27; (with_reducible refine (hli _).mono ?_); rintro e w1 ⟨rfl, hB1⟩; (first | (replace hB := Below.call (by with_reducible assumption) hB1 (Nat.le_refl _)) | (replace hB := Below.call (by go_grown) hB1 (Nat.le_refl _)) | (have hB := hB1)); (try clear hc hg hz); obtain ⟨hc, hg⟩ := qp hB; have hz := hB.size; clear hB1; (try simp at hz); (try have hlt0 : w.heap.size < w1.heap.size := by omega)))
   obtain ⟨W, hW⟩ : ∃ W, (w.alloc (Obj.cells #[Value.int .i64 x.1, Value.int .i64 x.2] 23)).alloc (Obj.cells #[Value.int .i64 l.1, Value.int .i64 l.2] 23) = W := ⟨_, rfl⟩
   have k0 : W.cell? ⟨w.heap.size, 0, none⟩ = some (.int .i64 x.1) := by subst hW; go_cell
   have k1 : W.cell? ⟨w.heap.size, 1, none⟩ = some (.int .i64 x.2) := by subst hW; go_cell
   have k2 : W.cell? ⟨w.heap.size + 1, 0, none⟩ = some (.int .i64 l.1) := by subst hW; go_cell
   have k3 : W.cell? ⟨w.heap.size + 1, 1, none⟩ = some (.int .i64 l.2) := by subst hW; go_cell
   have hBW : Below w.heap.size w W := by subst hW; go_grown
   rw [hW] at hB
   clear hc hg hz hW
   go_loopw [16] (fun i wr => ∃ k : Nat, i = .int .i64 k ∧ k ≤ 8 ∧ Below W.heap.size W wr ∧ Hid (qU x l k = qU x l 0)) (fun i _ => 8 - (intOf i).toNat)
   case atStart => exact ⟨0, rfl, by omega, hB, Lib.hid rfl⟩
   case round =>
    obtain ⟨k, rfl, hk, hBr, HE⟩ := hrel
    clear hB
    have k0 := qb _ hBr k0
    have k1 := qb _ hBr k1
    have k2 := qb _ hBr k2
    have k3 := qb _ hBr k3
    by_cases hlt : k < 8
    ·have hbe := fun W => hbe k (by omega) W
     by_cases hb : borne x k l = true
     ·simp only [hb] at hbe
      go_wp2_with (go_at_call 28; (with_reducible refine (hbe _).mono ?_); rintro e w1 ⟨rfl, hB1⟩; (first | (replace hB := Below.call (by with_reducible assumption) hB1 (Nat.le_refl _)) | (replace hB := Below.call (by go_grown) hB1 (Nat.le_refl _)) | (have hB := hB1)); (try clear hc hg hz); obtain ⟨hc, hg⟩ := qp hB; have hz := hB.size; clear hB1; (try simp at hz); (try have hlt0 : w.heap.size < w1.heap.size := by omega))
      go_ret3
      refine ⟨?_, Below.call hBW hB (Nat.le_refl _)⟩
      rw [← HR.out, ← HE.out, Qo hlt hb]; rfl
     ·have hb : borne x k l = false := by simpa using hb
      simp only [hb] at hbe
      go_wp2_with (go_at_call 28; (with_reducible refine (hbe _).mono ?_); rintro e w1 ⟨rfl, hB1⟩; (first | (replace hB := Below.call (by with_reducible assumption) hB1 (Nat.le_refl _)) | (replace hB := Below.call (by go_grown) hB1 (Nat.le_refl _)) | (have hB := hB1)); (try clear hc hg hz); obtain ⟨hc, hg⟩ := qp hB; have hz := hB.size; clear hB1; (try simp at hz); (try have hlt0 : w.heap.size < w1.heap.size := by omega))
      go_roundw
      case rel => exact ⟨k + 1, rfl, by omega, hB, Lib.hid (by rw [← QK hlt hb]; exact HE.out)⟩
      case measure => simp [intOf]; omega
    ·obtain rfl : k = 8 := by omega
     go_wp2
     go_ret3
     refine ⟨?_, Below.call hBW hBr (Nat.le_refl _)⟩
     rw [← HR.out, ← HE.out, ZC]; rfl
  ·rw [if_neg (fun h => hl h.2)]
   have hli := fun W => Zc l W hl
   simp only [fv] at *
   go_enter s10, ntmps10
   go_wp2_with (first | (go_at_call 26; (with_reducible refine (htr _).mono ?_); rintro e w1 ⟨rfl, hB1⟩; (first | (replace hB := Below.call (by with_reducible assumption) hB1 (Nat.le_refl _)) | (replace hB := Below.call (by go_grown) hB1 (Nat.le_refl _)) | (have hB := hB1)); (try clear hc hg hz); obtain ⟨hc, hg⟩ := qp hB; have hz := hB.size; clear hB1; (try simp at hz); (try have hlt0 : w.heap.size < w1.heap.size := by omega)) | (go_at_call 27; (with_reducible refine (hli _).mono ?_); rintro e w1 ⟨rfl, hB1⟩; (first | (replace hB := Below.call (by with_reducible assumption) hB1 (Nat.le_refl _)) | (replace hB := Below.call (by go_grown) hB1 (Nat.le_refl _)) | (have hB := hB1)); (try clear hc hg hz); obtain ⟨hc, hg⟩ := qp hB; have hz := hB.size; clear hB1; (try simp at hz); (try have hlt0 : w.heap.size < w1.heap.size := by omega)))
   go_ret3
   exact ⟨rfl, Below.call (B := w.heap.size) (by go_grown) hB (Nat.le_refl _)⟩
 ·rw [if_neg (fun h => hx h.1)]
  have htr := fun W => yH x W hx
  simp only [fv] at *
  go_enter s10, ntmps10
  go_wp2_with (first | (go_at_call 26; (with_reducible refine (htr _).mono ?_); rintro e w1 ⟨rfl, hB1⟩; (first | (replace hB := Below.call (by with_reducible assumption) hB1 (Nat.le_refl _)) | (replace hB := Below.call (by go_grown) hB1 (Nat.le_refl _)) | (have hB := hB1)); (try clear hc hg hz); obtain ⟨hc, hg⟩ := qp hB; have hz := hB.size; clear hB1; (try simp at hz); (try have hlt0 : w.heap.size < w1.heap.size := by omega)))
  go_ret3
  exact ⟨rfl, Below.call (B := w.heap.size) (by go_grown) hB (Nat.le_refl _)⟩
end Go.Proofs.Tryz
end
section
namespace Go.Proofs.Tryz
open Go Go.Load Go.RowKit
def qM (p : Int) (T : Nat) (l : Int × Int) : Nat → Int
 | 0 => -1
 | k + 1 => if borne ((k : Int), p) T l then k else qM p T l k
def YI (T p : Int) (l : Int × Int) : Value := if (0 ≤ T ∧ T ≤ 7) ∧ (1 ≤ p ∧ p ≤ 4) ∧ Lim l then tv (qM p T.toNat l 13, p) 0 else tv (0, 0) 1
set_option maxHeartbeats 2000000 in
theorem qdE (T : Nat) (p : Int) (l : Int × Int) (hT : T ≤ 7) (hp : 1 ≤ p ∧ p ≤ 4) (hl : Lim l) (w : World) :
 Calls qg 12 #[.int .i64 T, .int .i64 p, fv l] w fun e w' => e = .returned (tv (qM p T l 13, p) 0) ∧ Below w.heap.size w w' := by
 have hli := fun W => Qy l W hl
 have hbe := fun (k : Nat) (hk : k ≤ 12) W => bears_any T ((k : Int), p) l (Int.natCast_nonneg k) (by show (k : Int) ≤ 12; omega) hp.1 hp.2 hT hl.2.1 hl.1.1 hl.2.2 hl.1.2 W
 simp only [fv, tv] at *
 go_enter s12, ntmps12
 go_wp2_with (first | (go_at_call 27; (with_reducible refine (hli _).mono ?_); rintro e w1 ⟨rfl, hB1⟩; (first | (replace hB := Below.call (by with_reducible assumption) hB1 (Nat.le_refl _)) | (replace hB := Below.call (by go_grown) hB1 (Nat.le_refl _)) | (have hB := hB1)); (try clear hc hg hz); obtain ⟨hc, hg⟩ := qp hB; have hz := hB.size; clear hB1; (try simp at hz); (try have hlt0 : w.heap.size < w1.heap.size := by omega)) | (go_at_call 32; (with_reducible refine (zI _ _ (by omega)).mono ?_); rintro e w1 ⟨rfl, rfl⟩) | (go_at_call 33; (with_reducible refine (qE _ _ _ _ hp).mono ?_); rintro e w1 ⟨rfl, rfl⟩))
 have L0 : w1.cell? ⟨w.heap.size, 0, none⟩ = some (.int .i64 l.1) := by rw [hc _ _ (by simp <;> omega)]; go_cell
 have L1 : w1.cell? ⟨w.heap.size, 1, none⟩ = some (.int .i64 l.2) := by rw [hc _ _ (by simp <;> omega)]; go_cell
 have R0 : w1.cell? ⟨w.heap.size + 1, 0, none⟩ = some (.int .i64 0) := by rw [hc _ _ (by simp <;> omega)]; go_cell
 have R1 : w1.cell? ⟨w.heap.size + 1, 1, none⟩ = some (.int .i64 0) := by rw [hc _ _ (by simp <;> omega)]; go_cell
 have F0 : w1.frozen? ⟨w.heap.size + 1, 0, none⟩ = false := by rw [hg _ _ (by simp <;> omega)]; go_cell
 have F1 : w1.frozen? ⟨w.heap.size + 1, 1, none⟩ = false := by rw [hg _ _ (by simp <;> omega)]; go_cell
 have hBw : Below w.heap.size w w1 := Below.call (B := w.heap.size) (by go_grown) hB (Nat.le_refl _)
 clear hc hg hB
 go_loopw [27] (fun i wr => ∃ k : Nat, i = .int .i64 k ∧ k ≤ 13 ∧ Below w.heap.size w wr ∧ w1.heap.size + 1 ≤ wr.heap.size ∧ wr.cell? ⟨w.heap.size, 0, none⟩ = some (.int .i64 l.1) ∧ wr.cell? ⟨w.heap.size, 1, none⟩ = some (.int .i64 l.2) ∧
  wr.cell? ⟨w.heap.size + 1, 0, none⟩ = some (.int .i64 0) ∧ wr.cell? ⟨w.heap.size + 1, 1, none⟩ = some (.int .i64 0) ∧ wr.frozen? ⟨w.heap.size + 1, 0, none⟩ = false ∧ wr.frozen? ⟨w.heap.size + 1, 1, none⟩ = false ∧
  wr.cell? ⟨w1.heap.size, 0, none⟩ = some (.int .i64 (qM p T l k)) ∧ wr.cell? ⟨w1.heap.size, 1, none⟩ = some (.int .i64 p) ∧ wr.frozen? ⟨w1.heap.size, 0, none⟩ = false ∧ wr.frozen? ⟨w1.heap.size, 1, none⟩ = false) (fun i _ => 13 - (intOf i).toNat)
 case atStart =>
  have hm : qM p T l 0 = -1 := rfl
  exact ⟨0, rfl, by omega, by go_grown, by simp, qi L0, qi L1, qi R0, qi R1, qm R0 F0, qm R1 F1, by rw [hm]; go_cell, by go_cell, by go_cell, by go_cell⟩
 case round =>
  clear L0 L1 R0 R1 F0 F1 hBw
  obtain ⟨k, rfl, hk, hBw, hsz, L0, L1, R0, R1, F0, F1, M0, M1, G0, G1⟩ := hrel
  have s1 : w.heap.size < wr.heap.size := by omega
  have s2 : w.heap.size + 1 < wr.heap.size := by omega
  have s3 : w1.heap.size < wr.heap.size := by omega
  by_cases hlt : k < 13
  ·have hbe := fun W => hbe k (by omega) W
   by_cases hb : borne ((k : Int), p) T l = true
   ·have hnx : qM p T l (k + 1) = k := by simp [qM, hb]
    simp only [hb] at hbe
    have HN := Lib.hid hnx
    clear hnx
    generalize qM p T l k = m at *
    go_wp2_with (go_at_call 28; refine (hbe _).mono ?_; rintro e w2 ⟨rfl, hB2⟩; have A0 := qb ⟨wr.heap.size, 0, none⟩ hB2 (v := .int .i64 k) (by go_cell); have A1 := qb ⟨wr.heap.size, 1, none⟩ hB2 (v := .int .i64 p) (by go_cell); have N0 := qb _ hB2 (qi M0); have N1 := qb _ hB2 (qi M1); have H0 := qf _ hB2 (qi M0) (qm M0 G0); have H1 := qf _ hB2 (qi M1) (qm M1 G1); have P0 := qb _ hB2 (qi L0); have P1 := qb _ hB2 (qi L1); have Q0 := qb _ hB2 (qi R0); have Q1 := qb _ hB2 (qi R1); have I0 := qf _ hB2 (qi R0) (qm R0 F0); have I1 := qf _ hB2 (qi R1) (qm R1 F1); have hz2 := hB2.size; have hB3 := Below.call (B := w.heap.size) (by go_grown) hB2 (Nat.le_refl _); clear hB2 M0 M1 G0 G1 L0 L1 R0 R1 F0 F1; simp at hz2)
    go_roundw
    case rel => exact ⟨k + 1, rfl, by omega, (hB3.setCell (by simp; omega) _).setCell (by simp; omega) _, by simp; omega, by go_cell, by go_cell, by go_cell, by go_cell, by go_cell, by go_cell, by rw [HN.out]; go_cell, by go_cell, by go_cell, by go_cell⟩
    case measure => simp [intOf]; omega
   ·have hb : borne ((k : Int), p) T l = false := by simpa using hb
    have hnx : qM p T l (k + 1) = qM p T l k := by simp [qM, hb]
    simp only [hb] at hbe
    have HN := Lib.hid hnx
    clear hnx
    generalize qM p T l k = m at *
    go_wp2_with (go_at_call 28; refine (hbe _).mono ?_; rintro e w2 ⟨rfl, hB2⟩; have A0 := qb ⟨wr.heap.size, 0, none⟩ hB2 (v := .int .i64 k) (by go_cell); have A1 := qb ⟨wr.heap.size, 1, none⟩ hB2 (v := .int .i64 p) (by go_cell); have N0 := qb _ hB2 (qi M0); have N1 := qb _ hB2 (qi M1); have H0 := qf _ hB2 (qi M0) (qm M0 G0); have H1 := qf _ hB2 (qi M1) (qm M1 G1); have P0 := qb _ hB2 (qi L0); have P1 := qb _ hB2 (qi L1); have Q0 := qb _ hB2 (qi R0); have Q1 := qb _ hB2 (qi R1); have I0 := qf _ hB2 (qi R0) (qm R0 F0); have I1 := qf _ hB2 (qi R1) (qm R1 F1); have hz2 := hB2.size; have hB3 := Below.call (B := w.heap.size) (by go_grown) hB2 (Nat.le_refl _); clear hB2 M0 M1 G0 G1 L0 L1 R0 R1 F0 F1; simp at hz2)
    go_roundw
    case rel => exact ⟨k + 1, rfl, by omega, hB3, by omega, P0, P1, Q0, Q1, I0, I1, by rw [HN.out]; exact N0, N1, H0, H1⟩
    case measure => simp [intOf]; omega
  ·obtain rfl : k = 13 := by omega
   go_wp2
   have hp := xX (.int .i64 (qM p T l 13)) (.int .i64 p) R0 R1
   refine bodyPost_ret (qB results12 rfl rfl (zk qC qo hp.1 hp.2)) rfl ⟨rfl, ?_⟩
   exact (hBw.setCell (p := ⟨w.heap.size + 1, 0, none⟩) (Nat.le_succ _) _).setCell (p := ⟨w.heap.size + 1, 1, none⟩) (Nat.le_succ _) _
set_option maxHeartbeats 1000000 in
theorem JM (T p : Int) (l : Int × Int) (w : World) : Calls qg 12 #[.int .i64 T, .int .i64 p, fv l] w fun e w' => e = .returned (YI T p l) ∧ Below w.heap.size w w' := by
 unfold YI
 by_cases hT : 0 ≤ T ∧ T ≤ 7
 ·obtain ⟨n, rfl⟩ := Int.eq_ofNat_of_zero_le hT.1
  by_cases hp : 1 ≤ p ∧ p ≤ 4
  ·by_cases hl : Lim l
   ·rw [if_pos ⟨hT, hp, hl⟩]
    exact qdE n p l (by omega) hp hl w
   ·rw [if_neg (fun h => hl h.2.2)]
    have hli := fun W => Zc l W hl
    simp only [fv, tv] at *
    go_enter s12, ntmps12
    go_wp2_with (first | (go_at_call 27; (with_reducible refine (hli _).mono ?_); rintro e w1 ⟨rfl, hB1⟩; (first | (replace hB := Below.call (by with_reducible assumption) hB1 (Nat.le_refl _)) | (replace hB := Below.call (by go_grown) hB1 (Nat.le_refl _)) | (have hB := hB1)); (try clear hc hg hz); obtain ⟨hc, hg⟩ := qp hB; have hz := hB.size; clear hB1; (try simp at hz); (try have hlt0 : w.heap.size < w1.heap.size := by omega)) | (go_at_call 32; (with_reducible refine (zI _ _ (by omega)).mono ?_); rintro e w1 ⟨rfl, rfl⟩) | (go_at_call 33; (with_reducible refine (qE _ _ _ _ hp).mono ?_); rintro e w1 ⟨rfl, rfl⟩))
    have c0 : w1.cell? ⟨w.heap.size + 1, 0, none⟩ = some (.int .i64 0) := by rw [hc _ _ (by simp <;> omega)]; go_cell
    have c1 : w1.cell? ⟨w.heap.size + 1, 1, none⟩ = some (.int .i64 0) := by rw [hc _ _ (by simp <;> omega)]; go_cell
    have hp := xX (.int .i64 0) (.int .i64 0) c0 c1
    refine bodyPost_ret (qB results12 rfl rfl (zk qC qo hp.1 hp.2)) rfl ⟨rfl, ?_⟩
    exact ((Below.call (B := w.heap.size) (by go_grown) hB (Nat.le_refl _)).setCell (by simp) _).setCell (by simp) _
  ·rw [if_neg (fun h => hp h.2.1)]
   simp only [fv, tv] at *
   go_enter s12, ntmps12
   go_wp2_with (first | (go_at_call 32; (with_reducible refine (zI _ _ (by omega)).mono ?_); rintro e w1 ⟨rfl, rfl⟩) | (go_at_call 33; (with_reducible refine (qZ _ _ _ _ hp).mono ?_); rintro e w1 ⟨rfl, rfl⟩))
   go_returns
   exact ⟨rfl, by go_grown⟩
 ·rw [if_neg (fun h => hT h.1)]
  simp only [fv, tv] at *
  go_enter s12, ntmps12
  go_wp2_with (first | (go_at_call 32; (with_reducible refine (jb _ _ hT).mono ?_); rintro e w1 ⟨rfl, rfl⟩))
  go_returns
  exact ⟨rfl, by go_grown⟩
end Go.Proofs.Tryz
end
section
namespace Go.Proofs.Tryz
open Go Go.Load Go.RowKit
theorem qet {q l : Int × Int} (h2 : 0 < l.2) : above q (low l.1 l.2) = above q l := by
 have hg := qaJ (a := l.1) h2
 have d1 : (Int.gcd l.1 l.2 : Int) * (l.1 / (Int.gcd l.1 l.2 : Int)) = l.1 := Int.mul_ediv_cancel' (Int.gcd_dvd_left ..)
 have d2 : (Int.gcd l.1 l.2 : Int) * (l.2 / (Int.gcd l.1 l.2 : Int)) = l.2 := Int.mul_ediv_cancel' (Int.gcd_dvd_right ..)
 unfold above low lowT lowB
 simp only
 generalize (Int.gcd l.1 l.2 : Int) = g at *
 generalize l.1 / g = a at *
 generalize l.2 / g = b at *
 refine decide_eq_decide.2 ?_
 rw [← d1, ← d2, Int.mul_assoc, Int.mul_left_comm q.1]
 exact ⟨fun h => Int.mul_lt_mul_of_pos_left h hg, fun h => Int.lt_of_mul_lt_mul_left h (Int.le_of_lt hg)⟩
theorem borne_eq {t b n : Nat} {l : Int × Int} (h2 : 0 < l.2) : borne ((t : Int), (b : Int)) n l = !above (xI t b n) l := by
 unfold borne xI
 rw [qet h2]
end Go.Proofs.Tryz
end
section
namespace Go.Proofs.Tryz
open Go Go.Load Go.RowKit
theorem qcn {t b n : Nat} (ht : t ≤ 12) (hb : 1 ≤ b ∧ b ≤ 4) (hn : n ≤ 7) : fairN (xI t b n) = true ∧ okS (xI t b n) 8589934592 := by
 have h := qer
 rw [List.all_eq_true] at h
 have h := h t (List.mem_range.2 (by omega))
 rw [List.all_eq_true] at h
 have h := h (b - 1) (List.mem_range.2 (by omega))
 rw [List.all_eq_true] at h
 have h := h n (List.mem_range.2 (by omega))
 rw [show b - 1 + 1 = b by omega] at h
 unfold sumB at h
 simp only [Bool.and_eq_true, decide_eq_true_eq, Bool.not_eq_true'] at h
 exact ⟨h.1.1.1.1.1.1.1.2, h.1.1.1.1.2⟩
theorem Less_lim {l x : Int × Int} {r : Bool} (hr : above x l = r) (hk : okS x 8589934592) (hl : Lim l) (W : World) : Calls qg 58 #[fv l, fv x] W fun e w' => e = .returned (.bool r) ∧ Below W.heap.size W w' := by
 have h := hk
 unfold okS at h
 unfold Lim at hl
 exact hr ▸ Less_any l x W hl.2.1 (by omega) h.1 h.2.2.1 (by omega) (by omega) (by omega) (by omega)
end Go.Proofs.Tryz
end
section
namespace Go.Proofs.Tryz
open Go Go.Sim
@[go_sem] theorem s29 : qg.funcs[29]? = some f29 := by kernel_rfl
@[go_sem] theorem c29 (args : Array Value) (w : World) : (callFunc 29 args).run qg w = .ok (.enter 29 args) w := qh s29 (by kernel_rfl) (by kernel_rfl) args w
@[go_sem] theorem s30 : qg.funcs[30]? = some f30 := by kernel_rfl
@[go_sem] theorem c30 (args : Array Value) (w : World) : (callFunc 30 args).run qg w = .ok (.enter 30 args) w := qh s30 (by kernel_rfl) (by kernel_rfl) args w
@[go_sem] theorem s34 : qg.funcs[34]? = some f34 := by kernel_rfl
@[go_sem] theorem c34 (args : Array Value) (w : World) : (callFunc 34 args).run qg w = .ok (.enter 34 args) w := qh s34 (by kernel_rfl) (by kernel_rfl) args w
@[go_sem] theorem s52 : qg.funcs[52]? = some f52 := by kernel_rfl
@[go_sem] theorem c52 (args : Array Value) (w : World) : (callFunc 52 args).run qg w = .ok (.enter 52 args) w := qh s52 (by kernel_rfl) (by kernel_rfl) args w
@[go_sem] theorem s20 : qg.funcs[20]? = some f20 := by kernel_rfl
@[go_sem] theorem c20 (args : Array Value) (w : World) : (callFunc 20 args).run qg w = .ok (.enter 20 args) w := qh s20 (by kernel_rfl) (by kernel_rfl) args w
@[go_sem] theorem s22 : qg.funcs[22]? = some f22 := by kernel_rfl
@[go_sem] theorem c22 (args : Array Value) (w : World) : (callFunc 22 args).run qg w = .ok (.enter 22 args) w := qh s22 (by kernel_rfl) (by kernel_rfl) args w
@[go_sem] theorem s25 : qg.funcs[25]? = some f25 := by kernel_rfl
@[go_sem] theorem c25 (args : Array Value) (w : World) : (callFunc 25 args).run qg w = .ok (.enter 25 args) w := qh s25 (by kernel_rfl) (by kernel_rfl) args w
@[go_sem] theorem s19 : qg.funcs[19]? = some f19 := by kernel_rfl
@[go_sem] theorem c19 (args : Array Value) (w : World) : (callFunc 19 args).run qg w = .ok (.enter 19 args) w := qh s19 (by kernel_rfl) (by kernel_rfl) args w
@[go_sem] theorem s5 : qg.funcs[5]? = some f5 := by kernel_rfl
@[go_sem] theorem c5 (args : Array Value) (w : World) : (callFunc 5 args).run qg w = .ok (.enter 5 args) w := qh s5 (by kernel_rfl) (by kernel_rfl) args w
@[go_sem] theorem s7 : qg.funcs[7]? = some f7 := by kernel_rfl
@[go_sem] theorem c7 (args : Array Value) (w : World) : (callFunc 7 args).run qg w = .ok (.enter 7 args) w := qh s7 (by kernel_rfl) (by kernel_rfl) args w
@[go_sem] theorem s9 : qg.funcs[9]? = some f9 := by kernel_rfl
@[go_sem] theorem c9 (args : Array Value) (w : World) : (callFunc 9 args).run qg w = .ok (.enter 9 args) w := qh s9 (by kernel_rfl) (by kernel_rfl) args w
@[go_sem] theorem s31 : qg.funcs[31]? = some f31 := by kernel_rfl
@[go_sem] theorem c31 (args : Array Value) (w : World) : (callFunc 31 args).run qg w = .ok (.enter 31 args) w := qh s31 (by kernel_rfl) (by kernel_rfl) args w
@[go_sem] theorem s11 : qg.funcs[11]? = some f11 := by kernel_rfl
@[go_sem] theorem c11 (args : Array Value) (w : World) : (callFunc 11 args).run qg w = .ok (.enter 11 args) w := qh s11 (by kernel_rfl) (by kernel_rfl) args w
@[go_sem] theorem s13 : qg.funcs[13]? = some f13 := by kernel_rfl
@[go_sem] theorem c13 (args : Array Value) (w : World) : (callFunc 13 args).run qg w = .ok (.enter 13 args) w := qh s13 (by kernel_rfl) (by kernel_rfl) args w
@[go_sem] theorem s15 : qg.funcs[15]? = some f15 := by kernel_rfl
@[go_sem] theorem c15 (args : Array Value) (w : World) : (callFunc 15 args).run qg w = .ok (.enter 15 args) w := qh s15 (by kernel_rfl) (by kernel_rfl) args w
end Go.Proofs.Tryz
end
section
namespace Go.Proofs.Tryz
open Go Go.Load Go.RowKit
theorem qcH (a b c : Int) (w : World) (h : ¬ (b ≤ a ∧ a ≤ c)) : Calls qg 35 #[.int .i64 a, .int .i64 b, .int .i64 c] w fun e w' => e = .returned (.bool false) ∧ w = w' := by
 by_cases h1 : b ≤ a
 ·have h2 : ¬ a ≤ c := fun h2 => h ⟨h1, h2⟩
  have k1 : decide (b ≤ a) = true := decide_eq_true h1
  have k2 : decide (a ≤ c) = false := decide_eq_false h2
  go_enter s35, ntmps35
  go_wp2
  go_ret
  exact ⟨by simp_all, rfl⟩
 ·have k1 : decide (b ≤ a) = false := decide_eq_false h1
  go_enter s35, ntmps35
  go_wp2
  go_ret
  exact ⟨by simp_all, rfl⟩
theorem xg (x : Int × Int) (w : World) (h : yc x) : Calls qg 29 #[fv x] w fun e w' => e = .returned (.bool true) ∧ Below w.heap.size w w' := by
 obtain ⟨h1, h2⟩ := h
 simp only [fv]
 go_enter s29, ntmps29
 go_wp2_with (go_at_call 35; (first | (with_reducible refine (QJ _ _ _ _ h1).mono ?_) | (with_reducible refine (QJ _ _ _ _ h2).mono ?_)); rintro e w' ⟨rfl, rfl⟩)
 go_ret
 exact ⟨rfl, by go_grown⟩
theorem Qr (x : Int × Int) (w : World) (h : ¬ yc x) : Calls qg 29 #[fv x] w fun e w' => e = .returned (.bool false) ∧ Below w.heap.size w w' := by
 simp only [fv]
 by_cases h1 : 0 ≤ x.1 ∧ x.1 ≤ 12
 ·have h2 : ¬ (1 ≤ x.2 ∧ x.2 ≤ 4) := fun h2 => h ⟨h1, h2⟩
  go_enter s29, ntmps29
  go_wp2_with (go_at_call 35; (first | (with_reducible refine (QJ _ _ _ _ h1).mono ?_) | (with_reducible refine (qcH _ _ _ _ h2).mono ?_)); rintro e w' ⟨rfl, rfl⟩)
  go_ret
  exact ⟨rfl, by go_grown⟩
 ·go_enter s29, ntmps29
  go_wp2_with (go_at_call 35; (with_reducible refine (qcH _ _ _ _ h1).mono ?_); rintro e w' ⟨rfl, rfl⟩)
  go_ret
  exact ⟨rfl, by go_grown⟩
theorem Xm (x : Int × Int) (w : World) (h : Lim x) : Calls qg 30 #[fv x] w fun e w' => e = .returned (.bool true) ∧ Below w.heap.size w w' := by
 obtain ⟨h1, h2⟩ := h
 simp only [fv]
 go_enter s30, ntmps30
 go_wp2_with (go_at_call 35; (first | (with_reducible refine (QJ _ _ _ _ h1).mono ?_) | (with_reducible refine (QJ _ _ _ _ h2).mono ?_)); rintro e w' ⟨rfl, rfl⟩)
 go_ret
 exact ⟨rfl, by go_grown⟩
theorem qap (x : Int × Int) (w : World) (h : ¬ Lim x) : Calls qg 30 #[fv x] w fun e w' => e = .returned (.bool false) ∧ Below w.heap.size w w' := by
 simp only [fv]
 by_cases h1 : 1 ≤ x.2 ∧ x.2 ≤ 100
 ·have h2 : ¬ (0 ≤ x.1 ∧ x.1 ≤ x.2) := fun h2 => h ⟨h1, h2⟩
  go_enter s30, ntmps30
  go_wp2_with (go_at_call 35; (first | (with_reducible refine (QJ _ _ _ _ h1).mono ?_) | (with_reducible refine (qcH _ _ _ _ h2).mono ?_)); rintro e w' ⟨rfl, rfl⟩)
  go_ret
  exact ⟨rfl, by go_grown⟩
 ·go_enter s30, ntmps30
  go_wp2_with (go_at_call 35; (with_reducible refine (qcH _ _ _ _ h1).mono ?_); rintro e w' ⟨rfl, rfl⟩)
  go_ret
  exact ⟨rfl, by go_grown⟩
theorem zh (a : Int) (w : World) (h : 0 ≤ a ∧ a ≤ 7) : Calls qg 34 #[.int .i64 a] w fun e w' => e = .returned (.bool true) ∧ w = w' := by
 go_enter s34, ntmps34
 go_wp2_with (go_at_call 35; refine (QJ _ _ _ _ h).mono ?_; rintro e w' ⟨rfl, rfl⟩)
 go_ret
 exact ⟨rfl, rfl⟩
theorem xQ (a : Int) (w : World) (h : ¬ (0 ≤ a ∧ a ≤ 7)) : Calls qg 34 #[.int .i64 a] w fun e w' => e = .returned (.bool false) ∧ w = w' := by
 go_enter s34, ntmps34
 go_wp2_with (go_at_call 35; refine (qcH _ _ _ _ h).mono ?_; rintro e w' ⟨rfl, rfl⟩)
 go_ret
 exact ⟨rfl, rfl⟩
theorem JZ (a m : Nat) (hm : m ≤ 20) (hb : ∀ i, i ≤ m → a ^ i < 4611686018427387904) (w : World) : Calls qg 52 #[.int .i64 a, .int .i64 m] w fun e w' => e = .returned (.int .i64 ((a ^ m : Nat) : Int)) ∧ w = w' := by
 have HB := Lib.hid hb
 clear hb
 go_enter s52, ntmps52
 go_wp2
 go_loop [5, 6] (fun o i => ∃ (k : Nat) (p : Int), i = .int .i64 k ∧ k ≤ m ∧ o = .int .i64 p ∧ Hid (p = ((a ^ k : Nat) : Int))) (fun _ i => m - (intOf i).toNat)
 case atStart => exact ⟨0, 1, rfl, by omega, rfl, Lib.hid (by simp)⟩
 case round =>
  obtain ⟨k, p, rfl, hk, rfl, HP⟩ := hrel
  by_cases hlt : k < m
  ·have h1 := HB.out (k + 1) (by omega)
   have e : p * a = ((a ^ (k + 1) : Nat) : Int) := by rw [HP.out, Nat.pow_succ, Int.natCast_mul]
   have h0 : 0 ≤ p * (a : Int) := by rw [e]; omega
   have h2 : p * (a : Int) < 4611686018427387904 := by rw [e]; omega
   have HE := Lib.hid e
   have e1 : IntKind.i64.wrap (p * (a : Int)) = p * a := IntWalk.i64_in _ (by omega)
   clear e h1
   go_wp2
   go_round
   case rel => exact ⟨k + 1, _, by go_num, by omega, rfl, HE⟩
   case measure => simp [intOf]; omega
  ·obtain rfl : k = m := by omega
   go_wp2
   go_ret
   exact ⟨by rw [HP.out, Int.natCast_pow]; rfl, rfl⟩
end Go.Proofs.Tryz
end
section
namespace Go.Proofs.Tryz
open Go Go.Load Go.RowKit
theorem qdv (a m : Nat) (hm : m ≤ 20) (hb : ∀ i, i ≤ m → a ^ i < 4611686018427387904) (w : World) : Calls qg 52 #[.int .i64 a, .int .i64 m] w fun e w' => e = .returned (.int .i64 ((a ^ m : Nat) : Int)) ∧ w' = w := (JZ a m hm hb w).mono fun _ _ ⟨h1, h2⟩ => ⟨h1, h2.symm⟩
theorem max_pos (n j : Nat) (h : j ≤ n) : max ((n : Int) - j) 1 = ((max (n - j) 1 : Nat) : Int) := by omega
set_option maxHeartbeats 2000000 in
set_option maxRecDepth 100000 in
theorem Qa (t b n : Nat) (ht : t ≤ 12) (hb : 1 ≤ b ∧ b ≤ 4) (hn : n ≤ 7) (w : World) : Calls qg 20 #[fv ((t : Int), (b : Int)), .int .i64 n] w fun e w' => e = .returned (fv (xI t b n)) ∧ Below w.heap.size w w' := by
 obtain ⟨r1, r2, r3⟩ := qeF ht hb hn
 have hpn := fun W => JZ t n (by omega) (fun i hi => by have := (r3 (n - i) (by omega)).2.1; rw [show n - (n - i) = i by omega] at this; omega) W
 have hpt := fun j (hj : j ≤ n) W => qdv t (n - j) (by omega) (fun i hi => by have := (r3 (n - i) (by omega)).2.1; rw [show n - (n - i) = i by omega] at this; omega) W
 have hpb := fun j (hj : j ≤ n) W => qdv b j (by omega) (fun i hi => by have := (r3 i (by omega)).2.2.1; omega) W
 have hre := fun W => Qt (t ^ n) (qcX t b n (n + 1)) W (by have := (r3 0 (by omega)).2.1; rw [Nat.sub_zero] at this; omega) ⟨r2, by have := (r3 (n + 1) (by omega)).2.2.2; omega⟩
 rw [r1] at hre
 have HT := Lib.hid hpt
 have HB := Lib.hid hpb
 have H3 := Lib.hid r3
 clear hpt hpb r1 r2 r3
 generalize xI t b n = q at *
 obtain ⟨q1, q2⟩ := q
 simp only [fv] at *
 go_enter s20, ntmps20
 go_wp2
 obtain ⟨W, hW⟩ : ∃ W, (w.alloc (Obj.cells #[.int .i64 t, .int .i64 b] 23)).alloc (Obj.cells #[.int .i64 0, .int .i64 0] 23) = W := ⟨_, rfl⟩
 have k0 : W.cell? ⟨w.heap.size, 0, none⟩ = some (.int .i64 t) := by subst hW; go_cell
 have k1 : W.cell? ⟨w.heap.size, 1, none⟩ = some (.int .i64 b) := by subst hW; go_cell
 have c0 : W.cell? ⟨w.heap.size + 1, 0, none⟩ = some (.int .i64 0) := by subst hW; go_cell
 have c1 : W.cell? ⟨w.heap.size + 1, 1, none⟩ = some (.int .i64 0) := by subst hW; go_cell
 have f0 : W.frozen? ⟨w.heap.size + 1, 0, none⟩ = false := by subst hW; go_cell
 have f1 : W.frozen? ⟨w.heap.size + 1, 1, none⟩ = false := by subst hW; go_cell
 have hBW : Below w.heap.size w W := by subst hW; go_grown
 rw [hW]
 clear hW
 go_loopw [5, 6, 7] (fun sv fv kv wr => ∃ (j : Nat) (s f kk : Int), j ≤ n + 1 ∧ sv = .int .i64 s ∧ fv = .int .i64 f ∧ kv = .int .i64 kk ∧ Hid (s = qcX t b n j ∧ f = Jc n j ∧ kk = (n : Int) - j) ∧ Below W.heap.size W wr) (fun _ _ kv _ => (intOf kv + 1).toNat)
 case atStart => exact ⟨0, 0, 1, n, by omega, rfl, rfl, rfl, Lib.hid ⟨rfl, rfl, by omega⟩, Below.refl _ _⟩
 case round =>
  obtain ⟨j, s, f, kk, hj, rfl, rfl, rfl, HV, hBr⟩ := hrel
  have k0 := qb _ hBr k0
  have k1 := qb _ hBr k1
  by_cases hlt : j ≤ n
  ·have hpt := fun W => HT.out j hlt W
   have hpb := fun W => HB.out j hlt W
   obtain ⟨v1, v2, v3⟩ := HV.out
   have ek : ((n - j : Nat) : Int) = kk := by omega
   obtain ⟨g1, g2, g3, g4⟩ := H3.out j hj
   have hS : s + f * ((t ^ (n - j) : Nat) : Int) * ((b ^ j : Nat) : Int) = ((qcX t b n (j + 1) : Nat) : Int) := by
    rw [v1, v2, show qcX t b n (j + 1) = qcX t b n j + Jc n j * t ^ (n - j) * b ^ j from rfl, Int.natCast_add, Int.natCast_mul, Int.natCast_mul]
   have hF : f * max kk 1 = ((Jc n (j + 1) : Nat) : Int) := by
    rw [v2, v3, max_pos n j hlt, show Jc n (j + 1) = Jc n j * max (n - j) 1 from rfl, Int.natCast_mul]
   obtain ⟨g5, _, _, g6⟩ := H3.out (j + 1) (by omega)
   rw [ek] at hpt
   have hk0 : 0 ≤ kk := by omega
   have hf0 : 0 ≤ f := by omega
   have hf1 : f ≤ 5040 := by omega
   have hs0 : 0 ≤ s := by omega
   have hs1 : s ≤ 4000000000000000 := by omega
   have e1 : (n : Int) - kk = (j : Int) := by omega
   have hk7 : kk ≤ 7 := by omega
   generalize t ^ (n - j) = P at *
   generalize b ^ j = B at *
   have m1 : 0 ≤ f * (P : Int) := Int.mul_nonneg hf0 (by omega)
   have m2 : f * (P : Int) ≤ 5040 * 35831808 := Int.mul_le_mul hf1 (by omega) (by omega) (by omega)
   have m3 : 0 ≤ f * (P : Int) * (B : Int) := Int.mul_nonneg m1 (by omega)
   have m4 : f * (P : Int) * (B : Int) ≤ 5040 * 35831808 * 65536 := Int.mul_le_mul m2 (by omega) (by omega) (by omega)
   have m5 : 0 ≤ max kk 1 ∧ max kk 1 ≤ 7 := by omega
   have m6 : f * max kk 1 ≤ 5040 * 7 := Int.mul_le_mul hf1 m5.2 m5.1 (by omega)
   have m7 : 0 ≤ f * max kk 1 := Int.mul_nonneg hf0 m5.1
   have HS := Lib.hid hS
   have HF := Lib.hid hF
   have HK := Lib.hid v3
   clear v1 v2 v3 ek g1 g2 g3 g4 g5 g6 hS hF
   have w1 : IntKind.i64.wrap ((n : Int) - kk) = (j : Int) := by rw [e1]; exact IntWalk.i64_in _ (by omega)
   have w2 : IntKind.i64.wrap (f * (P : Int)) = f * P := IntWalk.i64_in _ (by omega)
   have w3 : IntKind.i64.wrap (f * (P : Int) * (B : Int)) = f * P * B := IntWalk.i64_in _ (by omega)
   have w4 : IntKind.i64.wrap (s + f * (P : Int) * (B : Int)) = s + f * P * B := IntWalk.i64_in _ (by omega)
   have HX : Hid (RowKit.wrap64 (f * if kk < 1 then 1 else kk) = f * max kk 1) := Lib.hid (by
    rw [show (if kk < 1 then 1 else kk) = max kk 1 by split <;> omega]
    exact IntWalk.wrap64_in _ (by omega))
   clear e1
   go_wp2
   go_quiet ((go_at_call 52; (first | (with_reducible exact Calls.quiet_of_same (hpt _)) | (with_reducible exact Calls.quiet_of_same (hpb _)))))
   clear w1 w2 w3 w4
   go_wp2
   go_roundw
   case rel => exact ⟨j + 1, _, _, kk - 1, by omega, rfl, rfl, rfl, Lib.hid ⟨HS.out, HX.out.trans HF.out, by have := HK.out; omega⟩, below_drewN hBr _⟩
   case measure => simp [intOf]; omega
  ·obtain rfl : j = n + 1 := by omega
   obtain ⟨v1, v2, v3⟩ := HV.out
   have hk0 : kk < 0 := by omega
   rw [← v1] at hre
   clear v1 v2 v3 HV HT HB H3
   generalize t ^ n = PP at *
   go_wp2_with (first | (go_at_call 52; (with_reducible refine (hpn _).mono ?_); rintro e w1 ⟨rfl, rfl⟩) | (go_at_call 53; (with_reducible refine (hre _).mono ?_); rintro e w2 ⟨rfl, hB2⟩; have hB3 := Below.call hBr hB2 (Nat.le_refl _); have s0 := qb _ hB3 c0; have s1 := qb _ hB3 c1; have q0 := qf _ hB3 c0 f0; have q1' := qf _ hB3 c1 f1))
   refine zR results20 qC qo rfl s0 s1 ⟨rfl, ?_⟩
   exact ((Below.call hBW hB3 (Nat.le_refl _)).setCell (by simp) _).setCell (by simp) _
end Go.Proofs.Tryz
end
section
namespace Go.Proofs.Tryz
open Go Go.Load Go.RowKit
theorem qaa {t b n : Nat} (ht : t ≤ 12) (hb : 1 ≤ b ∧ b ≤ 4) (hn : n ≤ 7) : sumB t b n = true := by
 have h := qer
 rw [List.all_eq_true] at h
 have h := h t (List.mem_range.2 (by omega))
 rw [List.all_eq_true] at h
 have h := h (b - 1) (List.mem_range.2 (by omega))
 rw [List.all_eq_true] at h
 have h := h n (List.mem_range.2 (by omega))
 rwa [show b - 1 + 1 = b by omega] at h
set_option maxHeartbeats 2000000 in
set_option maxRecDepth 100000 in
theorem Xo (t b n : Nat) (ht : t ≤ 12) (hb : 1 ≤ b ∧ b ≤ 4) (hn : n ≤ 7) (w : World) : Calls qg 22 #[fv ((t : Int), (b : Int)), .int .i64 n] w fun e w' => e = .returned (fv (jL t b n)) ∧ Below w.heap.size w w' := by
 have hR := qaa ht hb hn
 unfold sumB at hR
 simp only [Bool.and_eq_true, decide_eq_true_eq, Bool.not_eq_true'] at hR
 obtain ⟨⟨⟨⟨⟨⟨⟨⟨⟨f1, f2⟩, f3⟩, k1⟩, k2⟩, k3⟩, km⟩, rm⟩, ra⟩, rr⟩ := hR
 have hlo := fun W => Qa t b n ht hb hn W
 generalize jL t b n = x at *
 generalize xI t b n = q at *
 clear f1 f2 f3 k1 k2 km rm ra
 obtain ⟨q1, q2⟩ := q
 simp only [okS] at k3
 have hre := fun W => Qt (t * q1.toNat) (b * q2.toNat) W (by
  have : t * q1.toNat ≤ 12 * q1.toNat := Nat.mul_le_mul ht (Nat.le_refl _)
  omega) ⟨Nat.mul_pos (by omega) (by omega), by
  have : b * q2.toNat ≤ 4 * q2.toNat := Nat.mul_le_mul hb.2 (Nat.le_refl _)
  omega⟩
 rw [← rr] at hre
 have ex : ((t * q1.toNat : Nat) : Int) = (t : Int) * q1 := by rw [Int.natCast_mul, Int.toNat_of_nonneg k3.1]
 have ey : ((b * q2.toNat : Nat) : Int) = (b : Int) * q2 := by rw [Int.natCast_mul, Int.toNat_of_nonneg (by omega : 0 ≤ q2)]
 rw [ex, ey] at hre
 have b1 : 0 ≤ (t : Int) * q1 := Int.mul_nonneg (by omega) k3.1
 have b2 : (t : Int) * q1 ≤ 12 * 137438953472 := Int.mul_le_mul (by omega) (by omega) k3.1 (by omega)
 have b3 : 0 ≤ (b : Int) * q2 := Int.mul_nonneg (by omega) (by omega)
 have b4 : (b : Int) * q2 ≤ 4 * 8589934592 := Int.mul_le_mul (by omega) (by omega) (by omega) (by omega)
 have p1 : IntKind.i64.wrap ((t : Int) * q1) = t * q1 := by rw [IntKind.wrap_i64]; omega
 have p2 : IntKind.i64.wrap ((b : Int) * q2) = b * q2 := by rw [IntKind.wrap_i64]; omega
 clear rr ex ey
 obtain ⟨x1, x2⟩ := x
 simp only [fv] at *
 go_enter s22, ntmps22
 go_wp2_with (first | (go_at_call 20; refine (hlo _).mono ?_; rintro e w1 ⟨rfl, hB1⟩; obtain ⟨hc, hg⟩ := qp hB1; have hz := hB1.size; simp at hz; have hl0 : w.heap.size < w1.heap.size := (by omega); have hl1 : w.heap.size + 1 < w1.heap.size := (by omega); have c0 := qb ⟨w.heap.size + 1, 0, none⟩ hB1 (v := .int .i64 0) (by go_cell); have c1 := qb ⟨w.heap.size + 1, 1, none⟩ hB1 (v := .int .i64 0) (by go_cell); have f0 := qf ⟨w.heap.size + 1, 0, none⟩ hB1 (v := .int .i64 0) (by go_cell) (by go_cell); have f1 := qf ⟨w.heap.size + 1, 1, none⟩ hB1 (v := .int .i64 0) (by go_cell) (by go_cell); have d0 := qb ⟨w.heap.size, 0, none⟩ hB1 (v := .int .i64 t) (by go_cell); have d1 := qb ⟨w.heap.size, 1, none⟩ hB1 (v := .int .i64 b) (by go_cell)) | (go_at_call 53; refine (hre _).mono ?_; rintro e w2 ⟨rfl, hB2⟩; have hB3 : Below w1.heap.size w1 w2 := Below.call ((Below.refl _ w1).alloc (Nat.le_refl _) _) hB2 (Nat.le_refl _); have s0 := qb _ hB3 c0; have s1 := qb _ hB3 c1; have q0 := qf _ hB3 c0 f0; have q1' := qf _ hB3 c1 f1))
 refine zR results22 qC qo rfl s0 s1 ⟨rfl, ?_⟩
 have hBB : Below w.heap.size w w2 := Below.call (Below.call (B := w.heap.size) (by go_grown) hB1 (Nat.le_refl _)) hB3 (Nat.le_refl _)
 exact (hBB.setCell (by simp) _).setCell (by simp) _
set_option maxHeartbeats 2000000 in
set_option maxRecDepth 100000 in
theorem Ja (t b n : Nat) (ht : t ≤ 12) (hb : 1 ≤ b ∧ b ≤ 4) (hn : n ≤ 7) (w : World) : Calls qg 25 #[fv ((t : Int), (b : Int)), .int .i64 n] w fun e w' => e = .returned (fv (XK t b n)) ∧ Below w.heap.size w w' := by
 have hR := qaa ht hb hn
 unfold sumB at hR
 simp only [Bool.and_eq_true, decide_eq_true_eq, Bool.not_eq_true'] at hR
 obtain ⟨⟨⟨⟨⟨⟨⟨⟨⟨f1, f2⟩, f3⟩, k1⟩, k2⟩, k3⟩, km⟩, rm⟩, ra⟩, rr⟩ := hR
 have hlo := fun W => Xo t b n ht hb hn W
 have hmi := fun W => qdL ((t : Int), (b : Int)) (jL t b n) W (by show 0 ≤ (t : Int); omega) (by show 0 < (b : Int); omega) k1.1 k1.2.2.1 km.1.1 km.1.2 km.2
 simp only [rm] at hmi
 generalize jL t b n = x at *
 generalize XK t b n = y at *
 clear f1 f2 f3 k1 k2 k3 km rm ra rr
 obtain ⟨x1, x2⟩ := x
 obtain ⟨y1, y2⟩ := y
 simp only [fv] at *
 go_enter s25, ntmps25
 go_wp2_with fail
 go_region_held3 (fun w' => w'.cell? ⟨w.heap.size, 0, none⟩ = some (.int .i64 t) ∧ w'.cell? ⟨w.heap.size, 1, none⟩ = some (.int .i64 b) ∧ w'.frozen? ⟨w.heap.size + 1, 0, none⟩ = false ∧ w'.frozen? ⟨w.heap.size + 1, 1, none⟩ = false ∧
  w'.cell? ⟨w.heap.size + 1, 0, none⟩ = some (atD w' ⟨w.heap.size + 1, 0, none⟩) ∧ w'.cell? ⟨w.heap.size + 1, 1, none⟩ = some (atD w' ⟨w.heap.size + 1, 1, none⟩) ∧ Below w.heap.size w w')
  (first | exact ⟨by go_cell, by go_cell, by go_cell, by go_cell, qL (qy (v := .int .i64 0) (by go_cell)), qL (qy (v := .int .i64 0) (by go_cell)), by go_grown⟩ | exact qdY ‹_› hB | exact QY _ _ ‹_› (by simp) (by simp)) (first | (go_at_call 22; refine (hlo _).mono ?_; rintro e w1 ⟨rfl, hB⟩) | (go_at_call 56; refine (hmi _).mono ?_; rintro e w1 ⟨rfl, hB⟩))
 go_wp2
 rename_i hH
 obtain ⟨c0, c1, hG⟩ := Zp hH
 exact zR results25 qC qo rfl c0 c1 ⟨rfl, hG⟩
set_option maxHeartbeats 2000000 in
set_option maxRecDepth 100000 in
theorem qcI (t b n : Nat) (l : Int × Int) (ht : t ≤ 12) (hb : 1 ≤ b ∧ b ≤ 4) (hn : n ≤ 7) (hl : Lim l) (w : World) : Calls qg 31 #[fv ((t : Int), (b : Int)), .int .i64 n, fv l] w fun e w' => e = .returned (.bool (borne ((t : Int), (b : Int)) n l)) ∧ Below w.heap.size w w' := by
 have hlo := fun W => Qa t b n ht hb hn W
 obtain ⟨_, hk⟩ := qcn ht hb hn
 have hle := fun W => Less_lim (r := above (xI t b n) l) rfl hk hl W
 rw [borne_eq (by have := hl.1.1; omega)]
 generalize above (xI t b n) l = r at *
 generalize xI t b n = q at *
 clear hk hl
 obtain ⟨q1, q2⟩ := q
 obtain ⟨l1, l2⟩ := l
 simp only [fv] at *
 go_enter s31, ntmps31
 go_wp2_with fail
 go_region_held3 (fun w' => w'.cell? ⟨w.heap.size, 0, none⟩ = some (.int .i64 t) ∧ w'.cell? ⟨w.heap.size, 1, none⟩ = some (.int .i64 b) ∧ w'.cell? ⟨w.heap.size + 1, 0, none⟩ = some (.int .i64 l1) ∧ w'.cell? ⟨w.heap.size + 1, 1, none⟩ = some (.int .i64 l2) ∧ Below w.heap.size w w')
  (first | exact ⟨by go_cell, by go_cell, by go_cell, by go_cell, by go_grown⟩ | exact qeQ ‹_› hB | assumption) (first | (go_at_call 20; refine (hlo _).mono ?_; rintro e w1 ⟨rfl, hB⟩) | (go_at_call 58; refine (hle _).mono ?_; rintro e w1 ⟨rfl, hB⟩))
 all_goals
  go_wp2
  rename_i hH
  go_ret
  exact ⟨rfl, hH.2.2.2.2⟩
end Go.Proofs.Tryz
end
section
namespace Go.Proofs.Tryz
open Go Go.Load Go.RowKit
set_option maxHeartbeats 1000000 in
theorem Yv (x : Int × Int) (n : Int) (h : yc x ∧ 0 ≤ n ∧ n ≤ 7) (w : World) : Calls qg 19 #[fv x, .int .i64 n] w fun e w' => e = .returned (.int .i64 0) ∧ Below w.heap.size w w' := by
 have htr := fun W => xg x W h.1
 have hn := h.2
 clear h
 simp only [fv] at *
 go_enter s19, ntmps19
 go_wp2_with (first | (go_at_call 34; (with_reducible refine (zh _ _ hn).mono ?_); rintro e w1 ⟨rfl, rfl⟩) | (go_at_call 29; (with_reducible refine (htr _).mono ?_); rintro e w1 ⟨rfl, hB1⟩; (first | (replace hB := Below.call (by with_reducible assumption) hB1 (Nat.le_refl _)) | (replace hB := Below.call (by go_grown) hB1 (Nat.le_refl _)) | (have hB := hB1)); (try clear hc hg hz); obtain ⟨hc, hg⟩ := qp hB; have hz := hB.size; clear hB1; (try simp at hz); (try have hlt0 : w.heap.size < w1.heap.size := by omega)))
 go_ret
 exact ⟨rfl, Below.call (B := w.heap.size) (by go_grown) hB (Nat.le_refl _)⟩
set_option maxHeartbeats 1000000 in
theorem XZ (x : Int × Int) (n : Int) (h : ¬ (yc x ∧ 0 ≤ n ∧ n ≤ 7)) (w : World) : Calls qg 19 #[fv x, .int .i64 n] w fun e w' => e = .returned (.int .i64 1) ∧ Below w.heap.size w w' := by
 by_cases hx : yc x
 ·have hn : ¬ (0 ≤ n ∧ n ≤ 7) := fun hn => h ⟨hx, hn⟩
  have htr := fun W => xg x W hx
  clear h hx
  simp only [fv] at *
  go_enter s19, ntmps19
  go_wp2_with (first | (go_at_call 34; (with_reducible refine (xQ _ _ hn).mono ?_); rintro e w1 ⟨rfl, rfl⟩) | (go_at_call 29; (with_reducible refine (htr _).mono ?_); rintro e w1 ⟨rfl, hB1⟩; (first | (replace hB := Below.call (by with_reducible assumption) hB1 (Nat.le_refl _)) | (replace hB := Below.call (by go_grown) hB1 (Nat.le_refl _)) | (have hB := hB1)); (try clear hc hg hz); obtain ⟨hc, hg⟩ := qp hB; have hz := hB.size; clear hB1; (try simp at hz); (try have hlt0 : w.heap.size < w1.heap.size := by omega)))
  go_ret
  exact ⟨rfl, Below.call (B := w.heap.size) (by go_grown) hB (Nat.le_refl _)⟩
 ·have htr := fun W => Qr x W hx
  clear h hx
  simp only [fv] at *
  go_enter s19, ntmps19
  go_wp2_with (first | (go_at_call 29; (with_reducible refine (htr _).mono ?_); rintro e w1 ⟨rfl, hB1⟩; (first | (replace hB := Below.call (by with_reducible assumption) hB1 (Nat.le_refl _)) | (replace hB := Below.call (by go_grown) hB1 (Nat.le_refl _)) | (have hB := hB1)); (try clear hc hg hz); obtain ⟨hc, hg⟩ := qp hB; have hz := hB.size; clear hB1; (try simp at hz); (try have hlt0 : w.heap.size < w1.heap.size := by omega)))
  go_ret
  exact ⟨rfl, Below.call (B := w.heap.size) (by go_grown) hB (Nat.le_refl _)⟩
theorem QG {x : Int × Int} (h : yc x) : ∃ t b : Nat, x = ((t : Int), (b : Int)) ∧ t ≤ 12 ∧ 1 ≤ b ∧ b ≤ 4 := by
 obtain ⟨x1, x2⟩ := x
 obtain ⟨⟨a, b⟩, c, d⟩ := h
 simp only at a b c d
 exact ⟨x1.toNat, x2.toNat, by rw [Int.toNat_of_nonneg a, Int.toNat_of_nonneg (by omega)], by omega, by omega, by omega⟩
set_option maxHeartbeats 1000000 in
theorem qdB (n : Int) (x : Int × Int) (w : World) : Calls qg 5 #[fv x, .int .i64 n] w fun e w' => e = .returned (zS qO x n) ∧ Below w.heap.size w w' := by
 by_cases h : yc x ∧ 0 ≤ n ∧ n ≤ 7
 ·have has := fun W => Yv x n h W
  obtain ⟨t, b, rfl, ht, hb⟩ := QG h.1
  obtain ⟨k, rfl⟩ := Int.eq_ofNat_of_zero_le h.2.1
  have hk : k ≤ 7 := by have := h.2.2; omega
  have hlo := fun W => Qa t b k ht hb hk W
  rw [Jv ht hb hk]
  generalize xI t b k = r at *
  obtain ⟨r1, r2⟩ := r
  clear h
  simp only [fv, tv] at *
  go_enter s5, ntmps5
  go_wp2_with (first | (go_at_call 19; (with_reducible refine (has _).mono ?_); rintro e w1 ⟨rfl, hB1⟩; (first | (replace hB := Below.call (by with_reducible assumption) hB1 (Nat.le_refl _)) | (replace hB := Below.call (by go_grown) hB1 (Nat.le_refl _)) | (have hB := hB1)); (try clear hc hg hz); obtain ⟨hc, hg⟩ := qp hB; have hz := hB.size; clear hB1; (try simp at hz); (try have hlt0 : w.heap.size < w1.heap.size := by omega)) | (go_at_call 20; (with_reducible refine (hlo _).mono ?_); rintro e w1 ⟨rfl, hB1⟩; (first | (replace hB := Below.call (by with_reducible assumption) hB1 (Nat.le_refl _)) | (replace hB := Below.call (by go_grown) hB1 (Nat.le_refl _)) | (have hB := hB1)); (try clear hc hg hz); obtain ⟨hc, hg⟩ := qp hB; have hz := hB.size; clear hB1; (try simp at hz); (try have hlt0 : w.heap.size < w1.heap.size := by omega)))
  have c0 : w1.cell? ⟨w.heap.size + 1, 0, none⟩ = some (.int .i64 0) := by rw [hc _ _ (by simp)]; go_cell
  have c1 : w1.cell? ⟨w.heap.size + 1, 1, none⟩ = some (.int .i64 0) := by rw [hc _ _ (by simp)]; go_cell
  have hp := xX (.int .i64 r1) (.int .i64 r2) c0 c1
  refine bodyPost_ret (qB results5 rfl rfl (zk qC qo hp.1 hp.2)) rfl ⟨rfl, ?_⟩
  exact ((Below.call (B := w.heap.size) (by go_grown) hB (Nat.le_refl _)).setCell (by simp) _).setCell (by simp) _
 ·have has := fun W => XZ x n h W
  unfold zS
  rw [if_neg h]
  clear h
  simp only [fv, tv] at *
  go_enter s5, ntmps5
  go_wp2_with (first | (go_at_call 19; (with_reducible refine (has _).mono ?_); rintro e w1 ⟨rfl, hB1⟩; (first | (replace hB := Below.call (by with_reducible assumption) hB1 (Nat.le_refl _)) | (replace hB := Below.call (by go_grown) hB1 (Nat.le_refl _)) | (have hB := hB1)); (try clear hc hg hz); obtain ⟨hc, hg⟩ := qp hB; have hz := hB.size; clear hB1; (try simp at hz); (try have hlt0 : w.heap.size < w1.heap.size := by omega)))
  have c0 : w1.cell? ⟨w.heap.size + 1, 0, none⟩ = some (.int .i64 0) := by rw [hc _ _ (by simp)]; go_cell
  have c1 : w1.cell? ⟨w.heap.size + 1, 1, none⟩ = some (.int .i64 0) := by rw [hc _ _ (by simp)]; go_cell
  have hp := xX (.int .i64 0) (.int .i64 0) c0 c1
  refine bodyPost_ret (qB results5 rfl rfl (zk qC qo hp.1 hp.2)) rfl ⟨rfl, ?_⟩
  exact ((Below.call (B := w.heap.size) (by go_grown) hB (Nat.le_refl _)).setCell (by simp) _).setCell (by simp) _
set_option maxHeartbeats 1000000 in
theorem qey (n : Int) (x : Int × Int) (w : World) : Calls qg 7 #[fv x, .int .i64 n] w fun e w' => e = .returned (zS qK x n) ∧ Below w.heap.size w w' := by
 by_cases h : yc x ∧ 0 ≤ n ∧ n ≤ 7
 ·have has := fun W => Yv x n h W
  obtain ⟨t, b, rfl, ht, hb⟩ := QG h.1
  obtain ⟨k, rfl⟩ := Int.eq_ofNat_of_zero_le h.2.1
  have hk : k ≤ 7 := by have := h.2.2; omega
  have hlo := fun W => Xo t b k ht hb hk W
  rw [qda ht hb hk]
  generalize jL t b k = r at *
  obtain ⟨r1, r2⟩ := r
  clear h
  simp only [fv, tv] at *
  go_enter s7, ntmps7
  go_wp2_with (first | (go_at_call 19; (with_reducible refine (has _).mono ?_); rintro e w1 ⟨rfl, hB1⟩; (first | (replace hB := Below.call (by with_reducible assumption) hB1 (Nat.le_refl _)) | (replace hB := Below.call (by go_grown) hB1 (Nat.le_refl _)) | (have hB := hB1)); (try clear hc hg hz); obtain ⟨hc, hg⟩ := qp hB; have hz := hB.size; clear hB1; (try simp at hz); (try have hlt0 : w.heap.size < w1.heap.size := by omega)) | (go_at_call 22; (with_reducible refine (hlo _).mono ?_); rintro e w1 ⟨rfl, hB1⟩; (first | (replace hB := Below.call (by with_reducible assumption) hB1 (Nat.le_refl _)) | (replace hB := Below.call (by go_grown) hB1 (Nat.le_refl _)) | (have hB := hB1)); (try clear hc hg hz); obtain ⟨hc, hg⟩ := qp hB; have hz := hB.size; clear hB1; (try simp at hz); (try have hlt0 : w.heap.size < w1.heap.size := by omega)))
  have c0 : w1.cell? ⟨w.heap.size + 1, 0, none⟩ = some (.int .i64 0) := by rw [hc _ _ (by simp)]; go_cell
  have c1 : w1.cell? ⟨w.heap.size + 1, 1, none⟩ = some (.int .i64 0) := by rw [hc _ _ (by simp)]; go_cell
  have hp := xX (.int .i64 r1) (.int .i64 r2) c0 c1
  refine bodyPost_ret (qB results7 rfl rfl (zk qC qo hp.1 hp.2)) rfl ⟨rfl, ?_⟩
  exact ((Below.call (B := w.heap.size) (by go_grown) hB (Nat.le_refl _)).setCell (by simp) _).setCell (by simp) _
 ·have has := fun W => XZ x n h W
  unfold zS
  rw [if_neg h]
  clear h
  simp only [fv, tv] at *
  go_enter s7, ntmps7
  go_wp2_with (first | (go_at_call 19; (with_reducible refine (has _).mono ?_); rintro e w1 ⟨rfl, hB1⟩; (first | (replace hB := Below.call (by with_reducible assumption) hB1 (Nat.le_refl _)) | (replace hB := Below.call (by go_grown) hB1 (Nat.le_refl _)) | (have hB := hB1)); (try clear hc hg hz); obtain ⟨hc, hg⟩ := qp hB; have hz := hB.size; clear hB1; (try simp at hz); (try have hlt0 : w.heap.size < w1.heap.size := by omega)))
  have c0 : w1.cell? ⟨w.heap.size + 1, 0, none⟩ = some (.int .i64 0) := by rw [hc _ _ (by simp)]; go_cell
  have c1 : w1.cell? ⟨w.heap.size + 1, 1, none⟩ = some (.int .i64 0) := by rw [hc _ _ (by simp)]; go_cell
  have hp := xX (.int .i64 0) (.int .i64 0) c0 c1
  refine bodyPost_ret (qB results7 rfl rfl (zk qC qo hp.1 hp.2)) rfl ⟨rfl, ?_⟩
  exact ((Below.call (B := w.heap.size) (by go_grown) hB (Nat.le_refl _)).setCell (by simp) _).setCell (by simp) _
set_option maxHeartbeats 1000000 in
theorem JK (n : Int) (x : Int × Int) (w : World) : Calls qg 9 #[fv x, .int .i64 n] w fun e w' => e = .returned (zS yf x n) ∧ Below w.heap.size w w' := by
 by_cases h : yc x ∧ 0 ≤ n ∧ n ≤ 7
 ·have has := fun W => Yv x n h W
  obtain ⟨t, b, rfl, ht, hb⟩ := QG h.1
  obtain ⟨k, rfl⟩ := Int.eq_ofNat_of_zero_le h.2.1
  have hk : k ≤ 7 := by have := h.2.2; omega
  have hlo := fun W => Ja t b k ht hb hk W
  rw [qac ht hb hk]
  generalize XK t b k = r at *
  obtain ⟨r1, r2⟩ := r
  clear h
  simp only [fv, tv] at *
  go_enter s9, ntmps9
  go_wp2_with (first | (go_at_call 19; (with_reducible refine (has _).mono ?_); rintro e w1 ⟨rfl, hB1⟩; (first | (replace hB := Below.call (by with_reducible assumption) hB1 (Nat.le_refl _)) | (replace hB := Below.call (by go_grown) hB1 (Nat.le_refl _)) | (have hB := hB1)); (try clear hc hg hz); obtain ⟨hc, hg⟩ := qp hB; have hz := hB.size; clear hB1; (try simp at hz); (try have hlt0 : w.heap.size < w1.heap.size := by omega)) | (go_at_call 25; (with_reducible refine (hlo _).mono ?_); rintro e w1 ⟨rfl, hB1⟩; (first | (replace hB := Below.call (by with_reducible assumption) hB1 (Nat.le_refl _)) | (replace hB := Below.call (by go_grown) hB1 (Nat.le_refl _)) | (have hB := hB1)); (try clear hc hg hz); obtain ⟨hc, hg⟩ := qp hB; have hz := hB.size; clear hB1; (try simp at hz); (try have hlt0 : w.heap.size < w1.heap.size := by omega)))
  have c0 : w1.cell? ⟨w.heap.size + 1, 0, none⟩ = some (.int .i64 0) := by rw [hc _ _ (by simp)]; go_cell
  have c1 : w1.cell? ⟨w.heap.size + 1, 1, none⟩ = some (.int .i64 0) := by rw [hc _ _ (by simp)]; go_cell
  have hp := xX (.int .i64 r1) (.int .i64 r2) c0 c1
  refine bodyPost_ret (qB results9 rfl rfl (zk qC qo hp.1 hp.2)) rfl ⟨rfl, ?_⟩
  exact ((Below.call (B := w.heap.size) (by go_grown) hB (Nat.le_refl _)).setCell (by simp) _).setCell (by simp) _
 ·have has := fun W => XZ x n h W
  unfold zS
  rw [if_neg h]
  clear h
  simp only [fv, tv] at *
  go_enter s9, ntmps9
  go_wp2_with (first | (go_at_call 19; (with_reducible refine (has _).mono ?_); rintro e w1 ⟨rfl, hB1⟩; (first | (replace hB := Below.call (by with_reducible assumption) hB1 (Nat.le_refl _)) | (replace hB := Below.call (by go_grown) hB1 (Nat.le_refl _)) | (have hB := hB1)); (try clear hc hg hz); obtain ⟨hc, hg⟩ := qp hB; have hz := hB.size; clear hB1; (try simp at hz); (try have hlt0 : w.heap.size < w1.heap.size := by omega)))
  have c0 : w1.cell? ⟨w.heap.size + 1, 0, none⟩ = some (.int .i64 0) := by rw [hc _ _ (by simp)]; go_cell
  have c1 : w1.cell? ⟨w.heap.size + 1, 1, none⟩ = some (.int .i64 0) := by rw [hc _ _ (by simp)]; go_cell
  have hp := xX (.int .i64 0) (.int .i64 0) c0 c1
  refine bodyPost_ret (qB results9 rfl rfl (zk qC qo hp.1 hp.2)) rfl ⟨rfl, ?_⟩
  exact ((Below.call (B := w.heap.size) (by go_grown) hB (Nat.le_refl _)).setCell (by simp) _).setCell (by simp) _
set_option maxHeartbeats 4000000 in
theorem qdt (m n : Int) (x : Int × Int) (w : World) : Calls qg 15 #[.int .i64 m, .int .i64 n, fv x] w fun e w' => e = .returned (qaP m n x) ∧ Below w.heap.size w w' := by
 unfold qaP
 by_cases hx : yc x
 ·have htr := fun W => xg x W hx
  by_cases hm : 0 ≤ m ∧ m ≤ 7
  ·by_cases hn : 0 ≤ n ∧ n ≤ 7
   ·rw [if_pos ⟨hm, hn⟩]
    have e1 : IntKind.i64.wrap (m + n) = m + n := IntWalk.i64_in _ (by omega)
    by_cases hs : 0 ≤ m + n ∧ m + n ≤ 7
    ·obtain ⟨t, b, rfl, ht, hb⟩ := QG hx
     obtain ⟨k, hk⟩ := Int.eq_ofNat_of_zero_le hs.1
     have hlo := fun W => Qa t b k ht hb (by omega) W
     have et := Jv (t := t) (b := b) (n := k) ht hb (by omega)
     rw [hk, et]
     rw [← hk] at hlo
     generalize xI t b k = r at *
     obtain ⟨r1, r2⟩ := r
     have HS := Lib.hid hs
     clear hk et hx
     have hs := HS.out
     simp only [fv, tv] at *
     go_enter s15, ntmps15
     go_wp2_with (first | (go_at_call 29; (with_reducible refine (htr _).mono ?_); rintro e w1 ⟨rfl, hB1⟩; (first | (replace hB := Below.call (by with_reducible assumption) hB1 (Nat.le_refl _)) | (replace hB := Below.call (by go_grown) hB1 (Nat.le_refl _)) | (have hB := hB1)); (try clear hc hg hz); obtain ⟨hc, hg⟩ := qp hB; have hz := hB.size; clear hB1; (try simp at hz); (try have hlt0 : w.heap.size < w1.heap.size := by omega)) | (go_at_call 34; (with_reducible refine (zh _ _ hs).mono ?_); rintro e w1 ⟨rfl, rfl⟩) | (go_at_call 34; (with_reducible refine (zh _ _ hm).mono ?_); rintro e w1 ⟨rfl, rfl⟩) | (go_at_call 34; (with_reducible refine (zh _ _ hn).mono ?_); rintro e w1 ⟨rfl, rfl⟩) | (go_at_call 20; (with_reducible refine (hlo _).mono ?_); rintro e w1 ⟨rfl, hB1⟩; (first | (replace hB := Below.call (by with_reducible assumption) hB1 (Nat.le_refl _)) | (replace hB := Below.call (by go_grown) hB1 (Nat.le_refl _)) | (have hB := hB1)); (try clear hc hg hz); obtain ⟨hc, hg⟩ := qp hB; have hz := hB.size; clear hB1; (try simp at hz); (try have hlt0 : w.heap.size < w1.heap.size := by omega)))
     have c0 : w1.cell? ⟨w.heap.size + 1, 0, none⟩ = some (.int .i64 0) := by rw [hc _ _ (by simp)]; go_cell
     have c1 : w1.cell? ⟨w.heap.size + 1, 1, none⟩ = some (.int .i64 0) := by rw [hc _ _ (by simp)]; go_cell
     have hp := xX (.int .i64 r1) (.int .i64 r2) c0 c1
     refine bodyPost_ret (qB results15 rfl rfl (zk qC qo hp.1 hp.2)) rfl ⟨rfl, ?_⟩
     exact ((Below.call (B := w.heap.size) (by go_grown) hB (Nat.le_refl _)).setCell (by simp) _).setCell (by simp) _
    ·have ht : zS qO x (m + n) = tv (0, 0) 1 := by unfold zS; rw [if_neg fun h => hs h.2]
     rw [ht]
     clear ht hx
     have hs := hs
     simp only [fv, tv] at *
     go_enter s15, ntmps15
     go_wp2_with (first | (go_at_call 29; (with_reducible refine (htr _).mono ?_); rintro e w1 ⟨rfl, hB1⟩; (first | (replace hB := Below.call (by with_reducible assumption) hB1 (Nat.le_refl _)) | (replace hB := Below.call (by go_grown) hB1 (Nat.le_refl _)) | (have hB := hB1)); (try clear hc hg hz); obtain ⟨hc, hg⟩ := qp hB; have hz := hB.size; clear hB1; (try simp at hz); (try have hlt0 : w.heap.size < w1.heap.size := by omega)) | (go_at_call 34; (with_reducible refine (xQ _ _ hs).mono ?_); rintro e w1 ⟨rfl, rfl⟩) | (go_at_call 34; (with_reducible refine (zh _ _ hm).mono ?_); rintro e w1 ⟨rfl, rfl⟩) | (go_at_call 34; (with_reducible refine (zh _ _ hn).mono ?_); rintro e w1 ⟨rfl, rfl⟩))
     have c0 : w1.cell? ⟨w.heap.size + 1, 0, none⟩ = some (.int .i64 0) := by rw [hc _ _ (by simp)]; go_cell
     have c1 : w1.cell? ⟨w.heap.size + 1, 1, none⟩ = some (.int .i64 0) := by rw [hc _ _ (by simp)]; go_cell
     have hp := xX (.int .i64 0) (.int .i64 0) c0 c1
     refine bodyPost_ret (qB results15 rfl rfl (zk qC qo hp.1 hp.2)) rfl ⟨rfl, ?_⟩
     exact ((Below.call (B := w.heap.size) (by go_grown) hB (Nat.le_refl _)).setCell (by simp) _).setCell (by simp) _
   ·rw [if_neg fun h => hn h.2]
    clear hx
    simp only [fv, tv] at *
    go_enter s15, ntmps15
    go_wp2_with (first | (go_at_call 29; (with_reducible refine (htr _).mono ?_); rintro e w1 ⟨rfl, hB1⟩; (first | (replace hB := Below.call (by with_reducible assumption) hB1 (Nat.le_refl _)) | (replace hB := Below.call (by go_grown) hB1 (Nat.le_refl _)) | (have hB := hB1)); (try clear hc hg hz); obtain ⟨hc, hg⟩ := qp hB; have hz := hB.size; clear hB1; (try simp at hz); (try have hlt0 : w.heap.size < w1.heap.size := by omega)) | (go_at_call 34; (with_reducible refine (zh _ _ hm).mono ?_); rintro e w1 ⟨rfl, rfl⟩) | (go_at_call 34; (with_reducible refine (xQ _ _ hn).mono ?_); rintro e w1 ⟨rfl, rfl⟩))
    have c0 : w1.cell? ⟨w.heap.size + 1, 0, none⟩ = some (.int .i64 0) := by rw [hc _ _ (by simp)]; go_cell
    have c1 : w1.cell? ⟨w.heap.size + 1, 1, none⟩ = some (.int .i64 0) := by rw [hc _ _ (by simp)]; go_cell
    have hp := xX (.int .i64 0) (.int .i64 0) c0 c1
    refine bodyPost_ret (qB results15 rfl rfl (zk qC qo hp.1 hp.2)) rfl ⟨rfl, ?_⟩
    exact ((Below.call (B := w.heap.size) (by go_grown) hB (Nat.le_refl _)).setCell (by simp) _).setCell (by simp) _
  ·rw [if_neg fun h => hm h.1]
   clear hx
   simp only [fv, tv] at *
   go_enter s15, ntmps15
   go_wp2_with (first | (go_at_call 29; (with_reducible refine (htr _).mono ?_); rintro e w1 ⟨rfl, hB1⟩; (first | (replace hB := Below.call (by with_reducible assumption) hB1 (Nat.le_refl _)) | (replace hB := Below.call (by go_grown) hB1 (Nat.le_refl _)) | (have hB := hB1)); (try clear hc hg hz); obtain ⟨hc, hg⟩ := qp hB; have hz := hB.size; clear hB1; (try simp at hz); (try have hlt0 : w.heap.size < w1.heap.size := by omega)) | (go_at_call 34; (with_reducible refine (xQ _ _ hm).mono ?_); rintro e w1 ⟨rfl, rfl⟩))
   have c0 : w1.cell? ⟨w.heap.size + 1, 0, none⟩ = some (.int .i64 0) := by rw [hc _ _ (by simp)]; go_cell
   have c1 : w1.cell? ⟨w.heap.size + 1, 1, none⟩ = some (.int .i64 0) := by rw [hc _ _ (by simp)]; go_cell
   have hp := xX (.int .i64 0) (.int .i64 0) c0 c1
   refine bodyPost_ret (qB results15 rfl rfl (zk qC qo hp.1 hp.2)) rfl ⟨rfl, ?_⟩
   exact ((Below.call (B := w.heap.size) (by go_grown) hB (Nat.le_refl _)).setCell (by simp) _).setCell (by simp) _
 ·have htr := fun W => Qr x W hx
  have ht : (if (0 ≤ m ∧ m ≤ 7) ∧ 0 ≤ n ∧ n ≤ 7 then zS qO x (m + n) else tv (0, 0) 1) = tv (0, 0) 1 := by
   split
   ·unfold zS
    rw [if_neg fun h => hx h.1]
   ·rfl
  rw [ht]
  clear ht hx
  simp only [fv, tv] at *
  go_enter s15, ntmps15
  go_wp2_with (first | (go_at_call 29; (with_reducible refine (htr _).mono ?_); rintro e w1 ⟨rfl, hB1⟩; (first | (replace hB := Below.call (by with_reducible assumption) hB1 (Nat.le_refl _)) | (replace hB := Below.call (by go_grown) hB1 (Nat.le_refl _)) | (have hB := hB1)); (try clear hc hg hz); obtain ⟨hc, hg⟩ := qp hB; have hz := hB.size; clear hB1; (try simp at hz); (try have hlt0 : w.heap.size < w1.heap.size := by omega)))
  have c0 : w1.cell? ⟨w.heap.size + 1, 0, none⟩ = some (.int .i64 0) := by rw [hc _ _ (by simp)]; go_cell
  have c1 : w1.cell? ⟨w.heap.size + 1, 1, none⟩ = some (.int .i64 0) := by rw [hc _ _ (by simp)]; go_cell
  have hp := xX (.int .i64 0) (.int .i64 0) c0 c1
  refine bodyPost_ret (qB results15 rfl rfl (zk qC qo hp.1 hp.2)) rfl ⟨rfl, ?_⟩
  exact ((Below.call (B := w.heap.size) (by go_grown) hB (Nat.le_refl _)).setCell (by simp) _).setCell (by simp) _
end Go.Proofs.Tryz
end
section
namespace Go.Proofs.Tryz
open Go Go.Load Go.RowKit
theorem qaf (T : Nat) (x l : Int × Int) (hx : yc x) (hT : T ≤ 7) (hl : Lim l) (w : World) : Calls qg 31 #[fv x, .int .i64 T, fv l] w fun e w' => e = .returned (.bool (borne x T l)) ∧ Below w.heap.size w w' := by
 obtain ⟨t, b, rfl, ht, hb⟩ := QG hx
 exact qcI t b T l ht hb hT hl w
set_option maxHeartbeats 2000000 in
theorem qaX (x l : Int × Int) (w : World) : Calls qg 11 #[fv x, fv l] w fun e w' => e = .returned (jG x l) ∧ Below w.heap.size w w' := by
 obtain ⟨R, hR⟩ : ∃ R, jG x l = R := ⟨_, rfl⟩
 rw [hR]
 unfold jG at hR
 by_cases hx : yc x
 ·have htr := fun W => xg x W hx
  by_cases hl : Lim l
  ·rw [if_pos ⟨hx, hl⟩] at hR
   have hli := fun W => Xm l W hl
   have hbe := fun T hT W => qaf T x l hx hT hl W
   have HS : Hid (∀ n : Nat, qU x l 0 = some n → R = .tuple #[.int .i64 n, .bool true, .int .i64 0]) := Lib.hid fun n h => by rw [← hR, h]
   have HN : Hid (qU x l 0 = none → R = .tuple #[.int .i64 0, .bool false, .int .i64 0]) := Lib.hid fun h => by rw [← hR, h]
   clear hR
   simp only [fv] at *
   go_enter s11, ntmps11
   go_wp2_with (first | (go_at_call 29; (with_reducible refine (htr _).mono ?_); rintro e w1 ⟨rfl, hB1⟩; (first | (replace hB := Below.call (by with_reducible assumption) hB1 (Nat.le_refl _)) | (replace hB := Below.call (by go_grown) hB1 (Nat.le_refl _)) | (have hB := hB1)); (try clear hc hg hz); obtain ⟨hc, hg⟩ := qp hB; have hz := hB.size; clear hB1; (try simp at hz); (try have hlt0 : w.heap.size < w1.heap.size := by omega)) | (go_at_call 30; (with_reducible refine (hli _).mono ?_); rintro e w1 ⟨rfl, hB1⟩; (first | (replace hB := Below.call (by with_reducible assumption) hB1 (Nat.le_refl _)) | (replace hB := Below.call (by go_grown) hB1 (Nat.le_refl _)) | (have hB := hB1)); (try clear hc hg hz); obtain ⟨hc, hg⟩ := qp hB; have hz := hB.size; clear hB1; (try simp at hz); (try have hlt0 : w.heap.size < w1.heap.size := by omega)))
   obtain ⟨W, hW⟩ : ∃ W, (w.alloc (Obj.cells #[Value.int .i64 x.1, Value.int .i64 x.2] 23)).alloc (Obj.cells #[Value.int .i64 l.1, Value.int .i64 l.2] 23) = W := ⟨_, rfl⟩
   have k0 : W.cell? ⟨w.heap.size, 0, none⟩ = some (.int .i64 x.1) := by subst hW; go_cell
   have k1 : W.cell? ⟨w.heap.size, 1, none⟩ = some (.int .i64 x.2) := by subst hW; go_cell
   have k2 : W.cell? ⟨w.heap.size + 1, 0, none⟩ = some (.int .i64 l.1) := by subst hW; go_cell
   have k3 : W.cell? ⟨w.heap.size + 1, 1, none⟩ = some (.int .i64 l.2) := by subst hW; go_cell
   have hBW : Below w.heap.size w W := by subst hW; go_grown
   rw [hW] at hB
   clear hc hg hz hW
   go_loopw [7] (fun i wr => ∃ k : Nat, i = .int .i64 k ∧ k ≤ 8 ∧ Below W.heap.size W wr ∧ Hid (qU x l k = qU x l 0)) (fun i _ => 8 - (intOf i).toNat)
   case atStart => exact ⟨0, rfl, by omega, hB, Lib.hid rfl⟩
   case round =>
    obtain ⟨k, rfl, hk, hBr, HE⟩ := hrel
    clear hB
    have k0 := qb _ hBr k0
    have k1 := qb _ hBr k1
    have k2 := qb _ hBr k2
    have k3 := qb _ hBr k3
    by_cases hlt : k < 8
    ·have hbe := fun W => hbe k (by omega) W
     by_cases hb : borne x k l = true
     ·simp only [hb] at hbe
      go_wp2_with (go_at_call 31; (with_reducible refine (hbe _).mono ?_); rintro e w1 ⟨rfl, hB1⟩; (first | (replace hB := Below.call (by with_reducible assumption) hB1 (Nat.le_refl _)) | (replace hB := Below.call (by go_grown) hB1 (Nat.le_refl _)) | (have hB := hB1)); (try clear hc hg hz); obtain ⟨hc, hg⟩ := qp hB; have hz := hB.size; clear hB1; (try simp at hz); (try have hlt0 : w.heap.size < w1.heap.size := by omega))
      go_ret3
      refine ⟨?_, Below.call hBW hB (Nat.le_refl _)⟩
      rw [HS.out k (by rw [← HE.out]; exact Qo hlt hb)]; rfl
     ·have hb : borne x k l = false := by simpa using hb
      simp only [hb] at hbe
      go_wp2_with (go_at_call 31; (with_reducible refine (hbe _).mono ?_); rintro e w1 ⟨rfl, hB1⟩; (first | (replace hB := Below.call (by with_reducible assumption) hB1 (Nat.le_refl _)) | (replace hB := Below.call (by go_grown) hB1 (Nat.le_refl _)) | (have hB := hB1)); (try clear hc hg hz); obtain ⟨hc, hg⟩ := qp hB; have hz := hB.size; clear hB1; (try simp at hz); (try have hlt0 : w.heap.size < w1.heap.size := by omega))
      go_roundw
      case rel => exact ⟨k + 1, rfl, by omega, hB, Lib.hid (by rw [← QK hlt hb]; exact HE.out)⟩
      case measure => simp [intOf]; omega
    ·obtain rfl : k = 8 := by omega
     go_wp2
     go_ret3
     refine ⟨?_, Below.call hBW hBr (Nat.le_refl _)⟩
     rw [HN.out (by rw [← HE.out]; exact ZC x l)]; rfl
  ·rw [if_neg (fun h => hl h.2)] at hR
   subst hR
   have hli := fun W => qap l W hl
   simp only [fv] at *
   go_enter s11, ntmps11
   go_wp2_with (first | (go_at_call 29; (with_reducible refine (htr _).mono ?_); rintro e w1 ⟨rfl, hB1⟩; (first | (replace hB := Below.call (by with_reducible assumption) hB1 (Nat.le_refl _)) | (replace hB := Below.call (by go_grown) hB1 (Nat.le_refl _)) | (have hB := hB1)); (try clear hc hg hz); obtain ⟨hc, hg⟩ := qp hB; have hz := hB.size; clear hB1; (try simp at hz); (try have hlt0 : w.heap.size < w1.heap.size := by omega)) | (go_at_call 30; (with_reducible refine (hli _).mono ?_); rintro e w1 ⟨rfl, hB1⟩; (first | (replace hB := Below.call (by with_reducible assumption) hB1 (Nat.le_refl _)) | (replace hB := Below.call (by go_grown) hB1 (Nat.le_refl _)) | (have hB := hB1)); (try clear hc hg hz); obtain ⟨hc, hg⟩ := qp hB; have hz := hB.size; clear hB1; (try simp at hz); (try have hlt0 : w.heap.size < w1.heap.size := by omega)))
   go_ret3
   exact ⟨rfl, Below.call (B := w.heap.size) (by go_grown) hB (Nat.le_refl _)⟩
 ·rw [if_neg (fun h => hx h.1)] at hR
  subst hR
  have htr := fun W => Qr x W hx
  simp only [fv] at *
  go_enter s11, ntmps11
  go_wp2_with (first | (go_at_call 29; (with_reducible refine (htr _).mono ?_); rintro e w1 ⟨rfl, hB1⟩; (first | (replace hB := Below.call (by with_reducible assumption) hB1 (Nat.le_refl _)) | (replace hB := Below.call (by go_grown) hB1 (Nat.le_refl _)) | (have hB := hB1)); (try clear hc hg hz); obtain ⟨hc, hg⟩ := qp hB; have hz := hB.size; clear hB1; (try simp at hz); (try have hlt0 : w.heap.size < w1.heap.size := by omega)))
  go_ret3
  exact ⟨rfl, Below.call (B := w.heap.size) (by go_grown) hB (Nat.le_refl _)⟩
set_option maxHeartbeats 4000000 in
theorem qcO (T : Nat) (p : Int) (l : Int × Int) (hT : T ≤ 7) (hp : 1 ≤ p ∧ p ≤ 4) (hl : Lim l) (w : World) :
 Calls qg 13 #[.int .i64 T, .int .i64 p, fv l] w fun e w' => e = .returned (tv (qM p T l 13, p) 0) ∧ Below w.heap.size w w' := by
 have hli := fun W => Xm l W hl
 have hbe := fun (k : Nat) (hk : k ≤ 12) W => qaf T ((k : Int), p) l ⟨⟨Int.natCast_nonneg k, by show (k : Int) ≤ 12; omega⟩, hp⟩ hT hl W
 simp only [fv, tv] at *
 go_enter s13, ntmps13
 go_wp2_with (first | (go_at_call 30; (with_reducible refine (hli _).mono ?_); rintro e w1 ⟨rfl, hB1⟩; (first | (replace hB := Below.call (by with_reducible assumption) hB1 (Nat.le_refl _)) | (replace hB := Below.call (by go_grown) hB1 (Nat.le_refl _)) | (have hB := hB1)); (try clear hc hg hz); obtain ⟨hc, hg⟩ := qp hB; have hz := hB.size; clear hB1; (try simp at hz); (try have hlt0 : w.heap.size < w1.heap.size := by omega)) | (go_at_call 34; (with_reducible refine (zh _ _ (by omega)).mono ?_); rintro e w1 ⟨rfl, rfl⟩) | (go_at_call 35; (with_reducible refine (QJ _ _ _ _ hp).mono ?_); rintro e w1 ⟨rfl, rfl⟩))
 have L0 : w1.cell? ⟨w.heap.size, 0, none⟩ = some (.int .i64 l.1) := by rw [hc _ _ (by simp <;> omega)]; go_cell
 have L1 : w1.cell? ⟨w.heap.size, 1, none⟩ = some (.int .i64 l.2) := by rw [hc _ _ (by simp <;> omega)]; go_cell
 have R0 : w1.cell? ⟨w.heap.size + 1, 0, none⟩ = some (.int .i64 0) := by rw [hc _ _ (by simp <;> omega)]; go_cell
 have R1 : w1.cell? ⟨w.heap.size + 1, 1, none⟩ = some (.int .i64 0) := by rw [hc _ _ (by simp <;> omega)]; go_cell
 have F0 : w1.frozen? ⟨w.heap.size + 1, 0, none⟩ = false := by rw [hg _ _ (by simp <;> omega)]; go_cell
 have F1 : w1.frozen? ⟨w.heap.size + 1, 1, none⟩ = false := by rw [hg _ _ (by simp <;> omega)]; go_cell
 have hBw : Below w.heap.size w w1 := Below.call (B := w.heap.size) (by go_grown) hB (Nat.le_refl _)
 clear hc hg hB
 go_loopw [8, 9] (fun m i wr => ∃ k : Nat, i = .int .i64 k ∧ k ≤ 13 ∧ m = .int .i64 (qM p T l k) ∧ Below w1.heap.size w1 wr) (fun _ i _ => 13 - (intOf i).toNat)
 case atStart => exact ⟨0, rfl, by omega, rfl, Below.refl _ _⟩
 case round =>
  obtain ⟨k, rfl, hk, rfl, hBr⟩ := hrel
  have L0 := qb _ hBr L0
  have L1 := qb _ hBr L1
  have F0 := qf _ hBr R0 F0
  have F1 := qf _ hBr R1 F1
  have R0 := qb _ hBr R0
  have R1 := qb _ hBr R1
  by_cases hlt : k < 13
  ·have hbe := fun W => hbe k (by omega) W
   by_cases hb : borne ((k : Int), p) T l = true
   ·have HN : Hid (qM p T l (k + 1) = k) := Lib.hid (by simp [qM, hb])
    simp only [hb] at hbe
    generalize qM p T l k = m at *
    go_wp2_with (go_at_call 31; refine (hbe _).mono ?_; rintro e w2 ⟨rfl, hB2⟩)
    go_roundw
    case rel => exact ⟨k + 1, rfl, by omega, by rw [HN.out], Below.call hBr hB2 (Nat.le_refl _)⟩
    case measure => simp [intOf]; omega
   ·have hb : borne ((k : Int), p) T l = false := by simpa using hb
    have HN : Hid (qM p T l (k + 1) = qM p T l k) := Lib.hid (by simp [qM, hb])
    simp only [hb] at hbe
    generalize qM p T l k = m at *
    go_wp2_with (go_at_call 31; refine (hbe _).mono ?_; rintro e w2 ⟨rfl, hB2⟩)
    go_roundw
    case rel => exact ⟨k + 1, rfl, by omega, by rw [HN.out], Below.call hBr hB2 (Nat.le_refl _)⟩
    case measure => simp [intOf]; omega
  ·obtain rfl : k = 13 := by omega
   go_wp2
   have hp := xX (.int .i64 (qM p T l 13)) (.int .i64 p) R0 R1
   refine bodyPost_ret (qB results13 rfl rfl (zk qC qo hp.1 hp.2)) rfl ⟨rfl, ?_⟩
   exact ((Below.call hBw hBr (Nat.le_refl _)).setCell (p := ⟨w.heap.size + 1, 0, none⟩) (Nat.le_succ _) _).setCell (p := ⟨w.heap.size + 1, 1, none⟩) (Nat.le_succ _) _
set_option maxHeartbeats 2000000 in
theorem qcm (T p : Int) (l : Int × Int) (w : World) : Calls qg 13 #[.int .i64 T, .int .i64 p, fv l] w fun e w' => e = .returned (YI T p l) ∧ Below w.heap.size w w' := by
 unfold YI
 by_cases hT : 0 ≤ T ∧ T ≤ 7
 ·obtain ⟨n, rfl⟩ := Int.eq_ofNat_of_zero_le hT.1
  by_cases hp : 1 ≤ p ∧ p ≤ 4
  ·by_cases hl : Lim l
   ·rw [if_pos ⟨hT, hp, hl⟩]
    exact qcO n p l (by omega) hp hl w
   ·rw [if_neg (fun h => hl h.2.2)]
    have hli := fun W => qap l W hl
    simp only [fv, tv] at *
    go_enter s13, ntmps13
    go_wp2_with (first | (go_at_call 30; (with_reducible refine (hli _).mono ?_); rintro e w1 ⟨rfl, hB1⟩; (first | (replace hB := Below.call (by with_reducible assumption) hB1 (Nat.le_refl _)) | (replace hB := Below.call (by go_grown) hB1 (Nat.le_refl _)) | (have hB := hB1)); (try clear hc hg hz); obtain ⟨hc, hg⟩ := qp hB; have hz := hB.size; clear hB1; (try simp at hz); (try have hlt0 : w.heap.size < w1.heap.size := by omega)) | (go_at_call 34; (with_reducible refine (zh _ _ (by omega)).mono ?_); rintro e w1 ⟨rfl, rfl⟩) | (go_at_call 35; (with_reducible refine (QJ _ _ _ _ hp).mono ?_); rintro e w1 ⟨rfl, rfl⟩))
    have c0 : w1.cell? ⟨w.heap.size + 1, 0, none⟩ = some (.int .i64 0) := by rw [hc _ _ (by simp <;> omega)]; go_cell
    have c1 : w1.cell? ⟨w.heap.size + 1, 1, none⟩ = some (.int .i64 0) := by rw [hc _ _ (by simp <;> omega)]; go_cell
    have hp := xX (.int .i64 0) (.int .i64 0) c0 c1
    refine bodyPost_ret (qB results13 rfl rfl (zk qC qo hp.1 hp.2)) rfl ⟨rfl, ?_⟩
    exact ((Below.call (B := w.heap.size) (by go_grown) hB (Nat.le_refl _)).setCell (by simp) _).setCell (by simp) _
  ·rw [if_neg (fun h => hp h.2.1)]
   simp only [fv, tv] at *
   go_enter s13, ntmps13
   go_wp2_with (first | (go_at_call 34; (with_reducible refine (zh _ _ (by omega)).mono ?_); rintro e w1 ⟨rfl, rfl⟩) | (go_at_call 35; (with_reducible refine (qcH _ _ _ _ hp).mono ?_); rintro e w1 ⟨rfl, rfl⟩))
   go_returns
   exact ⟨rfl, by go_grown⟩
 ·rw [if_neg (fun h => hT h.1)]
  simp only [fv, tv] at *
  go_enter s13, ntmps13
  go_wp2_with (first | (go_at_call 34; (with_reducible refine (xQ _ _ hT).mono ?_); rintro e w1 ⟨rfl, rfl⟩))
  go_returns
  exact ⟨rfl, by go_grown⟩
end Go.Proofs.Tryz
end
