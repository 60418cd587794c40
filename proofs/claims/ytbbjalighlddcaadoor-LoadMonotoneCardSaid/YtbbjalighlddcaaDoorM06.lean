/-
  A part of the proof (C33 C34 SrcL C40 C8 C26 C42 C43 C44 C48 CK C41 C24): lemmas about the program and about the machine that the last text of this claim rests upon; no condition.
-/
import Derived.Deep.DeepCutAuto
import Derived.Maps.AppendAt
import Derived.Test.YtbbjalighlddcaaDoorM04
import Derived.Test.YtbbjalighlddcaaDoorM05
import Derived.Test.YtbbjalighlddcaaDoorM03
import Derived.Test.YtbbjalighlddcaaDoorM02
set_option linter.unusedSimpArgs false
set_option linter.unusedVariables false
section
namespace Go.Proofs.Tryd
open Go Go.Load Go.RowKit
def blank (g : Grp) : Grp := { g with ta := none, tc := 0 }
theorem same_blank {l l' : List Grp} (h : SameGs l l') : l'.map blank = l.map blank := by
 refine List.ext_getElem? fun i => ?_
 rw [List.getElem?_map, List.getElem?_map]
 cases h1 : l[i]? with
 | none => rw [List.getElem?_eq_none (by have := List.getElem?_eq_none_iff.1 h1; have := h.1; omega)]
 | some g =>
   have hi := (List.getElem?_eq_some_iff.1 h1).1
   obtain ⟨g', h2⟩ : ∃ g', l'[i]? = some g' := ⟨l'[i]'(by have := h.1; omega), by simp⟩
   obtain ⟨a, b, c⟩ := h.2 i g g' h1 h2
   rw [h2]
   simp [blank, a, b, c]
theorem SameGs.trans {a b c : List Grp} (h : SameGs a b) (k : SameGs b c) : SameGs a c := ⟨k.1.trans h.1, fun i x z hx hz => by
 have hi := (List.getElem?_eq_some_iff.1 hx).1
 obtain ⟨y, hy⟩ : ∃ y, b[i]? = some y := ⟨b[i]'(by have := h.1; omega), by simp⟩
 obtain ⟨p, q, r⟩ := h.2 i x y hx hy
 obtain ⟨p', q', r'⟩ := k.2 i y z hy hz
 exact ⟨p'.trans p, q'.trans q, r'.trans r⟩⟩
theorem grpAlarm_blank (gs : List Grp) (hours : Int) (i : Nat) (g : Grp) : grpAlarm (gs.map blank) hours i (blank g) = grpAlarm gs hours i g := by
 unfold grpAlarm
 rw [← List.map_take, List.any_map]
 rfl
theorem firstAlarm_blank (f f' : Nat → Grp → Int) (h : ∀ i g, f' i (blank g) = f i g) : ∀ (l : List Grp) (i : Nat), firstAlarm f' i (l.map blank) = firstAlarm f i l
 | [], _ => rfl
 | g :: l, i => by
   simp only [List.map_cons, firstAlarm, h, firstAlarm_blank f f' h l]
theorem checkN_blank (B : Bk) : checkN { B with gs := B.gs.map blank, ga := none, gc := 0 } = checkN B := by
 unfold checkN
 have e1 : numbersN { B with gs := B.gs.map blank, ga := none, gc := 0 } = numbersN B := rfl
 have e2 : groupsN { B with gs := B.gs.map blank, ga := none, gc := 0 } = groupsN B := by
  unfold groupsN
  simp only [List.length_map]
  rw [firstAlarm_blank _ _ (grpAlarm_blank B.gs B.hours)]
 rw [e1, e2]
theorem checkN_same {B : Bk} {l : List Grp} (h : SameGs B.gs l) (ga : Option Addr) (gc : Nat) : checkN { B with gs := l, ga := ga, gc := gc } = checkN B := by
 rw [← checkN_blank, ← checkN_blank B]
 simp only [same_blank h]
def growsN (B : Bk) : Nat → Bk
 | 0 => B
 | n + 1 => growB (growsN B n)
theorem growsN_len (B : Bk) : ∀ n, (growsN B n).gs.length = B.gs.length
 | 0 => rfl
 | n + 1 => by simp [growsN, growB, growsN_len B n]
theorem growsN_num (B : Bk) : ∀ n, (growsN B n).lim = B.lim ∧ (growsN B n).growth = B.growth ∧ (growsN B n).hours = B.hours ∧ (growsN B n).ga = B.ga ∧ (growsN B n).gc = B.gc
 | 0 => ⟨rfl, rfl, rfl, rfl, rfl⟩
 | n + 1 => growsN_num B n
theorem growsN_get (B : Bk) : ∀ (n i : Nat) (x : Grp), (growsN B n).gs[i]? = some x → ∃ y : Grp, B.gs[i]? = some y ∧ x.name = y.name ∧ x.trunks = y.trunks ∧ x.traffic.length = y.traffic.length
 | 0, i, x, h => ⟨x, h, rfl, rfl, rfl⟩
 | n + 1, i, x, h => by
   simp only [growsN, growB, List.getElem?_map] at h
   obtain ⟨z, hz, rfl⟩ := Option.map_eq_some_iff.1 h
   obtain ⟨y, hy, a, b, c⟩ := growsN_get B n i z hz
   exact ⟨y, hy, a, b, by simpa [growG] using c⟩
def OwnN (base : Nat) (B : Bk) (n : Nat) (W : World) (g gc : Nat) (l : List Grp) (tb : Nat → Nat) : Prop := SameGs (growsN B n).gs l ∧ OwnGs base W g l l.length tb ∧ l.length ≤ gc
theorem OwnN.book {base g gc n : Nat} {B : Bk} {W : World} {l : List Grp} {tb : Nat → Nat} (h : OwnN base B n W g gc l tb) (hsm : B.gs.length ≤ 20 ∧ ∀ x ∈ B.gs, x.traffic.length ≤ 20 ∧ x.name.size ≤ 100) : BookAt W { B with gs := l, ga := some ⟨g, 0, none⟩, gc := gc } := by
 obtain ⟨hS, hO, hc⟩ := h
 have hb := book_of_own (B := growsN B n) hS hO hc ⟨by rw [growsN_len]; exact hsm.1, fun x hx => by
  obtain ⟨i, hi⟩ := List.getElem?_of_mem hx
  obtain ⟨y, hy, a, _, b⟩ := growsN_get B n i x hi
  rw [a, b]; exact hsm.2 y (List.mem_of_getElem? hy)⟩
 exact ⟨hb.row, hb.traf, hb.small, hb.cap⟩
theorem OwnN.keep {base g gc n : Nat} {B : Bk} {W W1 : World} {l : List Grp} {tb : Nat → Nat} (h : OwnN base B n W g gc l tb) (hB : Below W.heap.size W W1) : OwnN base B n W1 g gc l tb := ⟨h.1, h.2.1.keep hB, h.2.2⟩
theorem OwnN.filled {base g gc n : Nat} {B : Bk} {W : World} {l : List Grp} {tb : Nat → Nat} (h : OwnN base B n W g gc l tb) (ht : ∀ x ∈ B.gs, 1 ≤ x.traffic.length) : ∀ x ∈ l, 1 ≤ x.traffic.length := fun x hx => by
 obtain ⟨i, hi, rfl⟩ := List.getElem_of_mem hx
 have hl := h.1.1
 obtain ⟨z, hz⟩ : ∃ z, (growsN B n).gs[i]? = some z := ⟨(growsN B n).gs[i]'(by omega), by simp⟩
 obtain ⟨_, _, c⟩ := h.1.2 i z l[i] hz (by simp)
 obtain ⟨y, hy, _, _, b⟩ := growsN_get B n i z hz
 rw [c, b]; exact ht y (List.mem_of_getElem? hy)
theorem OwnN.year {base b' g gc n : Nat} {B : Bk} {W W1 : World} {l : List Grp} {tb : Nat → Nat} {e : Ending} (h : OwnN base B n W g gc l tb) (hb : base ≤ b') (k : OwnP b' (growB { B with gs := l, ga := some ⟨g, 0, none⟩, gc := gc }) W1 e) :
 ∃ g gc l tb, e = .returned (bv { B with gs := l, ga := some ⟨g, 0, none⟩, gc := gc }) ∧ OwnN base B (n + 1) W1 g gc l tb := by
 obtain ⟨g1, gc1, l1, tb1, e1, hS, hO, hc⟩ := k
 refine ⟨g1, gc1, l1, tb1, e1, ?_, hO.mono hb, hc⟩
 have := same_grow (r := B.growth) h.1
 have e := (growsN_num B n).2.1
 simp only [growsN, growB, e]
 exact this.trans hS
theorem OwnP.first {base : Nat} {B : Bk} {W : World} {e : Ending} (k : OwnP base B W e) : ∃ g gc l tb, e = .returned (bv { B with gs := l, ga := some ⟨g, 0, none⟩, gc := gc }) ∧ OwnN base B 0 W g gc l tb := by
 obtain ⟨g1, gc1, l1, tb1, e1, hS, hO, hc⟩ := k
 exact ⟨g1, gc1, l1, tb1, e1, hS, hO, hc⟩
end Go.Proofs.Tryd
end
section
namespace Go.Proofs.Tryd
open Go Go.Load Go.RowKit
structure Five (W : World) (b : Nat) (v0 v1 v2 v3 v4 : Value) : Prop where
 c : W.cell? ⟨b, 0, none⟩ = some v0 ∧ W.cell? ⟨b, 1, none⟩ = some v1 ∧ W.cell? ⟨b, 2, none⟩ = some v2 ∧ W.cell? ⟨b, 3, none⟩ = some v3 ∧ W.cell? ⟨b, 4, none⟩ = some v4
 f : W.frozen? ⟨b, 0, none⟩ = false ∧ W.frozen? ⟨b, 1, none⟩ = false ∧ W.frozen? ⟨b, 2, none⟩ = false ∧ W.frozen? ⟨b, 3, none⟩ = false ∧ W.frozen? ⟨b, 4, none⟩ = false
theorem Five.keep {W W1 : World} {b : Nat} {v0 v1 v2 v3 v4 : Value} (h : Five W b v0 v1 v2 v3 v4) (hB : Below W.heap.size W W1) : Five W1 b v0 v1 v2 v3 v4 := by
 obtain ⟨⟨a0, a1, a2, a3, a4⟩, ⟨f0, f1, f2, f3, f4⟩⟩ := h
 exact ⟨⟨keep_cell _ hB a0, keep_cell _ hB a1, keep_cell _ hB a2, keep_cell _ hB a3, keep_cell _ hB a4⟩, ⟨keep_frozen _ hB a0 f0, keep_frozen _ hB a1 f1, keep_frozen _ hB a2 f2, keep_frozen _ hB a3 f3, keep_frozen _ hB a4 f4⟩⟩
theorem Five.put {W : World} {b : Nat} {v0 v1 v2 v3 v4 : Value} (u0 u1 u2 u3 u4 : Value) (h : Five W b v0 v1 v2 v3 v4) : Five (set5 W b u0 u1 u2 u3 u4) b u0 u1 u2 u3 u4 := by
 obtain ⟨⟨a0, a1, a2, a3, a4⟩, ⟨f0, f1, f2, f3, f4⟩⟩ := h
 exact ⟨put5 u0 u1 u2 u3 u4 a0 a1 a2 a3 a4, by simpa [set5] using f0, by simpa [set5] using f1, by simpa [set5] using f2, by simpa [set5] using f3, by simpa [set5] using f4⟩
theorem Five.other {W : World} {b c : Nat} {v0 v1 v2 v3 v4 : Value} (u0 u1 u2 u3 u4 : Value) (h : Five W b v0 v1 v2 v3 v4) (e : b ≠ c) : Five (set5 W c u0 u1 u2 u3 u4) b v0 v1 v2 v3 v4 := by
 obtain ⟨⟨a0, a1, a2, a3, a4⟩, ⟨f0, f1, f2, f3, f4⟩⟩ := h
 exact ⟨⟨(set5_other e).trans a0, (set5_other e).trans a1, (set5_other e).trans a2, (set5_other e).trans a3, (set5_other e).trans a4⟩, by simpa [set5] using f0, by simpa [set5] using f1, by simpa [set5] using f2, by simpa [set5] using f3, by simpa [set5] using f4⟩
theorem Five.new (W : World) (v0 v1 v2 v3 v4 : Value) (ty : TypeId) : Five (W.alloc (.cells #[v0, v1, v2, v3, v4] ty)) W.heap.size v0 v1 v2 v3 v4 :=
 ⟨⟨by go_cell, by go_cell, by go_cell, by go_cell, by go_cell⟩, ⟨by go_cell, by go_cell, by go_cell, by go_cell, by go_cell⟩⟩
theorem Five.new' {b : Nat} (W : World) (v0 v1 v2 v3 v4 : Value) (ty : TypeId) (e : b = W.heap.size) : Five (W.alloc (.cells #[v0, v1, v2, v3, v4] ty)) b v0 v1 v2 v3 v4 := by subst e; exact .new W v0 v1 v2 v3 v4 ty
theorem OwnGs.five' {base g k b : Nat} {W : World} {l : List Grp} {tb : Nat → Nat} {v0 v1 v2 v3 v4 : Value} (h : OwnGs base W g l k tb) (hk : k = l.length) (hb : b < base) : OwnGs base (set5 W b v0 v1 v2 v3 v4) g l k tb :=
 h.five (by have := h.lo; omega) fun i y hi hy => by have := (h.ta i y hi hy).2.1; omega
theorem OwnN.five {base g gc n b : Nat} {B : Bk} {W : World} {l : List Grp} {tb : Nat → Nat} {v0 v1 v2 v3 v4 : Value} (h : OwnN base B n W g gc l tb) (hb : b < base) : OwnN base B n (set5 W b v0 v1 v2 v3 v4) g gc l tb := ⟨h.1, h.2.1.five' rfl hb, h.2.2⟩
theorem OwnN.mono {a b g gc n : Nat} {B : Bk} {W : World} {l : List Grp} {tb : Nat → Nat} (h : OwnN b B n W g gc l tb) (e : a ≤ b) : OwnN a B n W g gc l tb := ⟨h.1, h.2.1.mono e, h.2.2⟩
def GrowOK (base : Nat) (B : Bk) (N : Nat) (W : World) (e : Ending) : Prop :=
 if checkN (growsN B N) ≠ 0 then e = .returned (.tuple #[bz, .int .i64 (checkN (growsN B N))])
 else ∃ g gc l tb, e = .returned (.tuple #[bv { B with gs := l, ga := some ⟨g, 0, none⟩, gc := gc }, .int .i64 0]) ∧ OwnN base B N W g gc l tb
set_option maxHeartbeats 4000000 in
set_option maxRecDepth 100000 in
theorem Grow_ok (B : Bk) (N : Nat) (w : World) (h : BookAt w B) (hG : Globs w) (hc : checkN B = 0) (hn : N ≤ 6) : Calls srcP 37 #[bv B, .int .i64 N] w fun e w' => GrowOK w.heap.size B N w' e ∧ Below w.heap.size w w' := by
 have hop := fun W (hB : Below w.heap.size w W) => open_any B true W (h.keep hB) (hG.keep hB)
 simp only [openV, if_pos hc] at hop
 have hbt := fun W => between_yes (N : Int) 0 6 W ⟨by omega, by omega⟩
 have hV := checkN_zero hc
 have hsm := h.small
 have hfl : ∀ g ∈ B.gs, 1 ≤ g.traffic.length := fun g hg => by have := (hV.grp g hg).len; have := hV.num.2.2.1; omega
 have hown := fun W (hB : Below w.heap.size w W) => own_any B W (h.keep hB) hV.len1 hfl
 have HS := Lib.hid hsm
 have HF := Lib.hid hfl
 have HV := Lib.hid hV
 have HG := Lib.hid hG
 have H1 := Lib.hid hV.num.2.1
 clear hsm hfl hV
 obtain ⟨lim, gr, hr, gs, ga, gc⟩ := B
 simp only [bv, bz] at *
 clear h hG hc
 go_enter s37, ntmps37
 go_upto_region 6 with (first | ((go_at_call 53; (with_reducible refine (hop _ (by go_grown)).mono ?_); rintro e w1 ⟨rfl, hB1⟩; (first | (replace hB := Below.call (by with_reducible assumption) hB1 (Nat.le_refl _)) | (replace hB := Below.call (by go_grown) hB1 (Nat.le_refl _)) | (have hB := hB1)); (try clear hc hg hz); obtain ⟨hc, hg⟩ := bcell hB; have hz := hB.size; clear hB1; (try simp at hz); (try have hlt0 : w.heap.size < w1.heap.size := by omega)); have hz5 : w.heap.size + 1 < w1.heap.size := (by omega); have hz6 : w.heap.size + 1 < w1.heap.size + 1 := (by omega)) | (go_at_call 48; (with_reducible refine (hbt _).mono ?_); rintro e w1 ⟨rfl, rfl⟩))
 have hF := ((Five.new' (b := w.heap.size + 1) _ _ _ _ _ _ 54 (by simp)).keep hB).keep ((Below.refl _ w1).alloc (Nat.le_refl _) (.cells #[.int .i64 lim.1, .int .i64 lim.2, .int .i64 gr, .int .i64 hr, .slice ga gs.length gc] 86))
 have hF6 := Five.new w1 (.int .i64 lim.1) (.int .i64 lim.2) (.int .i64 gr) (.int .i64 hr) (.slice ga gs.length gc) 86
 have hBw := (Below.call (B := w.heap.size) (by go_grown) hB (Nat.le_refl _)).alloc (w := w1) (by omega) (.cells #[.int .i64 lim.1, .int .i64 lim.2, .int .i64 gr, .int .i64 hr, .slice ga gs.length gc] 86)
 obtain ⟨W, hW⟩ : ∃ W, w1.alloc (.cells #[.int .i64 lim.1, .int .i64 lim.2, .int .i64 gr, .int .i64 hr, .slice ga gs.length gc] 86) = W := ⟨_, rfl⟩
 have hWs : w1.heap.size < W.heap.size := by rw [← hW]; simp
 rw [hW] at hF hF6 hBw ⊢
 clear hW hc hg hB hz hz6
 obtain ⟨q, hq⟩ : ∃ q, w1.heap.size = q := ⟨_, rfl⟩
 rw [hq] at hF6 hWs ⊢
 have hF6' := hF6
 obtain ⟨⟨e0, e1, e2, e3, e4⟩, _⟩ := hF6'
 go_wp2
 go_at_call 63
 refine (hown _ hBw).mono ?_
 rintro e w2 ⟨hP, hB2⟩
 obtain ⟨g, cg, l, tb, rfl, hN⟩ := hP.first
 replace hN := hN.mono (show q + 1 ≤ W.heap.size from hWs)
 have hqn : w.heap.size + 1 < q := by omega
 have hF := hF.keep hB2
 have hF6 := hF6.keep hB2
 have hBx := Below.call hBw hB2 (Nat.le_refl _)
 clear hB2 e0 e1 e2 e3 e4 hown hop hbt hP hz5 hBw hWs hq
 obtain ⟨⟨e0, e1, e2, e3, e4⟩, ⟨k0, k1, k2, k3, k4⟩⟩ := id hF6
 simp only [bv]
 go_wp2
 have hN5 := hN.five (show q < q + 1 by omega) (v0 := .int .i64 lim.1) (v1 := .int .i64 lim.2) (v2 := .int .i64 gr) (v3 := .int .i64 hr) (v4 := .slice (some ⟨g, 0, none⟩) l.length cg)
 have hF5 := hF.other (.int .i64 lim.1) (.int .i64 lim.2) (.int .i64 gr) (.int .i64 hr) (.slice (some ⟨g, 0, none⟩) l.length cg) (show w.heap.size + 1 ≠ q by omega)
 have hF65 := hF6.put (.int .i64 lim.1) (.int .i64 lim.2) (.int .i64 gr) (.int .i64 hr) (.slice (some ⟨g, 0, none⟩) l.length cg)
 have hB5 := Below.set5 hBx (b := q) (by omega) (v0 := .int .i64 lim.1) (v1 := .int .i64 lim.2) (v2 := .int .i64 gr) (v3 := .int .i64 hr) (v4 := .slice (some ⟨g, 0, none⟩) l.length cg)
 obtain ⟨W5, hW5⟩ : ∃ W5, set5 w2 q (.int .i64 lim.1) (.int .i64 lim.2) (.int .i64 gr) (.int .i64 hr) (.slice (some ⟨g, 0, none⟩) l.length cg) = W5 := ⟨_, rfl⟩
 rw [hW5] at hN5 hF5 hF65 hB5
 unfold set5 at hW5
 rw [hW5]
 clear hW5 e0 e1 e2 e3 e4 k0 k1 k2 k3 k4 hF hF6 hBx hN
 go_loopw [27] (fun i wr => ∃ k : Nat, i = .int .i64 k ∧ k ≤ N ∧ Below w.heap.size w wr ∧ ∃ g gc' l tb, Hid (OwnN (q + 1) ⟨lim, gr, hr, gs, ga, gc⟩ k wr g gc' l tb) ∧ Hid (Five wr (w.heap.size + 1) (.int .i64 0) (.int .i64 0) (.int .i64 0) (.int .i64 0) (.slice none 0 0)) ∧ Hid (Five wr q (.int .i64 lim.1) (.int .i64 lim.2) (.int .i64 gr) (.int .i64 hr) (.slice (some ⟨g, 0, none⟩) l.length gc'))) (fun i _ => N - (intOf i).toNat)
 case atStart => exact ⟨0, rfl, by omega, hB5, g, cg, l, tb, Lib.hid hN5, Lib.hid hF5, Lib.hid hF65⟩
 case round =>
  clear hN5 hF5 hF65 hB5
  obtain ⟨k, rfl, hk, hBr, g, gc', l, tb, hN, hF, hF6⟩ := hrel
  obtain ⟨⟨e0, e1, e2, e3, e4⟩, ⟨k0, k1, k2, k3, k4⟩⟩ := id hF6.out
  by_cases hlt : k < N
  ·have hgr := grown_any ⟨lim, gr, hr, l, some ⟨g, 0, none⟩, gc'⟩ wr (hN.out.book HS.out) (by rw [hN.out.1.1, growsN_len]; exact HV.out.len1) (hN.out.filled HF.out) H1.out.1 (by have := H1.out.2; simp only at this ⊢; omega)
   have hk1 : (k : Int) < (N : Int) := by omega
   have hk0 : (0 : Int) ≤ (k : Int) := Int.natCast_nonneg k
   have hql : q < wr.heap.size := lt_of_cell e0
   simp only [bv] at hgr
   go_wp2
   go_at_call 68
   refine hgr.mono ?_
   rintro e w3 ⟨hP, hB3⟩
   obtain ⟨g1, gc1, l1, tb1, rfl, hN1⟩ := hN.out.year (show q + 1 ≤ wr.heap.size from hql) hP
   have hF := hF.out.keep hB3
   have hF6 := hF6.out.keep hB3
   have hBx := Below.call hBr hB3 (Nat.le_refl _)
   clear hB3 e0 e1 e2 e3 e4 k0 k1 k2 k3 k4 hgr hP
   obtain ⟨⟨e0, e1, e2, e3, e4⟩, ⟨k0, k1, k2, k3, k4⟩⟩ := id hF6
   simp only [bv]
   go_wp2
   go_roundw
   case rel => exact ⟨k + 1, rfl, by omega, Below.set5 hBx (by omega), g1, gc1, l1, tb1, Lib.hid (hN1.five (by omega)), Lib.hid (hF.other _ _ _ _ _ (by omega)), Lib.hid (hF6.put _ _ _ _ _)⟩
   case measure => simp [intOf]; omega
  ·obtain rfl : k = N := by omega
   have hch := CheckBook_any ⟨lim, gr, hr, l, some ⟨g, 0, none⟩, gc'⟩ wr (hN.out.book HS.out) (HG.out.keep hBr)
   have hcN : checkN ⟨lim, gr, hr, l, some ⟨g, 0, none⟩, gc'⟩ = checkN (growsN ⟨lim, gr, hr, gs, ga, gc⟩ k) := by
    rw [← checkN_same hN.out.1 (some ⟨g, 0, none⟩) gc']
    have e := growsN_num ⟨lim, gr, hr, gs, ga, gc⟩ k
    simp only at e
    rw [e.1, e.2.1, e.2.2.1]
   rw [hcN] at hch
   have hql : q < wr.heap.size := lt_of_cell e0
   obtain ⟨⟨c0, c1, c2, c3, c4⟩, ⟨f0, f1, f2, f3, f4⟩⟩ := id hF.out
   have hNN := Lib.hid hN.out
   obtain ⟨r, hr⟩ : ∃ r, checkN (growsN ⟨lim, gr, hr, gs, ga, gc⟩ k) = r := ⟨_, rfl⟩
   rw [hr] at hch
   have HR := Lib.hid hr
   have hBq := Lib.hid hBr
   clear hcN hr hN hF hF6
   simp only [bv] at hch
   have hnl : w.heap.size + 1 < wr.heap.size := lt_of_cell c0
   by_cases hr0 : r = 0
   ·subst hr0
    go_wp2_with (go_at_call 69; refine hch.mono ?_; rintro e w1 ⟨rfl, hB⟩; obtain ⟨hc, hg⟩ := bcell hB; have hz1 : w.heap.size + 1 < w1.heap.size := (Nat.lt_of_lt_of_le hnl hB.size); have hz2 : q < w1.heap.size := (Nat.lt_of_lt_of_le hql hB.size))
    have hbB := Below.call hBq.out hB (Nat.le_refl _)
    refine ret_ct5 results37 src_agg54 src_size54 rfl rfl (keep_cell _ hB c0) (keep_cell _ hB c1) (keep_cell _ hB c2) (keep_cell _ hB c3) (keep_cell _ hB c4) ⟨?_, Below.set5 hbB (Nat.le_succ _)⟩
    unfold GrowOK
    rw [if_neg (fun e => e HR.out)]
    exact ⟨g, gc', l, tb, rfl, ((hNN.out.keep hB).five (b := w.heap.size + 1) (by omega)).mono (show w.heap.size ≤ q + 1 by omega)⟩
   ·have hrb : (r != 0) = true := by simp [hr0]
    go_wp2_with (go_at_call 69; refine hch.mono ?_; rintro e w1 ⟨rfl, hB⟩; obtain ⟨hc, hg⟩ := bcell hB; have hz1 : w.heap.size + 1 < w1.heap.size := (Nat.lt_of_lt_of_le hnl hB.size); have hz2 : q < w1.heap.size := (Nat.lt_of_lt_of_le hql hB.size))
    have hbB := Below.call hBq.out hB (Nat.le_refl _)
    refine ret_ct5 results37 src_agg54 src_size54 rfl rfl (keep_cell _ hB c0) (keep_cell _ hB c1) (keep_cell _ hB c2) (keep_cell _ hB c3) (keep_cell _ hB c4) ⟨?_, Below.set5 hbB (Nat.le_succ _)⟩
    unfold GrowOK
    rw [if_pos (by rw [HR.out]; exact hr0), HR.out]
    rfl
end Go.Proofs.Tryd
end
section
namespace Go.Proofs.Tryd
open Go Go.Sim
@[go_sem] theorem s9 : srcP.funcs[9]? = some f9 := by kernel_rfl
@[go_sem] theorem c9 (args : Array Value) (w : World) : (callFunc 9 args).run srcP w = .ok (.enter 9 args) w := enter_of s9 (by kernel_rfl) (by kernel_rfl) args w
@[go_sem] theorem s11 : srcP.funcs[11]? = some f11 := by kernel_rfl
@[go_sem] theorem c11 (args : Array Value) (w : World) : (callFunc 11 args).run srcP w = .ok (.enter 11 args) w := enter_of s11 (by kernel_rfl) (by kernel_rfl) args w
@[go_sem] theorem s12 : srcP.funcs[12]? = some f12 := by kernel_rfl
@[go_sem] theorem c12 (args : Array Value) (w : World) : (callFunc 12 args).run srcP w = .ok (.enter 12 args) w := enter_of s12 (by kernel_rfl) (by kernel_rfl) args w
@[go_sem] theorem s13 : srcP.funcs[13]? = some f13 := by kernel_rfl
@[go_sem] theorem c13 (args : Array Value) (w : World) : (callFunc 13 args).run srcP w = .ok (.enter 13 args) w := enter_of s13 (by kernel_rfl) (by kernel_rfl) args w
@[go_sem] theorem s14 : srcP.funcs[14]? = some f14 := by kernel_rfl
@[go_sem] theorem c14 (args : Array Value) (w : World) : (callFunc 14 args).run srcP w = .ok (.enter 14 args) w := enter_of s14 (by kernel_rfl) (by kernel_rfl) args w
@[go_sem] theorem s17 : srcP.funcs[17]? = some f17 := by kernel_rfl
@[go_sem] theorem c17 (args : Array Value) (w : World) : (callFunc 17 args).run srcP w = .ok (.enter 17 args) w := enter_of s17 (by kernel_rfl) (by kernel_rfl) args w
@[go_sem] theorem s18 : srcP.funcs[18]? = some f18 := by kernel_rfl
@[go_sem] theorem c18 (args : Array Value) (w : World) : (callFunc 18 args).run srcP w = .ok (.enter 18 args) w := enter_of s18 (by kernel_rfl) (by kernel_rfl) args w
@[go_sem] theorem s20 : srcP.funcs[20]? = some f20 := by kernel_rfl
@[go_sem] theorem c20 (args : Array Value) (w : World) : (callFunc 20 args).run srcP w = .ok (.enter 20 args) w := enter_of s20 (by kernel_rfl) (by kernel_rfl) args w
@[go_sem] theorem s22 : srcP.funcs[22]? = some f22 := by kernel_rfl
@[go_sem] theorem c22 (args : Array Value) (w : World) : (callFunc 22 args).run srcP w = .ok (.enter 22 args) w := enter_of s22 (by kernel_rfl) (by kernel_rfl) args w
@[go_sem] theorem s25 : srcP.funcs[25]? = some f25 := by kernel_rfl
@[go_sem] theorem c25 (args : Array Value) (w : World) : (callFunc 25 args).run srcP w = .ok (.enter 25 args) w := enter_of s25 (by kernel_rfl) (by kernel_rfl) args w
@[go_sem] theorem s26 : srcP.funcs[26]? = some f26 := by kernel_rfl
@[go_sem] theorem c26 (args : Array Value) (w : World) : (callFunc 26 args).run srcP w = .ok (.enter 26 args) w := enter_of s26 (by kernel_rfl) (by kernel_rfl) args w
@[go_sem] theorem s27 : srcP.funcs[27]? = some f27 := by kernel_rfl
@[go_sem] theorem c27 (args : Array Value) (w : World) : (callFunc 27 args).run srcP w = .ok (.enter 27 args) w := enter_of s27 (by kernel_rfl) (by kernel_rfl) args w
@[go_sem] theorem s30 : srcP.funcs[30]? = some f30 := by kernel_rfl
@[go_sem] theorem c30 (args : Array Value) (w : World) : (callFunc 30 args).run srcP w = .ok (.enter 30 args) w := enter_of s30 (by kernel_rfl) (by kernel_rfl) args w
@[go_sem] theorem s39 : srcP.funcs[39]? = some f39 := by kernel_rfl
@[go_sem] theorem c39 (args : Array Value) (w : World) : (callFunc 39 args).run srcP w = .ok (.enter 39 args) w := enter_of s39 (by kernel_rfl) (by kernel_rfl) args w
@[go_sem] theorem s40 : srcP.funcs[40]? = some f40 := by kernel_rfl
@[go_sem] theorem c40 (args : Array Value) (w : World) : (callFunc 40 args).run srcP w = .ok (.enter 40 args) w := enter_of s40 (by kernel_rfl) (by kernel_rfl) args w
@[go_sem] theorem s74 : srcP.funcs[74]? = some f74 := by kernel_rfl
@[go_sem] theorem c74 (args : Array Value) (w : World) : (callFunc 74 args).run srcP w = .ok (.enter 74 args) w := enter_of s74 (by kernel_rfl) (by kernel_rfl) args w
@[go_sem] theorem s101 : srcP.funcs[101]? = some f101 := by kernel_rfl
@[go_sem] theorem c101 (args : Array Value) (w : World) : (callFunc 101 args).run srcP w = .ok (.enter 101 args) w := enter_of s101 (by kernel_rfl) (by kernel_rfl) args w
end Go.Proofs.Tryd
end
section
namespace Go.Proofs.Tryd
open Go Go.Load Go.RowKit
def west : ByteArray := ⟨#[119, 101, 115, 116]⟩
def east : ByteArray := ⟨#[101, 97, 115, 116]⟩
def exB (g a b : Nat) : Bk := ⟨(1, 5), 50, 2, [⟨west, 1, [(1, 1), (1, 2)], some ⟨a, 0, none⟩, 2⟩, ⟨east, 2, [(2, 1), (1, 1)], some ⟨b, 0, none⟩, 2⟩], some ⟨g, 0, none⟩, 2⟩
set_option maxHeartbeats 1000000 in
theorem lof_any (a b : Int) (w : World) : Calls srcP 11 #[.int .i64 a, .int .i64 b] w fun e w' => e = .returned (fv (a, b)) ∧ Below w.heap.size w w' := by
 simp only [fv]
 go_enter s11, ntmps11
 go_wp2
 have c0 := new_cell w #[.int .i64 a, .int .i64 b] 23 0 (by simp)
 have c1 := new_cell w #[.int .i64 a, .int .i64 b] 23 1 (by simp)
 exact bodyPost_ret (results_c results11 rfl (load_2 src_agg23 src_size23 c0 c1)) rfl ⟨rfl, (Below.refl _ w).alloc (Nat.le_refl _) _⟩
theorem set5_pairs {W : World} {a o b : Nat} {v0 v1 v2 v3 v4 : Value} {l : List (Int × Int)} (h : PairsAt W a o l) (e : a ≠ b) : PairsAt (set5 W b v0 v1 v2 v3 v4) a o l := fun i x hx =>
 ⟨(set5_other (by show a ≠ b; exact e)).trans (h i x hx).1, (set5_other (by show a ≠ b; exact e)).trans (h i x hx).2⟩
theorem pairs_new (W : World) (a b c d : Int) (ty : TypeId) : PairsAt (W.alloc (.cells #[.int .i64 a, .int .i64 b, .int .i64 c, .int .i64 d] ty)) W.heap.size 0 [(a, b), (c, d)] := fun i x hx => by
 have n := fun j hj => new_cell W #[.int .i64 a, .int .i64 b, .int .i64 c, .int .i64 d] ty j hj
 match i, hx with
 | 0, hx => obtain rfl := Option.some.inj hx; exact ⟨n 0 (by simp), n 1 (by simp)⟩
 | 1, hx => obtain rfl := Option.some.inj hx; exact ⟨n 2 (by simp), n 3 (by simp)⟩
set_option maxHeartbeats 400000 in
theorem Example_any (w : World) : Calls srcP 30 #[] w fun e w' => (∃ g a b, e = .returned (bv (exB g a b)) ∧ BookAt w' (exB g a b)) ∧ Below w.heap.size w w' := by
 have hof := fun a b W => lof_any a b W
 simp only [fv] at hof
 go_enter s30, ntmps30
 go_wp2
 go_at_call 11
 refine (hof _ _ _).mono ?_
 rintro e w1 ⟨rfl, h1⟩
 go_wp2
 go_at_call 11
 refine (hof _ _ _).mono ?_
 rintro e w2 ⟨rfl, h2⟩
 go_wp2
 go_at_call 11
 refine (hof _ _ _).mono ?_
 rintro e w3 ⟨rfl, h3⟩
 have F3 := (((Five.new w (.int .i64 0) (.int .i64 0) (.int .i64 0) (.int .i64 0) (.slice none 0 0) 54).keep h1).keep h2).keep h3
 have B3 := Below.call (Below.call (Below.call ((Below.refl _ w).alloc (Nat.le_refl _) _) h1 (Nat.le_refl _)) h2 (Nat.le_refl _)) h3 (Nat.le_refl _)
 clear h1 h2 h3
 go_wp2
 go_at_call 11
 refine (hof _ _ _).mono ?_
 rintro e w4 ⟨rfl, h4⟩
 go_wp2
 go_at_call 11
 refine (hof _ _ _).mono ?_
 rintro e w5 ⟨rfl, h5⟩
 have F5 := ((F3.keep ((Below.refl _ w3).alloc (Nat.le_refl _) (.cells #[.int .i64 1, .int .i64 1, .int .i64 1, .int .i64 2] 23))).keep h4).keep h5
 have B5 := Below.call (Below.call (B3.alloc B3.size (.cells #[.int .i64 1, .int .i64 1, .int .i64 1, .int .i64 2] 23)) h4 (Nat.le_refl _)) h5 (Nat.le_refl _)
 have P5 : PairsAt w5 w3.heap.size 0 [(1, 1), (1, 2)] := fun i x hx => by
  have n := fun j hj => new_cell w3 #[.int .i64 1, .int .i64 1, .int .i64 1, .int .i64 2] 23 j hj
  match i, hx with
  | 0, hx => obtain rfl := Option.some.inj hx; exact ⟨keep_cell _ h5 (keep_cell _ h4 (n 0 (by decide))), keep_cell _ h5 (keep_cell _ h4 (n 1 (by decide)))⟩
  | 1, hx => obtain rfl := Option.some.inj hx; exact ⟨keep_cell _ h5 (keep_cell _ h4 (n 2 (by decide))), keep_cell _ h5 (keep_cell _ h4 (n 3 (by decide)))⟩
 have hw13 : w.heap.size < w3.heap.size := lt_of_cell F3.c.1
 clear F3 B3 h4 h5
 have F7 := (F5.keep ((Below.refl _ w5).alloc (Nat.le_refl _) (.cells #[.int .i64 2, .int .i64 1, .int .i64 1, .int .i64 1] 23))).keep ((Below.refl _ _).alloc (Nat.le_refl _) (.cells #[.string ⟨#[119, 101, 115, 116]⟩, .int .i64 1, .slice (some ⟨w3.heap.size, 0, none⟩) 2 2, .string ⟨#[101, 97, 115, 116]⟩, .int .i64 2, .slice (some ⟨w5.heap.size, 0, none⟩) 2 2] 72))
 have B7 := (B5.alloc B5.size (.cells #[.int .i64 2, .int .i64 1, .int .i64 1, .int .i64 1] 23)).alloc (by have := B5.size; simp; omega) (.cells #[.string ⟨#[119, 101, 115, 116]⟩, .int .i64 1, .slice (some ⟨w3.heap.size, 0, none⟩) 2 2, .string ⟨#[101, 97, 115, 116]⟩, .int .i64 2, .slice (some ⟨w5.heap.size, 0, none⟩) 2 2] 72)
 obtain ⟨⟨c0, c1, c2, c3, c4⟩, ⟨f0, f1, f2, f3, f4⟩⟩ := F7
 have P5 := Lib.hid P5
 have B7 := Lib.hid B7
 clear hof F5 B5
 go_wp2
 have P5 := P5.out
 have P6 := (pairs_new w5 2 1 1 1 23)
 have hw3 : w3.heap.size < w5.heap.size := lt_of_cell (P5 0 _ rfl).1
 have hn : w.heap.size < w3.heap.size := hw13
 refine ret_c5 results30 src_agg54 src_size54 rfl c0 c1 c2 c3 c4 ⟨⟨w5.heap.size + 1, w3.heap.size, w5.heap.size, rfl, ?_⟩, Below.set5 B7.out (Nat.le_refl _)⟩
 have A1 : Below w5.heap.size w5 (w5.alloc (.cells #[.int .i64 2, .int .i64 1, .int .i64 1, .int .i64 1] 23)) := (Below.refl _ w5).alloc (Nat.le_refl _) _
 have A2 : ∀ (W : World) o, Below W.heap.size W (W.alloc o) := fun W o => (Below.refl _ W).alloc (Nat.le_refl _) o
 refine ⟨fun _ => ⟨w5.heap.size + 1, 0, rfl, fun i x hx => ?_⟩, fun x hx _ => ?_, ⟨by show (2 : Nat) ≤ 20; decide, fun x hx => ?_⟩, by show (2 : Nat) ≤ 2; decide⟩
 ·have n := fun j hj => new_cell' (b := w5.heap.size + 1) (w5.alloc (.cells #[.int .i64 2, .int .i64 1, .int .i64 1, .int .i64 1] 23)) #[.string ⟨#[119, 101, 115, 116]⟩, .int .i64 1, .slice (some ⟨w3.heap.size, 0, none⟩) 2 2, .string ⟨#[101, 97, 115, 116]⟩, .int .i64 2, .slice (some ⟨w5.heap.size, 0, none⟩) 2 2] 72 j hj (by simp)
  have o : ∀ j, (⟨w5.heap.size + 1, j, none⟩ : Addr).block ≠ w.heap.size := fun j => by show w5.heap.size + 1 ≠ w.heap.size; omega
  match i, hx with
  | 0, hx => obtain rfl := Option.some.inj hx; exact ⟨(set5_other (o _)).trans (n 0 (by simp)), (set5_other (o _)).trans (n 1 (by simp)), (set5_other (o _)).trans (n 2 (by simp))⟩
  | 1, hx => obtain rfl := Option.some.inj hx; exact ⟨(set5_other (o _)).trans (n 3 (by simp)), (set5_other (o _)).trans (n 4 (by simp)), (set5_other (o _)).trans (n 5 (by simp))⟩
 ·rcases List.mem_cons.1 hx with rfl | hx
  ·exact ⟨w3.heap.size, 0, rfl, set5_pairs ((P5.keep A1).keep (A2 _ _)) (by omega)⟩
  ·obtain rfl := List.mem_singleton.1 hx
   exact ⟨w5.heap.size, 0, rfl, set5_pairs (P6.keep (A2 _ _)) (by omega)⟩
 ·rcases List.mem_cons.1 hx with rfl | hx
  ·exact ⟨by show (2 : Nat) ≤ 20; decide, by show west.size ≤ 100; decide⟩
  ·obtain rfl := List.mem_singleton.1 hx
   exact ⟨by show (2 : Nat) ≤ 20; decide, by show east.size ≤ 100; decide⟩
end Go.Proofs.Tryd
end
section
namespace Go.Proofs.Tryd
open Go Go.Load Go.RowKit
theorem told_any_Loss (T : Nat) (x : Int × Int) (h : Traf x) (hT : T ≤ 7) (w : World) :
 Calls srcP 28 #[fv x, .int .i64 T, .func (.func 29) #[] #[]] w fun e w' => e = .returned (tv (lossN (low x.1 x.2) T) 0) ∧ Below w.heap.size w w' := by
 obtain ⟨k1, k2, k3, k4⟩ := low_in h.1.1 h.1.2 h.2.1 h.2.2
 exact told_yes _ (fun args w => c29 args w) T x _ h hT (fun W => lossOf_any T _ k1 k2 k3 k4 hT W) w
theorem told_any_Lost (T : Nat) (x : Int × Int) (h : Traf x) (hT : T ≤ 7) (w : World) :
 Calls srcP 28 #[fv x, .int .i64 T, .func (.func 41) #[] #[]] w fun e w' => e = .returned (tv (lostN (low x.1 x.2) T) 0) ∧ Below w.heap.size w w' := by
 obtain ⟨k1, k2, k3, k4⟩ := low_in h.1.1 h.1.2 h.2.1 h.2.2
 exact told_yes _ (fun args w => c41 args w) T x _ h hT (fun W => lostOf_any T _ k1 k2 k3 k4 hT W) w
def carriedN (x : Int × Int) (T : Nat) : Int × Int := low (x.1 * (lostN x T).2 - (lostN x T).1 * x.2) (x.2 * (lostN x T).2)
theorem lost_bound {x : Int × Int} (h1 : 0 ≤ x.1) (h2 : x.1 ≤ 12) (h3 : 1 ≤ x.2) (h4 : x.2 ≤ 4) (T : Nat) (hT : T ≤ 7) : 0 ≤ (lostN x T).1 ∧ 1 ≤ (lostN x T).2 ∧ (lostN x T).2 ≤ 655360000000 ∧ (lostN x T).1 ≤ 1966080000000 ∧ (lostN x T).1 * x.2 ≤ x.1 * (lostN x T).2 := by
 obtain ⟨q1, q2, q3, q4⟩ := loss_bound h1 h2 h3 h4 T hT
 have hp : (40 : Int) ^ T ≤ 40 ^ 7 := by exact_mod_cast Nat.pow_le_pow_right (by decide) hT
 simp only [lostN]
 generalize lossN x T = q at *
 have q5 : q.2 ≤ 163840000000 := Int.le_trans q4 (Int.le_trans hp (by decide))
 have m0 : 0 ≤ x.1 * q.1 := Int.mul_nonneg h1 q1
 have m2 : x.1 * q.1 ≤ 12 * q.2 := Int.le_trans (Int.mul_le_mul_of_nonneg_right h2 q1) (by omega)
 have m3 : x.2 * q.2 ≤ 4 * q.2 := Int.mul_le_mul_of_nonneg_right h4 (by omega)
 have m4 : 0 < x.2 * q.2 := Int.mul_pos (by omega) (by omega)
 obtain ⟨t1, t2, t3, t4, _⟩ := low_facts m0 m4
 refine ⟨t1, t3, by omega, by omega, ?_⟩
 have hg := gcd_pos (a := x.1 * q.1) m4
 have e1 : (low (x.1 * q.1) (x.2 * q.2)).1 * (Int.gcd (x.1 * q.1) (x.2 * q.2) : Int) = x.1 * q.1 := Int.ediv_mul_cancel (Int.gcd_dvd_left ..)
 have e2 : (low (x.1 * q.1) (x.2 * q.2)).2 * (Int.gcd (x.1 * q.1) (x.2 * q.2) : Int) = x.2 * q.2 := Int.ediv_mul_cancel (Int.gcd_dvd_right ..)
 refine Int.le_of_mul_le_mul_right ?_ hg
 have c1 : (low (x.1 * q.1) (x.2 * q.2)).1 * x.2 * (Int.gcd (x.1 * q.1) (x.2 * q.2) : Int) = x.1 * q.1 * x.2 := by rw [Int.mul_right_comm, e1]
 have c2 : x.1 * (low (x.1 * q.1) (x.2 * q.2)).2 * (Int.gcd (x.1 * q.1) (x.2 * q.2) : Int) = x.1 * (x.2 * q.2) := by rw [Int.mul_assoc, e2]
 rw [c1, c2, Int.mul_assoc, Int.mul_comm q.1]
 exact Int.mul_le_mul_of_nonneg_left (Int.mul_le_mul_of_nonneg_left q2 (by omega)) h1
set_option maxHeartbeats 1000000 in
theorem carried_any (T : Nat) (x : Int × Int) (h1 : 0 ≤ x.1) (h2 : x.1 ≤ 12) (h3 : 1 ≤ x.2) (h4 : x.2 ≤ 4) (hT : T ≤ 7) (w : World) :
 Calls srcP 42 #[fv x, .int .i64 T] w fun e w' => e = .returned (fv (carriedN x T)) ∧ Below w.heap.size w w' := by
 obtain ⟨q1, q2, q3, q4, q5⟩ := lost_bound h1 h2 h3 h4 T hT
 have hlost := fun W => lostOf_any T x h1 h2 h3 h4 hT W
 simp only [carriedN]
 generalize lostN x T = q at *
 have m1 : x.1 * q.2 ≤ 12 * q.2 := Int.mul_le_mul_of_nonneg_right h2 (by omega)
 have m2 : x.2 * q.2 ≤ 4 * q.2 := Int.mul_le_mul_of_nonneg_right h4 (by omega)
 have hminus := fun W => minus_any x q W h1 (by omega) q1 (by omega) (by omega) (by omega) q5
 simp only [fv] at *
 clear m1 m2 q5
 go_enter s42, ntmps42
 go_wp2_with fail
 go_region_held3 (fun w' => w'.cell? ⟨w.heap.size, 0, none⟩ = some (.int .i64 x.1) ∧ w'.cell? ⟨w.heap.size, 1, none⟩ = some (.int .i64 x.2) ∧ w'.frozen? ⟨w.heap.size + 1, 0, none⟩ = false ∧ w'.frozen? ⟨w.heap.size + 1, 1, none⟩ = false ∧
  w'.cell? ⟨w.heap.size + 1, 0, none⟩ = some (atD w' ⟨w.heap.size + 1, 0, none⟩) ∧ w'.cell? ⟨w.heap.size + 1, 1, none⟩ = some (atD w' ⟨w.heap.size + 1, 1, none⟩) ∧ Below w.heap.size w w')
  (first | exact ⟨by go_cell, by go_cell, by go_cell, by go_cell, some_at (is_some (v := .int .i64 0) (by go_cell)), some_at (is_some (v := .int .i64 0) (by go_cell)), by go_grown⟩ | exact held22 ‹_› hB | exact held22_put _ _ ‹_› (by simp) (by simp)) (first | (go_at_call 41; refine (hlost _).mono ?_; rintro e w1 ⟨rfl, hB⟩) | (go_at_call 43; refine (hminus _).mono ?_; rintro e w1 ⟨rfl, hB⟩))
 go_wp2
 rename_i hH
 obtain ⟨c0, c1, hG⟩ := held22_get hH
 exact ret_box2 results42 src_agg74 src_size74 rfl c0 c1 ⟨rfl, hG⟩
theorem told_any_Carried (T : Nat) (x : Int × Int) (h : Traf x) (hT : T ≤ 7) (w : World) :
 Calls srcP 28 #[fv x, .int .i64 T, .func (.func 42) #[] #[]] w fun e w' => e = .returned (tv (carriedN (low x.1 x.2) T) 0) ∧ Below w.heap.size w w' := by
 obtain ⟨k1, k2, k3, k4⟩ := low_in h.1.1 h.1.2 h.2.1 h.2.2
 exact told_yes _ (fun args w => c42 args w) T x _ h hT (fun W => carried_any T _ k1 k2 k3 k4 hT W) w
def toldN (what : Int × Int → Nat → Int × Int) (x : Int × Int) (T : Int) : Value := if Traf x ∧ 0 ≤ T ∧ T ≤ 7 then tv (what (low x.1 x.2) T.toNat) 0 else tv (0, 0) 1
theorem told_Loss (T : Int) (x : Int × Int) (w : World) : Calls srcP 28 #[fv x, .int .i64 T, .func (.func 29) #[] #[]] w fun e w' => e = .returned (toldN lossN x T) ∧ Below w.heap.size w w' := by
 unfold toldN
 by_cases h : Traf x ∧ 0 ≤ T ∧ T ≤ 7
 ·obtain ⟨n, rfl⟩ := Int.eq_ofNat_of_zero_le h.2.1
  rw [if_pos h]
  exact told_any_Loss n x h.1 (by omega) w
 ·rw [if_neg h]; exact told_no _ T x h w
theorem told_Lost (T : Int) (x : Int × Int) (w : World) : Calls srcP 28 #[fv x, .int .i64 T, .func (.func 41) #[] #[]] w fun e w' => e = .returned (toldN lostN x T) ∧ Below w.heap.size w w' := by
 unfold toldN
 by_cases h : Traf x ∧ 0 ≤ T ∧ T ≤ 7
 ·obtain ⟨n, rfl⟩ := Int.eq_ofNat_of_zero_le h.2.1
  rw [if_pos h]
  exact told_any_Lost n x h.1 (by omega) w
 ·rw [if_neg h]; exact told_no _ T x h w
theorem told_Carried (T : Int) (x : Int × Int) (w : World) : Calls srcP 28 #[fv x, .int .i64 T, .func (.func 42) #[] #[]] w fun e w' => e = .returned (toldN carriedN x T) ∧ Below w.heap.size w w' := by
 unfold toldN
 by_cases h : Traf x ∧ 0 ≤ T ∧ T ≤ 7
 ·obtain ⟨n, rfl⟩ := Int.eq_ofNat_of_zero_le h.2.1
  rw [if_pos h]
  exact told_any_Carried n x h.1 (by omega) w
 ·rw [if_neg h]; exact told_no _ T x h w
theorem toldN_tv (what : Int × Int → Nat → Int × Int) (x : Int × Int) (T : Int) : ∃ r a, toldN what x T = tv r a := by
 unfold toldN; split <;> exact ⟨_, _, rfl⟩
set_option maxHeartbeats 1000000 in
theorem Loss_any (T : Int) (x : Int × Int) (w : World) : Calls srcP 10 #[fv x, .int .i64 T] w fun e w' => e = .returned (toldN lossN x T) ∧ Below w.heap.size w w' := by
 have ht := fun W => told_Loss T x W
 obtain ⟨r, a, hr⟩ := toldN_tv lossN x T
 simp only [hr] at ht ⊢
 simp only [fv, tv] at *
 go_enter s10, ntmps10
 go_wp2_with (go_at_call 28; (with_reducible refine (ht _).mono ?_); rintro e w1 ⟨rfl, hB1⟩; (first | (replace hB := Below.call (by with_reducible assumption) hB1 (Nat.le_refl _)) | (replace hB := Below.call (by go_grown) hB1 (Nat.le_refl _)) | (have hB := hB1)); (try clear hc hg hz); obtain ⟨hc, hg⟩ := bcell hB; have hz := hB.size; clear hB1; (try simp at hz); (try have hlt0 : w.heap.size < w1.heap.size := by omega))
 have c0 : w1.cell? ⟨w.heap.size + 1, 0, none⟩ = some (.int .i64 0) := by rw [hc _ _ (by simp)]; go_cell
 have c1 : w1.cell? ⟨w.heap.size + 1, 1, none⟩ = some (.int .i64 0) := by rw [hc _ _ (by simp)]; go_cell
 have hp := put2 (.int .i64 r.1) (.int .i64 r.2) c0 c1
 refine bodyPost_ret (results_ct results10 rfl rfl (load_2 src_agg23 src_size23 hp.1 hp.2)) rfl ⟨rfl, ?_⟩
 exact ((Below.call (B := w.heap.size) (by go_grown) hB (Nat.le_refl _)).setCell (by simp) _).setCell (by simp) _
set_option maxHeartbeats 1000000 in
theorem Lost_any (T : Int) (x : Int × Int) (w : World) : Calls srcP 15 #[fv x, .int .i64 T] w fun e w' => e = .returned (toldN lostN x T) ∧ Below w.heap.size w w' := by
 have ht := fun W => told_Lost T x W
 obtain ⟨r, a, hr⟩ := toldN_tv lostN x T
 simp only [hr] at ht ⊢
 simp only [fv, tv] at *
 go_enter s15, ntmps15
 go_wp2_with (go_at_call 28; (with_reducible refine (ht _).mono ?_); rintro e w1 ⟨rfl, hB1⟩; (first | (replace hB := Below.call (by with_reducible assumption) hB1 (Nat.le_refl _)) | (replace hB := Below.call (by go_grown) hB1 (Nat.le_refl _)) | (have hB := hB1)); (try clear hc hg hz); obtain ⟨hc, hg⟩ := bcell hB; have hz := hB.size; clear hB1; (try simp at hz); (try have hlt0 : w.heap.size < w1.heap.size := by omega))
 have c0 : w1.cell? ⟨w.heap.size + 1, 0, none⟩ = some (.int .i64 0) := by rw [hc _ _ (by simp)]; go_cell
 have c1 : w1.cell? ⟨w.heap.size + 1, 1, none⟩ = some (.int .i64 0) := by rw [hc _ _ (by simp)]; go_cell
 have hp := put2 (.int .i64 r.1) (.int .i64 r.2) c0 c1
 refine bodyPost_ret (results_ct results15 rfl rfl (load_2 src_agg23 src_size23 hp.1 hp.2)) rfl ⟨rfl, ?_⟩
 exact ((Below.call (B := w.heap.size) (by go_grown) hB (Nat.le_refl _)).setCell (by simp) _).setCell (by simp) _
set_option maxHeartbeats 1000000 in
theorem Carried_any (T : Int) (x : Int × Int) (w : World) : Calls srcP 16 #[fv x, .int .i64 T] w fun e w' => e = .returned (toldN carriedN x T) ∧ Below w.heap.size w w' := by
 have ht := fun W => told_Carried T x W
 obtain ⟨r, a, hr⟩ := toldN_tv carriedN x T
 simp only [hr] at ht ⊢
 simp only [fv, tv] at *
 go_enter s16, ntmps16
 go_wp2_with (go_at_call 28; (with_reducible refine (ht _).mono ?_); rintro e w1 ⟨rfl, hB1⟩; (first | (replace hB := Below.call (by with_reducible assumption) hB1 (Nat.le_refl _)) | (replace hB := Below.call (by go_grown) hB1 (Nat.le_refl _)) | (have hB := hB1)); (try clear hc hg hz); obtain ⟨hc, hg⟩ := bcell hB; have hz := hB.size; clear hB1; (try simp at hz); (try have hlt0 : w.heap.size < w1.heap.size := by omega))
 have c0 : w1.cell? ⟨w.heap.size + 1, 0, none⟩ = some (.int .i64 0) := by rw [hc _ _ (by simp)]; go_cell
 have c1 : w1.cell? ⟨w.heap.size + 1, 1, none⟩ = some (.int .i64 0) := by rw [hc _ _ (by simp)]; go_cell
 have hp := put2 (.int .i64 r.1) (.int .i64 r.2) c0 c1
 refine bodyPost_ret (results_ct results16 rfl rfl (load_2 src_agg23 src_size23 hp.1 hp.2)) rfl ⟨rfl, ?_⟩
 exact ((Below.call (B := w.heap.size) (by go_grown) hB (Nat.le_refl _)).setCell (by simp) _).setCell (by simp) _
def overN (m n : Int) (x : Int × Int) : Value := if (0 ≤ m ∧ m ≤ 7) ∧ 0 ≤ n ∧ n ≤ 7 then toldN lossN x (m + n) else tv (0, 0) 1
set_option maxHeartbeats 1000000 in
theorem Over_any (m n : Int) (x : Int × Int) (w : World) : Calls srcP 19 #[.int .i64 m, .int .i64 n, fv x] w fun e w' => e = .returned (overN m n x) ∧ Below w.heap.size w w' := by
 unfold overN
 by_cases hm : 0 ≤ m ∧ m ≤ 7
 ·by_cases hn : 0 ≤ n ∧ n ≤ 7
  ·rw [if_pos ⟨hm, hn⟩]
   have ht := fun W => told_Loss (m + n) x W
   obtain ⟨r, a, hr⟩ := toldN_tv lossN x (m + n)
   simp only [hr] at ht ⊢
   simp only [fv, tv] at *
   go_enter s19, ntmps19
   go_wp2_with (first | (go_at_call 28; (with_reducible refine (ht _).mono ?_); rintro e w1 ⟨rfl, hB1⟩; (first | (replace hB := Below.call (by with_reducible assumption) hB1 (Nat.le_refl _)) | (replace hB := Below.call (by go_grown) hB1 (Nat.le_refl _)) | (have hB := hB1)); (try clear hc hg hz); obtain ⟨hc, hg⟩ := bcell hB; have hz := hB.size; clear hB1; (try simp at hz); (try have hlt0 : w.heap.size < w1.heap.size := by omega)) | (go_at_call 44; (with_reducible refine (isTrunks_yes _ _ hm).mono ?_); rintro e w1 ⟨rfl, rfl⟩) | (go_at_call 44; (with_reducible refine (isTrunks_yes _ _ hn).mono ?_); rintro e w1 ⟨rfl, rfl⟩))
   have c0 : w1.cell? ⟨w.heap.size + 1, 0, none⟩ = some (.int .i64 0) := by rw [hc _ _ (by simp)]; go_cell
   have c1 : w1.cell? ⟨w.heap.size + 1, 1, none⟩ = some (.int .i64 0) := by rw [hc _ _ (by simp)]; go_cell
   have hp := put2 (.int .i64 r.1) (.int .i64 r.2) c0 c1
   refine bodyPost_ret (results_ct results19 rfl rfl (load_2 src_agg23 src_size23 hp.1 hp.2)) rfl ⟨rfl, ?_⟩
   exact ((Below.call (B := w.heap.size) (by go_grown) hB (Nat.le_refl _)).setCell (by simp) _).setCell (by simp) _
  ·rw [if_neg (fun h => hn h.2)]
   simp only [fv, tv] at *
   go_enter s19, ntmps19
   go_wp2_with (first | (go_at_call 44; (with_reducible refine (isTrunks_yes _ _ hm).mono ?_); rintro e w1 ⟨rfl, rfl⟩) | (go_at_call 44; (with_reducible refine (isTrunks_no _ _ hn).mono ?_); rintro e w1 ⟨rfl, rfl⟩))
   go_returns
   exact ⟨rfl, by go_grown⟩
 ·rw [if_neg (fun h => hm h.1)]
  simp only [fv, tv] at *
  go_enter s19, ntmps19
  go_wp2_with (first | (go_at_call 44; (with_reducible refine (isTrunks_no _ _ hm).mono ?_); rintro e w1 ⟨rfl, rfl⟩))
  go_returns
  exact ⟨rfl, by go_grown⟩
end Go.Proofs.Tryd
end
section
namespace Go.Proofs.Tryd
open Go Go.Load Go.RowKit Go.Instr
def kv (x : Int × Int) (T : Nat) : Value := .agg #[.int .i64 x.1, .int .i64 x.2, .int .i64 T]
theorem ck (e : Bool) (a b c : Int) (w : World) : (checkKey e 10000 151 (.agg #[.int .i64 a, .int .i64 b, .int .i64 c])).run srcP w = .ok () w := by kernel_rfl
theorem sq151 : srcP.underlying 151 = some (.struct (srcP.fieldsOf 151)) := by kernel_rfl
theorem sp74 : srcP.underlying 74 = some (.struct (srcP.fieldsOf 74)) := by kernel_rfl
theorem hq151 : srcP.stoodInHeld 151 = false := by kernel_rfl
theorem hp74 : srcP.stoodInHeld 74 = false := by kernel_rfl
theorem eqp (d : Nat) (a b a' b' : Int) (w : World) : (Op.equalIn (d + 2) 74 (.agg #[.int .i64 a, .int .i64 b]) (.agg #[.int .i64 a', .int .i64 b'])).run srcP w = .ok (a == a' && b == b') w := by
 rw [run_equalIn_agg w (d + 1) 74 _ _ sp74 hp74]
 have e0 : (Op.eqFields (d + 1) #[.int .i64 a, .int .i64 b] #[.int .i64 a', .int .i64 b'] (srcP.fieldsOf 74).toList).run srcP w = (if (!(a == a')) = true then (pure false : Sem Bool) else Op.eqFields (d + 1) #[.int .i64 a, .int .i64 b] #[.int .i64 a', .int .i64 b'] (srcP.fieldsOf 74).toList.tail).run srcP w := by kernel_rfl
 rw [e0]
 cases h : (a == a') with
 | false => simp
 | true =>
   have e1 : (Op.eqFields (d + 1) #[.int .i64 a, .int .i64 b] #[.int .i64 a', .int .i64 b'] (srcP.fieldsOf 74).toList.tail).run srcP w = (if (!(b == b')) = true then (pure false : Sem Bool) else pure true).run srcP w := by kernel_rfl
   simp only [Bool.not_true, Bool.false_eq_true, if_false]
   rw [e1]
   cases h : (b == b') <;> simp
theorem eqk (a b c a' b' c' : Int) (w : World) : (Op.equal 151 (.agg #[.int .i64 a, .int .i64 b, .int .i64 c]) (.agg #[.int .i64 a', .int .i64 b', .int .i64 c'])).run srcP w = .ok ((a == a' && b == b') && c == c') w := by
 show (Op.equalIn (9999 + 1) 151 _ _).run srcP w = _
 rw [run_equalIn_agg w 9999 151 _ _ sq151 hq151]
 have e0 : (Op.eqFields 9999 #[.int .i64 a, .int .i64 b, .int .i64 c] #[.int .i64 a', .int .i64 b', .int .i64 c'] (srcP.fieldsOf 151).toList).run srcP w = (Op.equalIn 9999 74 (.agg #[.int .i64 a, .int .i64 b]) (.agg #[.int .i64 a', .int .i64 b']) >>= fun r => if (!r) = true then (pure false : Sem Bool) else Op.eqFields 9999 #[.int .i64 a, .int .i64 b, .int .i64 c] #[.int .i64 a', .int .i64 b', .int .i64 c'] (srcP.fieldsOf 151).toList.tail).run srcP w := by kernel_rfl
 rw [e0, Sem.run_bind, show (9999 : Nat) = 9997 + 2 from rfl, eqp, Result.andThen_ok]
 cases h : (a == a' && b == b') with
 | false => simp
 | true =>
   have e1 : (Op.eqFields (9997 + 2) #[.int .i64 a, .int .i64 b, .int .i64 c] #[.int .i64 a', .int .i64 b', .int .i64 c'] (srcP.fieldsOf 151).toList.tail).run srcP w = (if (!(c == c')) = true then (pure false : Sem Bool) else pure true).run srcP w := by kernel_rfl
   simp only [Bool.not_true, Bool.false_eq_true, if_false]
   rw [e1]
   cases h : (c == c') <;> simp
theorem eqkv (p q : (Int × Int) × Nat) (w : World) : (Op.equal 151 (kv p.1 p.2) (kv q.1 q.2)).run srcP w = .ok (decide (p = q)) w := by
 obtain ⟨⟨a, b⟩, c⟩ := p
 obtain ⟨⟨a', b'⟩, c'⟩ := q
 have e : ((a == a' && b == b') && (c : Int) == (c' : Int)) = decide (((a, b), c) = ((a', b'), c')) := by
  rw [Bool.eq_iff_iff]
  simp only [Bool.and_eq_true, beq_iff_eq, decide_eq_true_eq, Prod.mk.injEq, Int.natCast_inj]
 show (Op.equal 151 (.agg #[.int .i64 a, .int .i64 b, .int .i64 c]) (.agg #[.int .i64 a', .int .i64 b', .int .i64 c'])).run srcP w = _
 rw [eqk, e]
def Ents (es : List MapEntry) (L : List ((Int × Int) × Nat)) : Prop := es.map (fun e => (e.key, e.val)) = L.map fun p => (kv p.1 p.2, fv (lostN p.1 p.2))
theorem find_run (p : (Int × Int) × Nat) : ∀ (es : List MapEntry) (L : List ((Int × Int) × Nat)) (i : Nat) (w : World), Ents es L → ∃ r, (findAsking 151 (kv p.1 p.2) es i).run srcP w = .ok r w ∧ (p ∈ L → ∃ j, r = some (j, fv (lostN p.1 p.2))) ∧ (p ∉ L → r = none)
 | [], L, i, w, h => by
   cases L with
   | nil => exact ⟨none, rfl, (fun h => absurd h List.not_mem_nil), fun _ => rfl⟩
   | cons q L => simp [Ents] at h
 | e :: es, L, i, w, h => by
   cases L with
   | nil => simp [Ents] at h
   | cons q L =>
     simp only [Ents, List.map_cons, List.cons.injEq, Prod.mk.injEq] at h
     obtain ⟨⟨hk, hv⟩, ht⟩ := h
     obtain ⟨r, h1, h2, h3⟩ := find_run p es L (i + 1) w ht
     unfold findAsking
     rw [Sem.run_bind, hk, eqkv, Result.andThen_ok]
     by_cases hpq : p = q
     ·subst hpq
      exact ⟨_, by rw [if_pos (by simp)]; rfl, fun _ => ⟨i, by rw [hv]⟩, fun h => absurd List.mem_cons_self h⟩
     ·refine ⟨r, by rw [if_neg (by simpa using hpq)]; exact h1, fun h => h2 ?_, fun h => h3 fun h' => h (List.mem_cons_of_mem _ h')⟩
      rcases List.mem_cons.1 h with h | h
      ·exact absurd h hpq
      ·exact h
theorem findKey_run (p : (Int × Int) × Nat) (es : List MapEntry) (L : List ((Int × Int) × Nat)) (w : World) (h : Ents es L) : ∃ r, (findKey 151 (kv p.1 p.2) es).run srcP w = .ok r w ∧ (p ∈ L → ∃ j, r = some (j, fv (lostN p.1 p.2))) ∧ (p ∉ L → r = none) := by
 unfold findKey
 rw [Sem.run_bind]
 rw [run_underlying sq151, Result.andThen_ok]
 cases es with
 | nil =>
   cases L with
   | nil => exact ⟨none, rfl, (fun h => absurd h List.not_mem_nil), fun _ => rfl⟩
   | cons q L => simp [Ents] at h
 | cons e es => exact find_run p (e :: es) L 0 w h
def LMap (W : World) (m : Nat) (L : List ((Int × Int) × Nat)) : Prop := ∃ es clock, W.heap[m]? = some (.map es clock) ∧ Ents es.toList L
theorem lookup_run {W : World} {m : Nat} {L : List ((Int × Int) × Nat)} (h : LMap W m L) (x : Int × Int) (T : Nat) : (Instr.lookup 109 (.map (some m)) (.agg #[.int .i64 x.1, .int .i64 x.2, .int .i64 T]) true).run srcP W = .ok (if (x, T) ∈ L then .tuple #[fv (lostN x T), .bool true] else .tuple #[fv (0, 0), .bool false]) W := by
 obtain ⟨es, clock, h1, h2⟩ := h
 obtain ⟨r, hr, h3, h4⟩ := findKey_run (x, T) es.toList L W h2
 unfold Instr.lookup
 have hu : (Go.underlying 109).run srcP W = .ok (.map 151 74) W := by kernel_rfl
 have hg : (getObj m).run srcP W = .ok (.map es clock) W := by simp [getObj, Sem.run, h1]
 have hz : (zeroValue 74).run srcP W = .ok (fv (0, 0)) W := by kernel_rfl
 simp only [Sem.run_bind, hu, hg, Result.andThen_ok, Sem.run_pure, ck]
 show ((findKey 151 (kv x T) es.toList).run srcP W).andThen _ = _
 rw [hr, Result.andThen_ok]
 by_cases hm : (x, T) ∈ L
 ·obtain ⟨j, rfl⟩ := h3 hm
  simp [hm]
 ·obtain rfl := h4 hm
  simp [hm, hz]
theorem update_run {W : World} {m : Nat} {L : List ((Int × Int) × Nat)} (h : LMap W m L) (x : Int × Int) (T : Nat) (hn : (x, T) ∉ L) : ∃ W1, (Instr.mapUpdate 109 (.map (some m)) (.agg #[.int .i64 x.1, .int .i64 x.2, .int .i64 T]) (fv (lostN x T))).run srcP W = .ok () W1 ∧ LMap W1 m (L ++ [(x, T)]) ∧ W.grownBy W1 (some m) ∧ W1.heap.size = W.heap.size := by
 obtain ⟨es, clock, h1, h2⟩ := h
 obtain ⟨r, hr, h3, h4⟩ := findKey_run (x, T) es.toList L W h2
 obtain rfl := h4 hn
 have hu : (Go.underlying 109).run srcP W = .ok (.map 151 74) W := by kernel_rfl
 have hg : (getObj m).run srcP W = .ok (.map es clock) W := by simp [getObj, Sem.run, h1]
 have hlt : m < W.heap.size := (Array.getElem?_eq_some_iff.1 h1).1
 refine ⟨W.putObj m (.map (es.push { key := kv x T, val := fv (lostN x T), born := clock }) (clock + 1)), ?_, ⟨_, _, World.putObj_heap_same hlt, ?_⟩, grownBy_putObj' W _ _, by simp [World.putObj]⟩
 ·unfold Instr.mapUpdate
  simp only [Sem.run_bind, hu, hg, Result.andThen_ok, ck]
  show ((findKey 151 (kv x T) es.toList).run srcP W).andThen _ = _
  rw [hr, Result.andThen_ok]
  show (setObj m _).run srcP W = _
  unfold setObj
  simp [Sem.run, h1, World.putObj]
  rfl
 ·unfold Ents at h2 ⊢
  simp [h2]
def OneMap (m : Nat) (w w' : World) : Prop := (∃ L, LMap w' m L) ∧ w.grownBy w' (some m)
theorem LMap.block {W W1 : World} {m : Nat} {L : List ((Int × Int) × Nat)} (h : LMap W m L) (e : W1.heap[m]? = W.heap[m]?) : LMap W1 m L := by
 obtain ⟨es, c, h1, h2⟩ := h
 exact ⟨es, c, e.trans h1, h2⟩
theorem LMap.lt {W : World} {m : Nat} {L : List ((Int × Int) × Nat)} (h : LMap W m L) : m < W.heap.size := by
 obtain ⟨es, c, h1, h2⟩ := h
 exact (Array.getElem?_eq_some_iff.1 h1).1
theorem LMap.keep {W W1 : World} {m : Nat} {L : List ((Int × Int) × Nat)} (h : LMap W m L) (hB : Below W.heap.size W W1) : LMap W1 m L := h.block (hB.block m h.lt)
theorem grown_trans {w w1 w2 : World} {r : Option Nat} (h : w.grownBy w1 r) (k : w1.grownBy w2 r) : w.grownBy w2 r :=
 ⟨k.os.trans h.os, k.tape.trans h.tape, k.output.trans h.output, Nat.le_trans h.size k.size, fun b hb hr => (k.block b (Nat.lt_of_lt_of_le hb h.size) hr).trans (h.block b hb hr)⟩
theorem grown_below {w w1 : World} {r : Option Nat} (h : Below w.heap.size w w1) : w.grownBy w1 r := ⟨h.os, h.tape, h.output, h.size, fun k hk _ => h.block k hk⟩
theorem grown_set {w w1 : World} {r : Option Nat} (h : w.grownBy w1 r) {p : Addr} (hp : w.heap.size ≤ p.block) (v : Value) : w.grownBy (w1.setCell p v) r :=
 ⟨h.os, h.tape, h.output, by simpa using h.size, fun k hk hr => (Below.heap_setCell _ _ _ _ (by omega)).trans (h.block k hk hr)⟩
theorem grown_cell {w w1 : World} {m : Nat} (h : w.grownBy w1 (some m)) {p : Addr} {v : Value} (hc : w.cell? p = some v) (hp : p.block ≠ m) : w1.cell? p = some v := h.cell hc (by simpa using hp)
theorem grown_frozen {w w1 : World} {m : Nat} (h : w.grownBy w1 (some m)) {p : Addr} {v : Value} (hc : w.cell? p = some v) (hf : w.frozen? p = false) (hp : p.block ≠ m) : w1.frozen? p = false :=
 (World.frozen?_of_block (w := w) (h.block p.block (lt_of_cell hc) (by simpa using hp))).trans hf
set_option maxHeartbeats 2000000 in
set_option maxRecDepth 100000 in
theorem lost_any (m : Nat) (L : List ((Int × Int) × Nat)) (T : Nat) (x : Int × Int) (h1 : 0 ≤ x.1) (h2 : x.1 ≤ 12) (h3 : 1 ≤ x.2) (h4 : x.2 ≤ 4) (hT : T ≤ 7) (w : World) (hL : LMap w m L) :
 Calls srcP 107 #[.map (some m), fv x, .int .i64 T] w fun e w' => e = .returned (fv (lostN x T)) ∧ OneMap m w w' := by
 have hlo := fun W => lostOf_any T x h1 h2 h3 h4 hT W
 have hlt := hL.lt
 have HL := Lib.hid fun (W : World) (h : LMap W m L) => lookup_run h x T
 have HU := Lib.hid fun (W : World) (h : LMap W m L) (hn : (x, T) ∉ L) => update_run h x T hn
 generalize lostN x T = r at *
 simp only [fv] at *
 have HM := Lib.hid hL
 clear hL
 have pre : ∀ {W : World}, Below w.heap.size w W → OneMap m w W := fun hB => ⟨⟨L, HM.out.keep hB⟩, grown_below hB⟩
 by_cases hin : (x, T) ∈ L
 ·go_enter s107, ntmps107
  go_wp2
  obtain ⟨W, hW⟩ : ∃ W, ((w.alloc (Obj.cells #[.int .i64 x.1, .int .i64 x.2] 74)).alloc (Obj.cells #[.int .i64 0, .int .i64 0] 74)).alloc (Obj.cells #[.int .i64 x.1, .int .i64 x.2, .int .i64 T] 151) = W := ⟨_, rfl⟩
  have hB : Below w.heap.size w W := by subst hW; go_grown
  have c0 : W.cell? ⟨w.heap.size + 1, 0, none⟩ = some (.int .i64 0) := by subst hW; go_cell
  have c1 : W.cell? ⟨w.heap.size + 1, 1, none⟩ = some (.int .i64 0) := by subst hW; go_cell
  have f0 : W.frozen? ⟨w.heap.size + 1, 0, none⟩ = false := by subst hW; go_cell
  have f1 : W.frozen? ⟨w.heap.size + 1, 1, none⟩ = false := by subst hW; go_cell
  have hs : w.heap.size + 1 < W.heap.size := by subst hW; simp
  rw [hW]
  clear hW
  rw [HL.out W (HM.out.keep hB), if_pos hin]
  go_wp2
  have hp := put2 (.int .i64 r.1) (.int .i64 r.2) c0 c1
  refine bodyPost_ret (results_c results107 rfl (load_2 src_agg74 src_size74 (cell_alloc hp.1) (cell_alloc hp.2))) rfl ⟨rfl, pre ?_⟩
  exact ((hB.setCell (p := ⟨w.heap.size + 1, 0, none⟩) (Nat.le_succ _) _).setCell (p := ⟨w.heap.size + 1, 1, none⟩) (Nat.le_succ _) _).alloc (by simp; omega) _
 ·go_enter s107, ntmps107
  go_wp2
  obtain ⟨W, hW⟩ : ∃ W, ((w.alloc (Obj.cells #[.int .i64 x.1, .int .i64 x.2] 74)).alloc (Obj.cells #[.int .i64 0, .int .i64 0] 74)).alloc (Obj.cells #[.int .i64 x.1, .int .i64 x.2, .int .i64 T] 151) = W := ⟨_, rfl⟩
  have hB : Below w.heap.size w W := by subst hW; go_grown
  have a0 : W.cell? ⟨w.heap.size, 0, none⟩ = some (.int .i64 x.1) := by subst hW; go_cell
  have a1 : W.cell? ⟨w.heap.size, 1, none⟩ = some (.int .i64 x.2) := by subst hW; go_cell
  have c0 : W.cell? ⟨w.heap.size + 1, 0, none⟩ = some (.int .i64 0) := by subst hW; go_cell
  have c1 : W.cell? ⟨w.heap.size + 1, 1, none⟩ = some (.int .i64 0) := by subst hW; go_cell
  have f0 : W.frozen? ⟨w.heap.size + 1, 0, none⟩ = false := by subst hW; go_cell
  have f1 : W.frozen? ⟨w.heap.size + 1, 1, none⟩ = false := by subst hW; go_cell
  have q0 : W.cell? ⟨w.heap.size + 1 + 1, 0, none⟩ = some (.int .i64 x.1) := by subst hW; go_cell
  have q1 : W.cell? ⟨w.heap.size + 1 + 1, 1, none⟩ = some (.int .i64 x.2) := by subst hW; go_cell
  have q2 : W.cell? ⟨w.heap.size + 1 + 1, 2, none⟩ = some (.int .i64 T) := by subst hW; go_cell
  have hs : w.heap.size + 1 + 1 < W.heap.size := by subst hW; simp
  have hs1 : w.heap.size + 1 < W.heap.size := by omega
  have hs2 : w.heap.size < W.heap.size := by omega
  rw [hW]
  clear hW
  rw [HL.out W (HM.out.keep hB), if_neg hin]
  go_wp2_with (go_at_call 41; refine (hlo _).mono ?_; rintro e w1 ⟨rfl, hB1⟩; have z0 := keep_cell ⟨W.heap.size, 0, none⟩ hB1 (v := .int .i64 0) (by go_cell); have z1 := keep_cell ⟨W.heap.size, 1, none⟩ hB1 (v := .int .i64 0) (by go_cell); have y0 := keep_frozen ⟨W.heap.size, 0, none⟩ hB1 (v := .int .i64 0) (by go_cell) (by go_cell); have y1 := keep_frozen ⟨W.heap.size, 1, none⟩ hB1 (v := .int .i64 0) (by go_cell) (by go_cell); have c0 := keep_cell _ hB1 (cell_alloc c0); have c1 := keep_cell _ hB1 (cell_alloc c1); have f0 := keep_frozen _ hB1 (cell_alloc ‹W.cell? ⟨w.heap.size + 1, 0, none⟩ = _›) (frozen_alloc ‹W.cell? ⟨w.heap.size + 1, 0, none⟩ = _› f0); have f1 := keep_frozen _ hB1 (cell_alloc ‹W.cell? ⟨w.heap.size + 1, 1, none⟩ = _›) (frozen_alloc ‹W.cell? ⟨w.heap.size + 1, 1, none⟩ = _› f1); have q0 := keep_cell _ hB1 (cell_alloc q0); have q1 := keep_cell _ hB1 (cell_alloc q1); have q2 := keep_cell _ hB1 (cell_alloc q2); have hz := hB1.size; simp at hz; have hBx := Below.call (B := w.heap.size) (by go_grown) hB1 (Nat.le_refl _))
  obtain ⟨W2, hW2⟩ : ∃ W2, (w1.setCell ⟨W.heap.size, 0, none⟩ (.int .i64 r.1)).setCell ⟨W.heap.size, 1, none⟩ (.int .i64 r.2) = W2 := ⟨_, rfl⟩
  have hB2 : Below w.heap.size w W2 := by subst hW2; exact (hBx.setCell (by simp <;> omega) _).setCell (by simp <;> omega) _
  have z0' : W2.cell? ⟨W.heap.size, 0, none⟩ = some (.int .i64 r.1) := by subst hW2; exact (put2 _ _ z0 z1).1
  have z1' : W2.cell? ⟨W.heap.size, 1, none⟩ = some (.int .i64 r.2) := by subst hW2; exact (put2 _ _ z0 z1).2
  have nq : ∀ i j k, k ≠ W.heap.size → (⟨W.heap.size, i, none⟩ : Addr) ≠ ⟨k, j, none⟩ := fun i j k h e => h (congrArg Addr.block e).symm
  have c0 : W2.cell? ⟨w.heap.size + 1, 0, none⟩ = some (.int .i64 0) := by subst hW2; exact cell_other (nq _ _ _ (by omega)) (cell_other (nq _ _ _ (by omega)) c0)
  have c1 : W2.cell? ⟨w.heap.size + 1, 1, none⟩ = some (.int .i64 0) := by subst hW2; exact cell_other (nq _ _ _ (by omega)) (cell_other (nq _ _ _ (by omega)) c1)
  have f0 : W2.frozen? ⟨w.heap.size + 1, 0, none⟩ = false := by subst hW2; simpa using f0
  have f1 : W2.frozen? ⟨w.heap.size + 1, 1, none⟩ = false := by subst hW2; simpa using f1
  rw [hW2]
  obtain ⟨W3, h3, h4, h5, h6⟩ := HU.out W2 (HM.out.keep hB2) hin
  rw [h3]
  have hmw : m ≠ W.heap.size := by omega
  have hmw1 : m ≠ w.heap.size + 1 := by omega
  have z0' := grown_cell h5 z0' (Ne.symm hmw)
  have z1' := grown_cell h5 z1' (Ne.symm hmw)
  have f0 := grown_frozen h5 c0 f0 (Ne.symm hmw1)
  have f1 := grown_frozen h5 c1 f1 (Ne.symm hmw1)
  have c0 := grown_cell h5 c0 (Ne.symm hmw1)
  have c1 := grown_cell h5 c1 (Ne.symm hmw1)
  clear h3 hW2 hB1 hBx
  go_wp2
  refine ret_box2 results107 src_agg74 src_size74 rfl c0 c1 ⟨rfl, ⟨L ++ [(x, T)], ?_⟩, ?_⟩
  ·exact h4.block ((Below.heap_setCell _ _ _ _ (by simp <;> omega)).trans (Below.heap_setCell _ _ _ _ (by simp <;> omega)))
  ·exact grown_set (grown_set (grown_trans (grown_below hB2) h5) (p := ⟨w.heap.size + 1, 0, none⟩) (Nat.le_succ _) _) (p := ⟨w.heap.size + 1, 1, none⟩) (Nat.le_succ _) _
end Go.Proofs.Tryd
end
section
namespace Go.Proofs.Tryd
open Go Go.Load Go.RowKit Go.Instr
theorem sp23 : srcP.underlying 23 = some (.struct (srcP.fieldsOf 23)) := by kernel_rfl
theorem hp23 : srcP.stoodInHeld 23 = false := by kernel_rfl
theorem eqf (d : Nat) (a b a' b' : Int) (w : World) : (Op.equalIn (d + 2) 23 (.agg #[.int .i64 a, .int .i64 b]) (.agg #[.int .i64 a', .int .i64 b'])).run srcP w = .ok (a == a' && b == b') w := by
 rw [run_equalIn_agg w (d + 1) 23 _ _ sp23 hp23]
 have e0 : (Op.eqFields (d + 1) #[.int .i64 a, .int .i64 b] #[.int .i64 a', .int .i64 b'] (srcP.fieldsOf 23).toList).run srcP w = (if (!(a == a')) = true then (pure false : Sem Bool) else Op.eqFields (d + 1) #[.int .i64 a, .int .i64 b] #[.int .i64 a', .int .i64 b'] (srcP.fieldsOf 23).toList.tail).run srcP w := by kernel_rfl
 rw [e0]
 cases h : (a == a') with
 | false => simp
 | true =>
   have e1 : (Op.eqFields (d + 1) #[.int .i64 a, .int .i64 b] #[.int .i64 a', .int .i64 b'] (srcP.fieldsOf 23).toList.tail).run srcP w = (if (!(b == b')) = true then (pure false : Sem Bool) else pure true).run srcP w := by kernel_rfl
   simp only [Bool.not_true, Bool.false_eq_true, if_false]
   rw [e1]
   cases h : (b == b') <;> simp
@[go_sem] theorem eqf_run (a b a' b' : Int) (w : World) : (Op.equalIn 10000 23 (.agg #[.int .i64 a, .int .i64 b]) (.agg #[.int .i64 a', .int .i64 b'])).run srcP w = .ok (a == a' && b == b') w := eqf 9998 a b a' b' w
@[go_sem] theorem neqf_run (a b a' b' : Int) (w : World) : (binOp .neq 23 (.agg #[.int .i64 a, .int .i64 b]) (.agg #[.int .i64 a', .int .i64 b'])).run srcP w = .ok (.bool (!(a == a' && b == b'))) w := by
  rw [run_neq_struct, eqf_run]; rfl
theorem hm23 : srcP.eqGuardType srcP.depth 23 = false := by kernel_rfl
@[go_sem] theorem guardf_run (op : BinOp) (p q : Operand) (xs ys : Array Value) (w : World) : (eqGuard op 23 p q (.agg xs) (.agg ys)).run srcP w = .ok () w := run_eqGuard_agg w op _ p q xs ys hm23
def FracsAt (w : World) (v : Value) (L : List (Int × Int)) : Prop := ∃ a c, v = .slice a L.length c ∧ (1 ≤ L.length → ∃ b o, a = some ⟨b, o, none⟩ ∧ PairsAt w b o L)
set_option maxHeartbeats 2000000 in
set_option maxRecDepth 100000 in
theorem SameTraffic_any (va vb : Value) (A B : List (Int × Int)) (w : World) (hA : FracsAt w va A) (hB : FracsAt w vb B) (h1 : A.length ≤ 100) (h2 : B.length ≤ 100) : Calls srcP 40 #[va, vb] w fun e w' => e = .returned (.bool (decide (A = B))) ∧ Below w.heap.size w w' := by
 obtain ⟨aa, ca, rfl, ha⟩ := hA
 obtain ⟨ab, cb, rfl, hb⟩ := hB
 have HA := Lib.hid ha
 have HB := Lib.hid hb
 clear ha hb
 by_cases hl : A.length = B.length
 ·have hli : (A.length : Int) = (B.length : Int) := by omega
  have HL := Lib.hid hl
  clear hl
  go_enter s40, ntmps40
  go_wp2
  go_loopw [5] (fun i wr => ∃ k : Nat, i = .int .i64 k ∧ k ≤ A.length ∧ Below w.heap.size w wr ∧ Hid (∀ j, j < k → A[j]? = B[j]?)) (fun i _ => A.length - (intOf i).toNat)
  case atStart => exact ⟨0, rfl, by omega, .refl _ _, Lib.hid fun j hj => absurd hj (by omega)⟩
  case round =>
   obtain ⟨k, rfl, hk, hBr, HK⟩ := hrel
   have hk0 : (0 : Int) ≤ (k : Int) := Int.natCast_nonneg k
   by_cases l1 : k < A.length
   ·have l2 : k < B.length := by have := HL.out; omega
    obtain ⟨x, hx⟩ : ∃ x, A[k]? = some x := ⟨A[k], by simp [l1]⟩
    obtain ⟨y, hy⟩ : ∃ y, B[k]? = some y := ⟨B[k], by simp [l2]⟩
    obtain ⟨ba, oa, rfl, ra⟩ := HA.out (by omega)
    obtain ⟨bb, ob, rfl, rb⟩ := HB.out (by omega)
    obtain ⟨a0, a1⟩ := ra k x hx
    obtain ⟨b0, b1⟩ := rb k y hy
    have a0 := keep_cell _ hBr a0
    have a1 := keep_cell _ hBr a1
    have b0 := keep_cell _ hBr b0
    have b1 := keep_cell _ hBr b1
    have i1 : (k : Int) < (A.length : Int) := by omega
    have i2 : (k : Int) < (B.length : Int) := by omega
    have HX := Lib.hid (And.intro hx hy)
    clear ra rb hx hy hli
    by_cases e : x = y
    ·subst e
     have hq : (!(x.1 == x.1 && x.2 == x.2)) = false := by simp
     go_wp2
     go_region
     go_wp2
     go_roundw
     case rel => exact ⟨k + 1, rfl, by omega, (by first | exact hBr.drew | exact below_drewN hBr _ | go_grown), Lib.hid fun j hj => by
      by_cases e : j = k
      ·subst e; rw [HX.out.1, HX.out.2]
      ·exact HK.out j (by omega)⟩
     case measure => simp [intOf]; omega
    ·have hq : (x.1 == y.1 && x.2 == y.2) = false := by
      cases hq : (x.1 == y.1 && x.2 == y.2) with
      | false => rfl
      | true => simp at hq; exact absurd (Prod.ext hq.1 hq.2) e
     have HN : Hid (decide (A = B) = false) := Lib.hid (decide_eq_false fun h => e (by rw [h] at HX; exact Option.some.inj (HX.out.1.symm.trans HX.out.2)))
     go_wp2
     go_region
     go_wp2
     go_ret
     exact ⟨by rw [HN.out]; rfl, (by first | exact hBr.drew | exact below_drewN hBr _ | go_grown)⟩
   ·have i1 : ¬ (k : Int) < (A.length : Int) := by omega
    have HT : Hid (decide (A = B) = true) := Lib.hid (decide_eq_true (List.ext_getElem? fun j => by
     by_cases hj : j < k
     ·exact HK.out j hj
     ·rw [List.getElem?_eq_none (by omega), List.getElem?_eq_none (by have := HL.out; omega)]))
    go_wp2
    go_ret
    exact ⟨by rw [HT.out]; rfl, hBr⟩
 ·have hli : ((A.length : Int) != (B.length : Int)) = true := bne_iff_ne.2 (by omega)
  have HN : Hid (decide (A = B) = false) := Lib.hid (decide_eq_false fun e => hl (by rw [e]))
  clear hl
  go_enter s40, ntmps40
  go_wp2
  go_ret
  exact ⟨by rw [HN.out]; rfl, .refl _ _⟩
end Go.Proofs.Tryd
end
section
namespace Go.Proofs.Tryd
open Go Go.Load Go.RowKit
set_option maxHeartbeats 1000000 in
theorem traffic_any (a b : Int) (w : World) (ha : 0 ≤ a ∧ a ≤ 255) (hb : 0 ≤ b ∧ b ≤ 255) : Calls srcP 9 #[.int .u8 a, .int .u8 b] w fun e w' => e = .returned (fv (a % 13, 1 + b % 4)) ∧ Below w.heap.size w w' := by
 have hof := fun a b W => lof_any a b W
 simp only [fv] at hof ⊢
 go_enter s9, ntmps9
 go_wp2_with (go_at_call 11; (with_reducible refine (hof _ _ _).mono ?_); rintro e w1 ⟨rfl, hB1⟩; (first | (replace hB := Below.call (by with_reducible assumption) hB1 (Nat.le_refl _)) | (replace hB := Below.call (by go_grown) hB1 (Nat.le_refl _)) | (have hB := hB1)); (try clear hc hg hz); obtain ⟨hc, hg⟩ := bcell hB; have hz := hB.size; clear hB1; (try simp at hz); (try have hlt0 : w.heap.size < w1.heap.size := by omega))
 have c0 := keep_cell _ hB (new_cell w #[.int .i64 0, .int .i64 0] 23 0 (by simp))
 have c1 := keep_cell _ hB (new_cell w #[.int .i64 0, .int .i64 0] 23 1 (by simp))
 have hbB := Below.call ((Below.refl _ w).alloc (Nat.le_refl _) (.cells #[.int .i64 0, .int .i64 0] 23)) hB (Nat.le_refl _)
 exact ret_box2 results9 src_agg23 src_size23 rfl c0 c1 ⟨rfl, (hbB.setCell (Nat.le_refl _) _).setCell (Nat.le_refl _) _⟩
set_option maxHeartbeats 1000000 in
theorem limit_any (a b : Int) (w : World) (ha : 0 ≤ a ∧ a ≤ 255) (hb : 0 ≤ b ∧ b ≤ 255) : Calls srcP 20 #[.int .u8 a, .int .u8 b] w fun e w' => e = .returned (fv (a % (1 + b % 100 + 1), 1 + b % 100)) ∧ Below w.heap.size w w' := by
 have hof := fun a b W => lof_any a b W
 simp only [fv] at hof ⊢
 have hz : (1 + b % 100 + 1 == 0) = false := by rw [beq_eq_false_iff_ne]; omega
 go_enter s20, ntmps20
 go_wp2_with (go_at_call 11; (with_reducible refine (hof _ _ _).mono ?_); rintro e w1 ⟨rfl, hB1⟩; (first | (replace hB := Below.call (by with_reducible assumption) hB1 (Nat.le_refl _)) | (replace hB := Below.call (by go_grown) hB1 (Nat.le_refl _)) | (have hB := hB1)); (try clear hc hg hz); obtain ⟨hc, hg⟩ := bcell hB; have hz := hB.size; clear hB1; (try simp at hz); (try have hlt0 : w.heap.size < w1.heap.size := by omega))
 have c0 := keep_cell _ hB (new_cell w #[.int .i64 0, .int .i64 0] 23 0 (by simp))
 have c1 := keep_cell _ hB (new_cell w #[.int .i64 0, .int .i64 0] 23 1 (by simp))
 have hbB := Below.call ((Below.refl _ w).alloc (Nat.le_refl _) (.cells #[.int .i64 0, .int .i64 0] 23)) hB (Nat.le_refl _)
 exact ret_box2 results20 src_agg23 src_size23 rfl c0 c1 ⟨rfl, (hbB.setCell (Nat.le_refl _) _).setCell (Nat.le_refl _) _⟩
end Go.Proofs.Tryd
end
section
namespace Go.Proofs.Tryd
open Go Go.Load Go.RowKit
def redN (a b : Nat) : Int × Int := (((a / Nat.gcd a b : Nat) : Int), ((b / Nat.gcd a b : Nat) : Int))
set_option maxHeartbeats 1000000 in
theorem Reduced_any (a b : Nat) (w : World) (ha : a < 4611686018427387904) (hb : 1 ≤ b ∧ b < 4611686018427387904) : Calls srcP 13 #[.int .i64 a, .int .i64 b] w fun e w' => e = .returned (fv (redN a b)) ∧ Below w.heap.size w w' := by
 have HG : Hid (1 ≤ Nat.gcd a b) := Lib.hid (Nat.gcd_pos_of_pos_right _ hb.1)
 simp only [fv]
 go_enter s13, ntmps13
 go_wp2
 go_loopw [5, 6] (fun p q wr => ∃ u v : Nat, p = .int .i64 u ∧ q = .int .i64 v ∧ u < 4611686018427387904 ∧ v < 4611686018427387904 ∧ Hid (Nat.gcd u v = Nat.gcd a b) ∧ Below w.heap.size w wr ∧ wr.cell? ⟨w.heap.size, 0, none⟩ = some (.int .i64 0) ∧ wr.cell? ⟨w.heap.size, 1, none⟩ = some (.int .i64 0) ∧ wr.frozen? ⟨w.heap.size, 0, none⟩ = false ∧ wr.frozen? ⟨w.heap.size, 1, none⟩ = false) (fun _ q _ => (intOf q).toNat)
 case atStart => exact ⟨a, b, rfl, rfl, ha, hb.2, Lib.hid rfl, by go_grown, by go_cell, by go_cell, by go_cell, by go_cell⟩
 case round =>
  obtain ⟨u, v, rfl, rfl, hu, hv, HUV, hBr, c0, c1, f0, f1⟩ := hrel
  have hu0 : (0 : Int) ≤ (u : Int) := Int.natCast_nonneg u
  have hv0 : (0 : Int) ≤ (v : Int) := Int.natCast_nonneg v
  by_cases h : 0 < v
  ·have h1 : (0 : Int) < (v : Int) := by omega
   have h2 : ((v : Int) == 0) = false := by rw [beq_eq_false_iff_ne]; omega
   go_wp2
   go_region
   go_wp2
   go_roundw
   case rel => exact ⟨v, u % v, rfl, by rw [Int.natCast_emod], hv, Nat.lt_of_lt_of_le (Nat.mod_lt _ h) (by omega), Lib.hid (by rw [← HUV.out, Nat.gcd_comm v, ← Nat.gcd_rec, Nat.gcd_comm]), hBr.drew, c0, c1, f0, f1⟩
   case measure =>
    have := Nat.mod_lt u h
    have e : ((u : Int) % (v : Int)) = ((u % v : Nat) : Int) := (Int.natCast_emod u v).symm
    show ((u : Int) % (v : Int)).toNat < (v : Int).toNat
    rw [e, Int.toNat_natCast, Int.toNat_natCast]; exact this
  ·obtain rfl : v = 0 := by omega
   have hg : u = Nat.gcd a b := by rw [← HUV.out]; simp
   have hu1 : (1 : Int) ≤ (u : Int) := by have := HG.out; omega
   have hu2 : ((u : Int) == 0) = false := by rw [beq_eq_false_iff_ne]; omega
   have q0 := Int.ediv_nonneg (show (0 : Int) ≤ (a : Int) by omega) (show (0 : Int) ≤ (u : Int) by omega)
   have q1 := Int.ediv_le_self (u : Int) (show (0 : Int) ≤ (a : Int) by omega)
   have q2 := Int.ediv_nonneg (show (0 : Int) ≤ (b : Int) by omega) (show (0 : Int) ≤ (u : Int) by omega)
   have q3 := Int.ediv_le_self (u : Int) (show (0 : Int) ≤ (b : Int) by omega)
   have e1 : (redN a b).1 = (a : Int) / (u : Int) := by rw [hg]; simp [redN]
   have e2 : (redN a b).2 = (b : Int) / (u : Int) := by rw [hg]; simp [redN]
   have E1 := Lib.hid e1
   have E2 := Lib.hid e2
   have HQ := Lib.hid hg
   clear e1 e2
   clear hg
   go_wp2
   go_region
   go_wp2
   exact ret_box2 (w1 := wr.drew) (b := w.heap.size) (v0 := .int .i64 ((a : Int) / (u : Int))) (v1 := .int .i64 ((b : Int) / (u : Int))) results13 src_agg23 src_size23 rfl c0 c1 ⟨by rw [E1.out, E2.out], (hBr.drew.setCell (Nat.le_refl _) _).setCell (Nat.le_refl _) _⟩
end Go.Proofs.Tryd
end
section
namespace Go.Proofs.Tryd
open Go Go.Load Go.RowKit
def fairN (x : Int × Int) : Bool := x == redN x.1.toNat x.2.toNat
abbrev FS (w : World) (x : Int × Int) (X : World) : Prop := X.cell? ⟨w.heap.size, 0, none⟩ = some (.int .i64 x.1) ∧ X.cell? ⟨w.heap.size, 1, none⟩ = some (.int .i64 x.2) ∧ Below w.heap.size w X ∧ w.heap.size ≤ X.heap.size
theorem FS.call {w X Y : World} {x : Int × Int} (h : FS w x X) (hB : Below X.heap.size X Y) : FS w x Y :=
 ⟨keep_cell _ hB h.1, keep_cell _ hB h.2.1, Below.call h.2.2.1 hB (Nat.le_refl _), Nat.le_trans h.2.2.2 hB.size⟩
set_option maxHeartbeats 4000000 in
set_option maxRecDepth 100000 in
theorem fair_any (x : Int × Int) (w : World) (h1 : 0 ≤ x.1) (h2 : 0 < x.2) (h3 : x.1 < 4611686018427387904) (h4 : x.2 < 4611686018427387904) :
 Calls srcP 12 #[fv x] w fun e w' => e = .returned (.bool (fairN x)) ∧ Below w.heap.size w w' := by
 have hr := fun W => Reduced_any x.1.toNat x.2.toNat W (by omega) (by omega)
 rw [Int.toNat_of_nonneg h1, Int.toNat_of_nonneg (Int.le_of_lt h2)] at hr
 have hF : fairN x = (x.1 == (redN x.1.toNat x.2.toNat).1 && x.2 == (redN x.1.toNat x.2.toNat).2) := rfl
 rw [hF]
 clear hF
 generalize redN x.1.toNat x.2.toNat = r at hr ⊢
 obtain ⟨a, b⟩ := x
 simp only [fv] at *
 go_enter s12, ntmps12
 go_wp2_with fail
 go_region_held3 (FS w (a, b)) (first | exact ⟨by go_cell, by go_cell, by go_grown, by simp⟩ | exact FS.call ‹_› hB) (first | (go_at_call 13; refine (hr _).mono ?_; rintro e wx ⟨rfl, hB⟩))
 all_goals (rename_i hH; go_wp2; go_ret; exact ⟨rfl, hH.2.2.1⟩)
end Go.Proofs.Tryd
end
section
namespace Go.Proofs.Tryd
open Go Go.Load Go.RowKit
structure KSt (w W : World) (l : List (Addr × Value)) : Prop where
 cs : ∀ p ∈ l, W.cell? p.1 = some p.2
 gl : Globs W
 bw : Below w.heap.size w W
section
variable {w W w1 : World} {l : List (Addr × Value)}
theorem KSt.call (h : KSt w W l) (hB : Below W.heap.size W w1) : KSt w w1 l := ⟨fun p hp => keep_cell _ hB (h.cs p hp), h.gl.keep hB, Below.call h.bw hB (Nat.le_refl _)⟩
theorem KSt.cell (h : KSt w W l) (p : Addr × Value) (hp : p ∈ l) : W.cell? p.1 = some p.2 := h.cs p hp
theorem KSt.box2 (h : KSt w W l) (x y : Value) (t : TypeId) : KSt w (W.alloc (.cells #[x, y] t)) ((⟨W.heap.size, 0, none⟩, x) :: (⟨W.heap.size, 1, none⟩, y) :: l) := by
 have hB : Below W.heap.size W (W.alloc (.cells #[x, y] t)) := (Below.refl _ W).alloc (Nat.le_refl _) _
 have h' := h.call hB
 refine ⟨fun p hp => ?_, h'.gl, h'.bw⟩
 rcases List.mem_cons.1 hp with rfl | hp
 ·exact new_cell W #[x, y] t 0 (by simp)
 rcases List.mem_cons.1 hp with rfl | hp
 ·exact new_cell W #[x, y] t 1 (by simp)
 ·exact h'.cs p hp
end
abbrev RS4 (W : World) (x1 x2 x3 x4 : Nat) (a b c d : Int × Int) (X : World) : Prop :=
 X.cell? ⟨x1, 0, none⟩ = some (.int .i64 a.1) ∧ X.cell? ⟨x1, 1, none⟩ = some (.int .i64 a.2) ∧ X.cell? ⟨x2, 0, none⟩ = some (.int .i64 b.1) ∧ X.cell? ⟨x2, 1, none⟩ = some (.int .i64 b.2) ∧ X.cell? ⟨x3, 0, none⟩ = some (.int .i64 c.1) ∧ X.cell? ⟨x3, 1, none⟩ = some (.int .i64 c.2) ∧
 X.cell? ⟨x4, 0, none⟩ = some (.int .i64 d.1) ∧ X.cell? ⟨x4, 1, none⟩ = some (.int .i64 d.2) ∧ Below W.heap.size W X
theorem RS4.call {W X Y : World} {x1 x2 x3 x4 : Nat} {a b c d : Int × Int} (h : RS4 W x1 x2 x3 x4 a b c d X) (hB : Below X.heap.size X Y) : RS4 W x1 x2 x3 x4 a b c d Y := by
 obtain ⟨a0, a1, b0, b1, c0, c1, d0, d1, hW⟩ := h
 exact ⟨keep_cell _ hB a0, keep_cell _ hB a1, keep_cell _ hB b0, keep_cell _ hB b1, keep_cell _ hB c0, keep_cell _ hB c1, keep_cell _ hB d0, keep_cell _ hB d1, Below.call hW hB (Nat.le_refl _)⟩
theorem RS4.drew {W X : World} {x1 x2 x3 x4 : Nat} {a b c d : Int × Int} (h : RS4 W x1 x2 x3 x4 a b c d X) : RS4 W x1 x2 x3 x4 a b c d X.drew := by
 obtain ⟨a0, a1, b0, b1, c0, c1, d0, d1, hW⟩ := h
 exact ⟨a0, a1, b0, b1, c0, c1, d0, d1, ⟨hW.os, hW.tape, hW.output, hW.size, hW.block⟩⟩
theorem RS4.bel {W X : World} {x1 x2 x3 x4 : Nat} {a b c d : Int × Int} (h : RS4 W x1 x2 x3 x4 a b c d X) : Below W.heap.size W X := h.2.2.2.2.2.2.2.2
abbrev RS1 (W : World) (x1 : Nat) (a : Int × Int) (X : World) : Prop := X.cell? ⟨x1, 0, none⟩ = some (.int .i64 a.1) ∧ X.cell? ⟨x1, 1, none⟩ = some (.int .i64 a.2) ∧ Below W.heap.size W X
theorem RS1.call {W X Y : World} {x1 : Nat} {a : Int × Int} (h : RS1 W x1 a X) (hB : Below X.heap.size X Y) : RS1 W x1 a Y := ⟨keep_cell _ hB h.1, keep_cell _ hB h.2.1, Below.call h.2.2 hB (Nat.le_refl _)⟩
theorem RS1.drew {W X : World} {x1 : Nat} {a : Int × Int} (h : RS1 W x1 a X) : RS1 W x1 a X.drew := ⟨h.1, h.2.1, ⟨h.2.2.os, h.2.2.tape, h.2.2.output, h.2.2.size, h.2.2.block⟩⟩
theorem RS1.bel {W X : World} {x1 : Nat} {a : Int × Int} (h : RS1 W x1 a X) : Below W.heap.size W X := h.2.2
theorem RS1.alloc {W X : World} {x1 : Nat} {a : Int × Int} (h : RS1 W x1 a X) (o : Obj) : RS1 W x1 a (X.alloc o) := h.call ((Below.refl _ X).alloc (Nat.le_refl _) _)
theorem KSt.drew {w W : World} {l : List (Addr × Value)} (h : KSt w W l) : KSt w W.drew l := h.call (Below.refl _ W).drew
theorem RS1.set {W X : World} {x1 b i : Nat} {a : Int × Int} (h : RS1 W x1 a X) (hx : x1 < W.heap.size) (hb : W.heap.size ≤ b) (v : Value) : RS1 W x1 a (X.setCell ⟨b, i, none⟩ v) :=
 ⟨cell_other (by simp <;> omega) h.1, cell_other (by simp <;> omega) h.2.1, h.2.2.setCell hb _⟩
theorem KSt.set2 {w W X : World} {l : List (Addr × Value)} (h : KSt w W l) (hB : Below W.heap.size W X) {u0 u1 : Value} (c0 : X.cell? ⟨W.heap.size, 0, none⟩ = some u0) (c1 : X.cell? ⟨W.heap.size, 1, none⟩ = some u1) (x y : Value) :
 KSt w ((X.setCell ⟨W.heap.size, 0, none⟩ x).setCell ⟨W.heap.size, 1, none⟩ y) ((⟨W.heap.size, 0, none⟩, x) :: (⟨W.heap.size, 1, none⟩, y) :: l) := by
 have h' := h.call ((hB.setCell (p := ⟨W.heap.size, 0, none⟩) (Nat.le_refl _) x).setCell (p := ⟨W.heap.size, 1, none⟩) (Nat.le_refl _) y)
 refine ⟨fun p hp => ?_, h'.gl, h'.bw⟩
 rcases List.mem_cons.1 hp with rfl | hp
 ·exact cell_other (by simp) (cell_same (is_some c0))
 rcases List.mem_cons.1 hp with rfl | hp
 ·exact cell_same (some_set (is_some c1))
 ·exact h'.cs p hp
theorem of_all_range {f : Nat → Bool} {n i : Nat} (h : ((List.range n).all f) = true) (hi : i < n) : f i = true := List.all_eq_true.1 h i (List.mem_range.2 hi)
theorem asz (w : World) (o : Obj) : (w.alloc o).heap.size = w.heap.size + 1 := by show (w.heap.push o).size = _; simp
theorem In_yes (a b c : Int) (w : World) (h : b ≤ a ∧ a ≤ c) : Calls srcP 22 #[.int .i64 a, .int .i64 b, .int .i64 c] w fun e w' => e = .returned (.bool true) ∧ w = w' := by
 have h1 : decide (b ≤ a) = true := decide_eq_true h.1
 have h2 : decide (a ≤ c) = true := decide_eq_true h.2
 go_enter s22, ntmps22
 go_wp2
 go_ret
 exact ⟨by simp [h.2], rfl⟩
end Go.Proofs.Tryd
end
section
namespace Go.Proofs.Tryd
open Go Go.Load Go.RowKit
def IntsAt (w : World) (v : Value) (L : List Int) : Prop := ∃ a c, v = .slice a L.length c ∧ (1 ≤ L.length → ∃ b, a = some ⟨b, 0, none⟩ ∧ ∀ i x, L[i]? = some x → w.cell? ⟨b, i, none⟩ = some (.int .i64 x))
theorem IntsAt.keep {w w1 : World} {v : Value} {L : List Int} (h : IntsAt w v L) (hB : Below w.heap.size w w1) : IntsAt w1 v L := by
 obtain ⟨a, c, e, f⟩ := h
 exact ⟨a, c, e, fun hl => let ⟨b, e1, e2⟩ := f hl; ⟨b, e1, fun i x hx => keep_cell _ hB (e2 i x hx)⟩⟩
def lexN : List Int → List Int → Bool
 | [], [] => false
 | [], _ :: _ => true
 | _ :: _, [] => false
 | a :: A, b :: B => if a ≠ b then decide (a < b) else lexN A B
theorem lexN_both : ∀ A B : List Int, (!lexN A B && !lexN B A) = decide (A = B)
 | [], [] => rfl
 | [], _ :: _ => rfl
 | _ :: _, [] => rfl
 | a :: A, b :: B => by
   simp only [lexN]
   by_cases e : a = b
   ·subst e
    simp only [ne_eq, not_true_eq_false, if_false, lexN_both A B]
    simp
   ·have e' : b ≠ a := Ne.symm e
    simp only [ne_eq, e, e', not_false_eq_true, if_true]
    have h1 : (a :: A = b :: B) ↔ False := by simp [e]
    rw [decide_eq_false (by simp [e] : ¬ (a :: A = b :: B))]
    rcases Int.lt_or_gt_of_ne e with h | h
    ·rw [decide_eq_true h]; rfl
    ·rw [decide_eq_true (show b < a from h)]; simp
theorem lexN_drop {A B : List Int} {k : Nat} {a b : Int} (ha : A[k]? = some a) (hb : B[k]? = some b) : lexN (A.drop k) (B.drop k) = if a ≠ b then decide (a < b) else lexN (A.drop (k + 1)) (B.drop (k + 1)) := by
 obtain ⟨h1, rfl⟩ := List.getElem?_eq_some_iff.1 ha
 obtain ⟨h2, rfl⟩ := List.getElem?_eq_some_iff.1 hb
 rw [List.drop_eq_getElem_cons h1, List.drop_eq_getElem_cons h2]
 rfl
theorem lexN_end {A B : List Int} {k : Nat} (h : A.length ≤ k ∨ B.length ≤ k) (hk1 : k ≤ A.length) (hk2 : k ≤ B.length) : lexN (A.drop k) (B.drop k) = decide (A.length < B.length) := by
 by_cases h1 : A.length ≤ k
 ·rw [List.drop_eq_nil_of_le h1]
  by_cases h2 : B.length ≤ k
  ·rw [List.drop_eq_nil_of_le h2, decide_eq_false (by omega)]; rfl
  ·rw [List.drop_eq_getElem_cons (show k < B.length by omega), decide_eq_true (by omega)]; rfl
 ·rw [List.drop_eq_getElem_cons (show k < A.length by omega), List.drop_eq_nil_of_le (show B.length ≤ k by omega), decide_eq_false (by omega)]; rfl
set_option maxHeartbeats 2000000 in
set_option maxRecDepth 100000 in
theorem Lesser_any (va vb : Value) (A B : List Int) (w : World) (hA : IntsAt w va A) (hB : IntsAt w vb B) (h1 : A.length ≤ 100) (h2 : B.length ≤ 100) : Calls srcP 101 #[va, vb] w fun e w' => e = .returned (.bool (lexN A B)) ∧ Below w.heap.size w w' := by
 obtain ⟨aa, ca, rfl, ha⟩ := hA
 obtain ⟨ab, cb, rfl, hb⟩ := hB
 have HA := Lib.hid ha
 have HB := Lib.hid hb
 have HD := Lib.hid fun (k : Nat) (a b : Int) (ha : A[k]? = some a) (hb : B[k]? = some b) => lexN_drop ha hb
 have HE := Lib.hid fun (k : Nat) (h : A.length ≤ k ∨ B.length ≤ k) (hk1 : k ≤ A.length) (hk2 : k ≤ B.length) => lexN_end h hk1 hk2
 have H0 : Hid (lexN A B = lexN (A.drop 0) (B.drop 0)) := Lib.hid rfl
 clear ha hb
 go_enter s101, ntmps101
 go_wp2
 go_loopw [5] (fun i wr => ∃ k : Nat, i = .int .i64 k ∧ k ≤ A.length ∧ k ≤ B.length ∧ Below w.heap.size w wr ∧ Hid (lexN A B = lexN (A.drop k) (B.drop k))) (fun i _ => A.length - (intOf i).toNat)
 case atStart => exact ⟨0, rfl, by omega, by omega, .refl _ _, H0⟩
 case round =>
  obtain ⟨k, rfl, hk1, hk2, hBr, HL⟩ := hrel
  have hk0 : (0 : Int) ≤ (k : Int) := Int.natCast_nonneg k
  by_cases hlt : k < A.length ∧ k < B.length
  ·obtain ⟨l1, l2⟩ := hlt
   obtain ⟨a, ha⟩ : ∃ a, A[k]? = some a := ⟨A[k], by simp [l1]⟩
   obtain ⟨b, hb⟩ : ∃ b, B[k]? = some b := ⟨B[k], by simp [l2]⟩
   obtain ⟨ba, rfl, ra⟩ := HA.out (by omega)
   obtain ⟨bb, rfl, rb⟩ := HB.out (by omega)
   have c0 := keep_cell _ hBr (ra k a ha)
   have c1 := keep_cell _ hBr (rb k b hb)
   have hd := Lib.hid (HD.out k a b ha hb)
   have i1 : (k : Int) < (A.length : Int) := by omega
   have i2 : (k : Int) < (B.length : Int) := by omega
   clear ra rb ha hb
   by_cases e : a = b
   ·subst e
    go_wp2
    go_quiet (fail)
    go_wp2
    go_roundw
    case rel => exact ⟨k + 1, rfl, by omega, by omega, below_drewN hBr _, Lib.hid (HL.out.trans (by rw [hd.out, if_neg (by simp)]))⟩
    case measure => simp [intOf]; omega
   ·have hab : (a == b) = false := by simp [e]
    have hab' : (a != b) = true := by simp [e]
    have hL : Hid (lexN A B = decide (a < b)) := Lib.hid (HL.out.trans (by rw [hd.out, if_pos e]))
    clear e
    go_wp2
    go_quiet (fail)
    go_wp2
    go_quiet (fail)
    go_wp2
    go_ret
    exact ⟨by rw [hL.out]; rfl, below_drewN (below_drewN hBr _) _⟩
  ·have hE := Lib.hid (HL.out.trans (HE.out k (by omega) hk1 hk2))
   by_cases l1 : k < A.length
   ·have i1 : (k : Int) < (A.length : Int) := by omega
    have i2 : ¬ (k : Int) < (B.length : Int) := by omega
    go_wp2
    go_ret
    refine ⟨?_, hBr⟩
    rw [hE.out]; simp
   ·have i1 : ¬ (k : Int) < (A.length : Int) := by omega
    go_wp2
    go_ret
    refine ⟨?_, hBr⟩
    rw [hE.out]; simp
set_option maxHeartbeats 1000000 in
theorem SameNums_any (va vb : Value) (A B : List Int) (w : World) (hA : IntsAt w va A) (hB : IntsAt w vb B) (h1 : A.length ≤ 100) (h2 : B.length ≤ 100) : Calls srcP 74 #[va, vb] w fun e w' => e = .returned (.bool (decide (A = B))) ∧ Below w.heap.size w w' := by
 have hl1 := fun W (h : Below w.heap.size w W) => Lesser_any va vb A B W (hA.keep h) (hB.keep h) h1 h2
 have hl2 := fun W (h : Below w.heap.size w W) => Lesser_any vb va B A W (hB.keep h) (hA.keep h) h2 h1
 have hb := Lib.hid (lexN_both A B)
 obtain ⟨aa, ca, rfl, _⟩ := hA
 obtain ⟨ab, cb, rfl, _⟩ := hB
 cases h3 : lexN A B with
 | true =>
   simp only [h3] at hl1 hb
   go_enter s74, ntmps74
   go_wp2_with (go_at_call 101; refine (hl1 _ (by go_grown)).mono ?_; rintro e w1 ⟨rfl, hB1⟩)
   go_ret
   exact ⟨by rw [← hb.out]; rfl, hB1⟩
 | false =>
   simp only [h3] at hl1 hb
   go_enter s74, ntmps74
   go_wp2_with (first | (go_at_call 101; (with_reducible refine (hl1 _ (.refl _ _)).mono ?_); rintro e w1 ⟨rfl, hB1⟩) | (go_at_call 101; (with_reducible refine (hl2 _ (by assumption)).mono ?_); rintro e w2 ⟨rfl, hB2⟩))
   go_ret
   exact ⟨by rw [← hb.out]; rfl, Below.call hB1 hB2 (Nat.le_refl _)⟩
theorem nums_any (va vb : Value) (A B : List Int) (w : World) (hA : IntsAt w va A) (hB : IntsAt w vb B) (h1 : A.length ≤ 100) (h2 : B.length ≤ 100) : Calls srcP 39 #[va, vb] w fun e w' => e = .returned (.bool (decide (A = B))) ∧ Below w.heap.size w w' := by
 have hs := SameNums_any va vb A B w hA hB h1 h2
 obtain ⟨aa, ca, rfl, _⟩ := hA
 obtain ⟨ab, cb, rfl, _⟩ := hB
 go_enter s39, ntmps39
 go_wp2_with (go_at_call 74; refine hs.mono ?_; rintro e w1 ⟨rfl, hB1⟩)
 go_ret
 exact ⟨rfl, hB1⟩
theorem ints_of_slice {base : Nat} {W : World} {v : Value} {L : List Int} (h : SliceOf base W v L) : IntsAt W v L := by
 have hform : ∃ a c, v = .slice a L.length c := by
  obtain ⟨_, ⟨h1, h2⟩ | ⟨g, cap, cur, rfl, _⟩⟩ := h
  ·exact ⟨none, 0, by rw [h1]; simp_all⟩
  ·exact ⟨_, _, rfl⟩
 obtain ⟨a, c, rfl⟩ := hform
 refine ⟨a, c, rfl, fun hl => ?_⟩
 cases a with
 | none =>
   obtain ⟨_, ⟨h1, h2⟩ | ⟨g, cap, cur, e, _⟩⟩ := h
   ·exact absurd h2 (by omega)
   ·cases e
 | some ad =>
   obtain ⟨_, ⟨h1, h2⟩ | ⟨g, cap, cur, e, hb, hg, hn, _, hs, ht⟩⟩ := h
   ·cases h1
   ·obtain rfl : ad = ⟨g, 0, none⟩ := by injection e with e1; exact Option.some.inj e1
    refine ⟨g, rfl, fun i x hx => ?_⟩
    have hx' : (L.map (Value.int .i64))[i]? = some (.int .i64 x) := by rw [List.getElem?_map, hx]; rfl
    rw [← ht, List.getElem?_take] at hx'
    split at hx'
    ·have hu : cur[i]? = some (.int .i64 x) := by simpa using hx'
     unfold World.cell?; rw [hg]; simp [hu]
    ·cases hx'
end Go.Proofs.Tryd
end
section
namespace Go.Proofs.Tryd
open Go Go.Load Go.RowKit
def hourN (g : Grp) (j k : Nat) : Int × Int := if j < k then (match g.traffic[j]? with | some x => lostN (low x.1 x.2) g.trunks.toNat | none => (0, 0)) else (0, 0)
theorem src_agg113 (w : World) : (isAgg 113).run srcP w = .ok true w := (src_isAgg _ _).trans (Tryd.isAgg113 w)
theorem src_size113 (w : World) : (Go.sizeOf 113).run srcP w = .ok 6 w := (src_sizeOf _ _).trans (Tryd.sizeOf113 w)
theorem hourN_other {g : Grp} {j k : Nat} (h : j ≠ k) : hourN g j (k + 1) = hourN g j k := by
 unfold hourN
 by_cases a : j < k
 ·rw [if_pos a, if_pos (by omega)]
 ·rw [if_neg a, if_neg (by omega)]
theorem hourN_this {g : Grp} {k : Nat} {x : Int × Int} (h : g.traffic[k]? = some x) : hourN g k (k + 1) = lostN (low x.1 x.2) g.trunks.toNat := by
 unfold hourN; rw [if_pos (by omega), h]
theorem hourN_end {g : Grp} {j : Nat} (h : g.traffic.length ≤ 3) : hourN g j 3 = hourN g j g.traffic.length := by
 unfold hourN
 by_cases a : j < g.traffic.length
 ·rw [if_pos a, if_pos (by omega)]
 ·rw [if_neg a, List.getElem?_eq_none (by omega)]; split <;> rfl
def hv (f : Nat → Int × Int) : Value := .agg #[.int .i64 (f 0).1, .int .i64 (f 0).2, .int .i64 (f 1).1, .int .i64 (f 1).2, .int .i64 (f 2).1, .int .i64 (f 2).2]
def ArrAt (W : World) (ab : Nat) (f : Nat → Int × Int) : Prop := ∀ j, j < 3 → W.cell? ⟨ab, j * 2, none⟩ = some (.int .i64 (f j).1) ∧ W.cell? ⟨ab, j * 2 + 1, none⟩ = some (.int .i64 (f j).2) ∧ W.frozen? ⟨ab, j * 2, none⟩ = false ∧ W.frozen? ⟨ab, j * 2 + 1, none⟩ = false
theorem ArrAt.keep {W w1 : World} {ab : Nat} {f : Nat → Int × Int} (h : ArrAt W ab f) (hB : Below W.heap.size W w1) : ArrAt w1 ab f := fun j hj =>
 let ⟨a, b, c, d⟩ := h j hj
 ⟨keep_cell _ hB a, keep_cell _ hB b, keep_frozen _ hB a c, keep_frozen _ hB b d⟩
theorem ArrAt.set {W : World} {ab k : Nat} {f g : Nat → Int × Int} (h : ArrAt W ab f) (hk : k < 3) (hg : ∀ j, j ≠ k → g j = f j) :
 ArrAt ((W.setCell ⟨ab, k * 2, none⟩ (.int .i64 (g k).1)).setCell ⟨ab, k * 2 + 1, none⟩ (.int .i64 (g k).2)) ab g := fun j hj => by
 obtain ⟨a, b, c, d⟩ := h j hj
 refine ⟨?_, ?_, by simpa using c, by simpa using d⟩
 ·by_cases e : j = k
  ·subst e; exact cell_other (by simp) (cell_same (is_some a))
  ·rw [hg j e]; exact cell_other (by simp <;> omega) (cell_other (by simp <;> omega) a)
 ·by_cases e : j = k
  ·subst e; exact cell_same (some_set (is_some b))
  ·rw [hg j e]; exact cell_other (by simp <;> omega) (cell_other (by simp <;> omega) b)
structure But2 (W0 : World) (ab k : Nat) (W : World) : Prop where
 size : W0.heap.size ≤ W.heap.size
 cell : ∀ p v, W0.cell? p = some v → p ≠ ⟨ab, k * 2, none⟩ → p ≠ ⟨ab, k * 2 + 1, none⟩ → W.cell? p = some v
 fz : ∀ p v, W0.cell? p = some v → W0.frozen? p = false → W.frozen? p = false
 there : ∀ p v, W0.cell? p = some v → (W.cell? p).isSome = true
theorem But2.refl (W0 : World) (ab k : Nat) : But2 W0 ab k W0 := ⟨Nat.le_refl _, fun _ _ h _ _ => h, fun _ _ _ h => h, fun _ _ h => is_some h⟩
theorem But2.call {W0 W w1 : World} {ab k : Nat} (h : But2 W0 ab k W) (hB : Below W.heap.size W w1) : But2 W0 ab k w1 :=
 ⟨Nat.le_trans h.size hB.size, fun p v a b c => keep_cell _ hB (h.cell p v a b c), fun p v a b => by
   obtain ⟨u, hu⟩ := Option.isSome_iff_exists.1 (h.there p v a)
   exact keep_frozen _ hB hu (h.fz p v a b), fun p v a => by
   obtain ⟨u, hu⟩ := Option.isSome_iff_exists.1 (h.there p v a)
   exact is_some (keep_cell _ hB hu)⟩
theorem But2.put {W0 W : World} {ab k : Nat} (u v : Value) (h : But2 W0 ab k W) : But2 W0 ab k ((W.setCell ⟨ab, k * 2, none⟩ u).setCell ⟨ab, k * 2 + 1, none⟩ v) :=
 ⟨by simpa using h.size, fun p x a b c => cell_other (Ne.symm c) (cell_other (Ne.symm b) (h.cell p x a b c)), fun p x a b => by simpa using h.fz p x a b, fun p x a => some_set (some_set (h.there p x a))⟩
abbrev HoursS (w W0 : World) (hb xb ab T : Nat) (x : Int × Int) (k : Nat) (W : World) : Prop :=
 W.cell? ⟨xb, 0, none⟩ = some (.int .i64 x.1) ∧ W.cell? ⟨xb, 1, none⟩ = some (.int .i64 x.2) ∧ W.cell? ⟨hb, 1, none⟩ = some (.int .i64 T) ∧ W.cell? ⟨ab, k * 2, none⟩ = some (atD W ⟨ab, k * 2, none⟩) ∧ W.cell? ⟨ab, k * 2 + 1, none⟩ = some (atD W ⟨ab, k * 2 + 1, none⟩) ∧
  W.frozen? ⟨ab, k * 2, none⟩ = false ∧ W.frozen? ⟨ab, k * 2 + 1, none⟩ = false ∧ Below w.heap.size w W ∧ But2 W0 ab k W
theorem HoursS.call {w W0 W w1 : World} {hb xb ab T : Nat} {x : Int × Int} {k : Nat} (h : HoursS w W0 hb xb ab T x k W) (hB : Below W.heap.size W w1) : HoursS w W0 hb xb ab T x k w1 := by
 obtain ⟨a, b, c, d, e, f, g, i, j⟩ := h
 exact ⟨keep_cell _ hB a, keep_cell _ hB b, keep_cell _ hB c, some_at (is_some (keep_cell _ hB d)), some_at (is_some (keep_cell _ hB e)), keep_frozen _ hB d f, keep_frozen _ hB e g, Below.call i hB (Nat.le_refl _), j.call hB⟩
theorem HoursS.put {w W0 W : World} {hb xb ab T : Nat} {x : Int × Int} {k : Nat} (u v : Value) (h : HoursS w W0 hb xb ab T x k W) (h1 : ab ≠ xb) (h2 : ab ≠ hb) (h3 : w.heap.size ≤ ab) : HoursS w W0 hb xb ab T x k ((W.setCell ⟨ab, k * 2, none⟩ u).setCell ⟨ab, k * 2 + 1, none⟩ v) := by
 obtain ⟨a, b, c, d, e, f, g, i, j⟩ := h
 have n1 : ∀ p q, (⟨ab, p, none⟩ : Addr) ≠ ⟨xb, q, none⟩ := fun p q h => h1 (congrArg Addr.block h)
 have n2 : ∀ p q, (⟨ab, p, none⟩ : Addr) ≠ ⟨hb, q, none⟩ := fun p q h => h2 (congrArg Addr.block h)
 exact ⟨cell_other (n1 _ _) (cell_other (n1 _ _) a), cell_other (n1 _ _) (cell_other (n1 _ _) b), cell_other (n2 _ _) (cell_other (n2 _ _) c), some_at (some_set (some_set (is_some d))), some_at (some_set (some_set (is_some e))), by simpa using f, by simpa using g, (i.setCell h3 _).setCell h3 _, j.put u v⟩
set_option maxHeartbeats 4000000 in
set_option maxRecDepth 100000 in
theorem hours_any (B : Bk) (i : Nat) (g : Grp) (hg : B.gs[i]? = some g) (w : World) (h : BookAt w B) (hG : GoodGrp B.hours g) (hh : B.hours ≤ 3) :
 Calls srcP 65 #[bv B, .int .i64 i] w fun e w' => e = .returned (hv fun j => hourN g j 3) ∧ Below w.heap.size w w' := by
 obtain ⟨hi, rfl⟩ := List.getElem?_eq_some_iff.1 hg
 obtain ⟨b, o, hga, hc⟩ := h.row (by omega)
 obtain ⟨c0, c1, c2⟩ := hc i _ hg
 have hlen := hG.len
 generalize hgg : B.gs[i] = g at *
 have hm : g ∈ B.gs := List.mem_of_getElem? hg
 have HF := Lib.hid (h.traf g hm)
 have HT := Lib.hid hG.traf
 obtain ⟨T, hT⟩ := Int.eq_ofNat_of_zero_le hG.tr0
 have hT7 : T ≤ 7 := by have := hG.tr7; omega
 rw [hT] at c1
 have HTT := Lib.hid hT
 obtain ⟨lim, gr, hr, gs, ga, gc⟩ := B
 simp only at hga hlen hh hi
 subst hga
 simp only [bv]
 have hlb : b < w.heap.size := lt_of_cell c0
 have hlb2 : b < w.heap.size + 1 := by omega
 have hlb3 : b < w.heap.size + 1 + 1 := by omega
 have hl3 : g.traffic.length ≤ 3 := by omega
 have HO := Lib.hid fun (j k : Nat) (h : j ≠ k) => hourN_other (g := g) h
 have HH := Lib.hid fun (k : Nat) (x : Int × Int) (h : g.traffic[k]? = some x) => hourN_this h
 have HE := Lib.hid fun (j : Nat) => hourN_end (g := g) (j := j) hl3
 have HZ : Hid (∀ j, hourN g j 0 = (0, 0)) := Lib.hid fun j => by simp [hourN]
 rw [hT] at HH
 obtain ⟨N, hN⟩ : ∃ N, N = hourN g := ⟨_, rfl⟩
 simp only [← hN] at HO HH HE HZ ⊢
 clear hN hT hG hc hg hgg hm h
 go_enter s65, ntmps65
 go_wp2
 obtain ⟨W, hW⟩ : ∃ W, (((w.alloc (Obj.cells #[.int .i64 lim.1, .int .i64 lim.2, .int .i64 gr, .int .i64 hr, .slice (some ⟨b, o, none⟩) gs.length gc] 86)).alloc (Obj.cells #[.int .i64 0, .int .i64 0, .int .i64 0, .int .i64 0, .int .i64 0, .int .i64 0] 113)).alloc (Obj.cells #[.int .i64 0, .int .i64 0, .int .i64 0, .int .i64 0, .int .i64 0, .int .i64 0] 113)).alloc (Obj.cells #[.string g.name, .int .i64 T, .slice g.ta g.traffic.length g.tc] 72) = W := ⟨_, rfl⟩
 have hRes : ArrAt W (w.heap.size + 1) (fun _ => (0, 0)) := fun j hj => by
  subst hW
  rcases (show j = 0 ∨ j = 1 ∨ j = 2 by omega) with rfl | rfl | rfl
  ·exact ⟨by go_cell, by go_cell, by go_cell, by go_cell⟩
  ·exact ⟨by go_cell, by go_cell, by go_cell, by go_cell⟩
  ·exact ⟨by go_cell, by go_cell, by go_cell, by go_cell⟩
 have t1 : W.cell? ⟨w.heap.size + 1 + 1 + 1, 1, none⟩ = some (.int .i64 T) := by subst hW; go_cell
 have hArr : ArrAt W (w.heap.size + 1 + 1) (fun j => N j 0) := fun j hj => by
  simp only [HZ.out]
  subst hW
  rcases (show j = 0 ∨ j = 1 ∨ j = 2 by omega) with rfl | rfl | rfl
  ·exact ⟨by go_cell, by go_cell, by go_cell, by go_cell⟩
  ·exact ⟨by go_cell, by go_cell, by go_cell, by go_cell⟩
  ·exact ⟨by go_cell, by go_cell, by go_cell, by go_cell⟩
 have hBW : Below w.heap.size w W := by subst hW; go_grown
 have hsW : W.heap.size = w.heap.size + 4 := by subst hW; simp
 rw [hW]
 clear hW
 go_loopw [18] (fun i wr => ∃ k : Nat, i = .int .i64 k ∧ k ≤ g.traffic.length ∧ Below w.heap.size w wr ∧ w.heap.size + 4 ≤ wr.heap.size ∧ wr.cell? ⟨w.heap.size + 1 + 1 + 1, 1, none⟩ = some (.int .i64 T) ∧ Hid (ArrAt wr (w.heap.size + 1 + 1) (fun j => N j k)) ∧ Hid (ArrAt wr (w.heap.size + 1) (fun _ => (0, 0)))) (fun i _ => g.traffic.length - (intOf i).toNat)
 case atStart => exact ⟨0, rfl, by omega, hBW, by omega, t1, Lib.hid hArr, Lib.hid hRes⟩
 case round =>
  clear t1 hArr hRes hBW hsW
  obtain ⟨k, rfl, hk, hBr, hsz, t1, HArr, HRes⟩ := hrel
  have s1 : w.heap.size + 1 < wr.heap.size := by omega
  have s2 : w.heap.size + 1 + 1 < wr.heap.size := by omega
  have s3 : w.heap.size + 1 + 1 + 1 < wr.heap.size := by omega
  by_cases hlt : k < g.traffic.length
  ·obtain ⟨x, hx⟩ : ∃ x, g.traffic[k]? = some x := ⟨g.traffic[k], by simp [hlt]⟩
   have hx2 := HT.out x (List.mem_of_getElem? hx)
   obtain ⟨tb, t0, hta, hpa⟩ := HF.out (by omega)
   have hta' := hta
   obtain ⟨e0, e1⟩ := hpa k x hx
   have e0 := keep_cell _ hBr e0
   have e1 := keep_cell _ hBr e1
   obtain ⟨a0, a1, a2, a3⟩ := HArr.out k (by omega)
   obtain ⟨k1, k2, k3, k4⟩ := low_in hx2.1.1 hx2.1.2 hx2.2.1 hx2.2.2
   have hof := fun W => of_any x W hx2.1.1 (by have := hx2.2.1; omega) (by have := hx2.1.2; omega) (by have := hx2.2.2; omega)
   have hlo := fun W => lostOf_any T (low x.1 x.2) k1 k2 k3 k4 hT7 W
   have hth := HH.out k x hx
   rw [Int.toNat_natCast] at hth
   generalize lostN (low x.1 x.2) T = r at *
   generalize low x.1 x.2 = y at *
   have HN := Lib.hid hth
   have hkk : (k : Int) < 3 := by omega
   have hk0 : (0 : Int) ≤ (k : Int) := Int.natCast_nonneg k
   simp only [fv] at hof hlo
   rw [hta]
   clear hth hx hx2 hpa k1 k2 k3 k4 hta
   have hX : HoursS w (wr.alloc (.cells #[.int .i64 x.1, .int .i64 x.2] 23)).drew (w.heap.size + 1 + 1 + 1) wr.heap.size (w.heap.size + 1 + 1) T x k (wr.alloc (.cells #[.int .i64 x.1, .int .i64 x.2] 23)).drew :=
    ⟨by go_cell, by go_cell, cell_alloc t1, some_at (is_some (cell_alloc a0)), some_at (is_some (cell_alloc a1)), frozen_alloc a0 a2, frozen_alloc a1 a3, (hBr.alloc (by omega) _).drew, .refl _ _ _⟩
   go_wp2
   go_region_held3 (fun w' => w'.cell? ⟨wr.heap.size, 0, none⟩ = some (.int .i64 x.1) ∧ w'.cell? ⟨wr.heap.size, 1, none⟩ = some (.int .i64 x.2) ∧ w'.cell? ⟨w.heap.size + 1 + 1 + 1, 1, none⟩ = some (.int .i64 T) ∧ w'.cell? ⟨w.heap.size + 1 + 1, k * 2, none⟩ = some (atD w' ⟨w.heap.size + 1 + 1, k * 2, none⟩) ∧ w'.cell? ⟨w.heap.size + 1 + 1, k * 2 + 1, none⟩ = some (atD w' ⟨w.heap.size + 1 + 1, k * 2 + 1, none⟩) ∧ w'.frozen? ⟨w.heap.size + 1 + 1, k * 2, none⟩ = false ∧ w'.frozen? ⟨w.heap.size + 1 + 1, k * 2 + 1, none⟩ = false ∧ Below w.heap.size w w' ∧ But2 (wr.alloc (.cells #[.int .i64 x.1, .int .i64 x.2] 23)).drew (w.heap.size + 1 + 1) k w')
    (first | exact hX | ((with_reducible refine HoursS.call ?_ hB); assumption) | ((with_reducible refine HoursS.put _ _ ?_ ?_ ?_ ?_); assumption; omega; omega; omega))
    (first | (go_at_call 50; refine (hof _).mono ?_; rintro e w1 ⟨rfl, hB⟩) | (go_at_call 41; refine (hlo _).mono ?_; rintro e w1 ⟨rfl, hB⟩))
   rename_i hH
   obtain ⟨_, _, _, q0, q1, q2, q3, q4, q5⟩ := hH
   go_wp2
   go_roundw
   case rel =>
    have hcells : ∀ p v, wr.cell? p = some v → p ≠ ⟨w.heap.size + 1 + 1, k * 2, none⟩ → p ≠ ⟨w.heap.size + 1 + 1, k * 2 + 1, none⟩ → _ := fun p v hp h1 h2 => q5.cell p v (cell_alloc hp) h1 h2
    refine ⟨k + 1, rfl, by omega, q4, ?_, hcells _ _ t1 (by simp) (by simp), Lib.hid fun j hj => ?_, Lib.hid fun j hj => ?_⟩
    ·have := q5.size; simp at this ⊢; omega
    ·obtain ⟨b0, b1, b2, b3⟩ := HArr.out j hj
     by_cases e : j = k
     ·subst e
      simp only [HN.out]
      refine ⟨cell_other (by simp) (cell_same (some_of_set (some_of_set (is_some q0)))), cell_same (some_of_set (is_some q1)), q2, q3⟩
     ·simp only [HO.out j k e]
      exact ⟨hcells _ _ b0 (by simp <;> omega) (by simp <;> omega), hcells _ _ b1 (by simp <;> omega) (by simp <;> omega), q5.fz _ _ (cell_alloc b0) (frozen_alloc b0 b2), q5.fz _ _ (cell_alloc b1) (frozen_alloc b1 b3)⟩
    ·obtain ⟨b0, b1, b2, b3⟩ := HRes.out j hj
     exact ⟨hcells _ _ b0 (by simp) (by simp), hcells _ _ b1 (by simp) (by simp), q5.fz _ _ (cell_alloc b0) (frozen_alloc b0 b2), q5.fz _ _ (cell_alloc b1) (frozen_alloc b1 b3)⟩
   case measure => simp [intOf]; omega
  ·obtain rfl : k = g.traffic.length := by omega
   have e0 := (HArr.out 0 (by omega)).1
   have e1 := (HArr.out 0 (by omega)).2.1
   have e2 := (HArr.out 1 (by omega)).1
   have e3 := (HArr.out 1 (by omega)).2.1
   have e4 := (HArr.out 2 (by omega)).1
   have e5 := (HArr.out 2 (by omega)).2.1
   obtain ⟨r0, r1, f0, f1⟩ := HRes.out 0 (by omega)
   obtain ⟨r2, r3, f2, f3⟩ := HRes.out 1 (by omega)
   obtain ⟨r4, r5, f4, f5⟩ := HRes.out 2 (by omega)
   simp only [Nat.zero_mul, Nat.one_mul, Nat.reduceMul, Nat.reduceAdd, Nat.zero_add] at e0 e1 e2 e3 e4 e5 r0 r1 r2 r3 r4 r5 f0 f1 f2 f3 f4 f5
   have HR : Hid (hv (fun j => N j 3) = .agg #[.int .i64 (N 0 g.traffic.length).1, .int .i64 (N 0 g.traffic.length).2, .int .i64 (N 1 g.traffic.length).1, .int .i64 (N 1 g.traffic.length).2, .int .i64 (N 2 g.traffic.length).1, .int .i64 (N 2 g.traffic.length).2]) := Lib.hid (by simp only [hv, HE.out])
   go_wp2
   exact ret_c6 results65 src_agg113 src_size113 rfl r0 r1 r2 r3 r4 r5 ⟨by rw [HR.out], Below.set6 hBr (Nat.le_succ _)⟩
end Go.Proofs.Tryd
end
