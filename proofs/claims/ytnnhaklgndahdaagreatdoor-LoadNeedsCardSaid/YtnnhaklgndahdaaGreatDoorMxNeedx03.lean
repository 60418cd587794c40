/-
  Lemmas about the program and the machine (B18 to B19), upon which the last text of this claim rests; no condition.
-/
import Derived.Deep.CutBlock
import Derived.Test.YtnnhaklgndahdaaGreatDoorMxNeedx02
import Derived.Test.YtnnhaklgndahdaaGreatDoorM20
import Derived.Test.YtnnhaklgndahdaaGreatDoorMxNeedx01
set_option linter.unusedSimpArgs false
set_option linter.unusedVariables false
namespace Go.Proofs.Tryz
open Go Go.Load Go.RowKit
theorem qfG {q l : Int × Int} (h2 : 0 < l.2) : above (low l.1 l.2) q = above l q := by
 have hg := JL (a := l.1) h2
 have d1 : (Int.gcd l.1 l.2 : Int) * (l.1 / (Int.gcd l.1 l.2 : Int)) = l.1 := Int.mul_ediv_cancel' (Int.gcd_dvd_left ..)
 have d2 : (Int.gcd l.1 l.2 : Int) * (l.2 / (Int.gcd l.1 l.2 : Int)) = l.2 := Int.mul_ediv_cancel' (Int.gcd_dvd_right ..)
 unfold above low lowT lowB
 simp only
 generalize (Int.gcd l.1 l.2 : Int) = g at *
 generalize l.1 / g = a at *
 generalize l.2 / g = b at *
 refine decide_eq_decide.2 ?_
 rw [← d1, ← d2, Int.mul_assoc, Int.mul_left_comm q.1]
 exact ⟨fun h => Int.mul_lt_mul_of_pos_left h hg, fun h => Int.lt_of_mul_lt_mul_left h (Int.le_of_lt hg)⟩
theorem qeG {x y : Int × Int} (hx : 0 < x.2) (hy : 0 < y.2) : YN x y = above x y := by
 unfold YN
 rw [qau hy, qfG hx]
theorem frac_all : ((List.range 13).all fun t => (List.range 4).all fun b => (List.range 13).all fun s => (List.range 4).all fun c => decide (s * (b + 1) < t * (c + 1)) || (List.range 8).all fun n => !above (Yv t (b + 1) n) (Yv s (c + 1) n)) = true := by decide +kernel
theorem qdG {t b s c n : Nat} (ht : t ≤ 12) (hb : 1 ≤ b ∧ b ≤ 4) (hs : s ≤ 12) (hc : 1 ≤ c ∧ c ≤ 4) (hn : n ≤ 7) (h : t * c ≤ s * b) : above (Yv t b n) (Yv s c n) = false := by
 have k := yT (yT (yT (yT frac_all (show t < 13 by omega)) (show b - 1 < 4 by omega)) (show s < 13 by omega)) (show c - 1 < 4 by omega)
 rw [show b - 1 + 1 = b by omega, show c - 1 + 1 = c by omega, Bool.or_eq_true, decide_eq_true_eq] at k
 have k := yT (k.resolve_left (by omega)) (show n < 8 by omega)
 simpa using k
theorem qdt {x y l : Int × Int} {n : Nat} (h2 : 0 < l.2) (hx : zP x) (hy : zP y) (hn : n ≤ 7) (h : above x y = false) (hb : borne y n l = true) : borne x n l = true := by
 obtain ⟨⟨x1, x2⟩, x3, x4⟩ := hx
 obtain ⟨⟨y1, y2⟩, y3, y4⟩ := hy
 obtain ⟨t, b⟩ := x
 obtain ⟨s, c⟩ := y
 simp only at x1 x2 x3 x4 y1 y2 y3 y4
 obtain ⟨t, rfl⟩ := Int.eq_ofNat_of_zero_le x1
 obtain ⟨b, rfl⟩ := Int.eq_ofNat_of_zero_le (show 0 ≤ b by omega)
 obtain ⟨s, rfl⟩ := Int.eq_ofNat_of_zero_le y1
 obtain ⟨c, rfl⟩ := Int.eq_ofNat_of_zero_le (show 0 ≤ c by omega)
 rw [Zn] at h
 simp only at h
 have hle : t * c ≤ s * b := by exact_mod_cast h
 rw [Jy h2] at *
 simp only [Bool.not_eq_true'] at *
 exact jw (Qs (by omega) ⟨by omega, by omega⟩ hn) (Qs (t := s) (b := c) (by omega) ⟨by omega, by omega⟩ hn) h2 (qdG (by omega) ⟨by omega, by omega⟩ (by omega) ⟨by omega, by omega⟩ hn hle) hb
theorem ZH {l : List (Int × Int)} (ht : ∀ x ∈ l, zP x) : ∀ k, k ≤ l.length → ∀ (j : Nat) x, j < k → l[j]? = some x → above x (l.getD (zC l k) (0, 1)) = false
 | 0, _, _, _, h, _ => absurd h (Nat.not_lt_zero _)
 | k + 1, hk, j, x, hj, hx => by
   obtain ⟨y, hy⟩ : ∃ y, l[k]? = some y := ⟨l[k]'(by omega), List.getElem?_eq_getElem _⟩
   have tx := ht x (List.mem_of_getElem? hx)
   have ty := ht y (List.mem_of_getElem? hy)
   have refl : ∀ z : Int × Int, above z z = false := fun z => by rw [Zn]; exact Int.le_refl _
   simp only [zC, xJ hy]
   by_cases h0 : k = 0
   ·subst h0
    obtain rfl : j = 0 := by omega
    rw [hx] at hy
    cases hy
    split
    ·rw [xJ hx]; exact refl _
    ·simp only [zC, xJ hx]; exact refl _
   ·have hlt := Zk l k (by omega)
    obtain ⟨z, hz⟩ : ∃ z, l[zC l k]? = some z := ⟨l[zC l k]'(by omega), List.getElem?_eq_getElem _⟩
    have tz := ht z (List.mem_of_getElem? hz)
    have px : 0 < x.2 := by have := tx.2.1; omega
    have py : 0 < y.2 := by have := ty.2.1; omega
    have pz : 0 < z.2 := by have := tz.2.1; omega
    rw [xJ hz, qeG py pz]
    split
    ·rename_i ha
     rw [xJ hy]
     rcases Nat.lt_succ_iff_lt_or_eq.1 hj with h | rfl
     ·have ih := ZH ht k (by omega) j x h hx
      rw [xJ hz] at ih
      refine jw px pz py ih ?_
      rw [Zn]
      unfold above at ha
      rw [decide_eq_true_eq] at ha
      omega
     ·rw [hx] at hy; cases hy; exact refl _
    ·rename_i ha
     rw [xJ hz]
     rcases Nat.lt_succ_iff_lt_or_eq.1 hj with h | rfl
     ·have ih := ZH ht k (by omega) j x h hx
      rwa [xJ hz] at ih
     ·rw [hx] at hy; cases hy; simpa using ha
def QO (g : Grp) : Int × Int := g.traffic.getD (zC g.traffic g.traffic.length) (0, 1)
theorem qbI {B : Bk} (hV : Valid B) {g : Grp} (hg : g ∈ B.gs) : zC g.traffic g.traffic.length < g.traffic.length ∧ g.traffic[zC g.traffic g.traffic.length]? = some (QO g) ∧ zP (QO g) := by
 have hG := hV.grp g hg
 have hh := hV.num.2.2.1
 have hl := hG.len
 have hlt := Zk g.traffic g.traffic.length (by omega)
 obtain ⟨z, hz⟩ : ∃ z, g.traffic[zC g.traffic g.traffic.length]? = some z := ⟨g.traffic[zC g.traffic g.traffic.length]'(by omega), List.getElem?_eq_getElem _⟩
 have e : QO g = z := xJ hz
 rw [e]
 exact ⟨hlt, hz, hG.traf z (List.mem_of_getElem? hz)⟩
theorem qaF {B : Bk} (hV : Valid B) {g : Grp} (hg : g ∈ B.gs) {n : Nat} (hn : n ≤ 7) : yM B g n = borne (QO g) n B.lim := by
 have hG := hV.grp g hg
 have l1 := hV.num.1.1
 obtain ⟨_, hz, hT⟩ := qbI hV hg
 unfold yM
 cases hb : borne (QO g) n B.lim with
 | true =>
   have : (g.traffic.any fun x => !borne x n B.lim) = false := by
    rw [List.any_eq_false]
    intro x hx
    obtain ⟨j, hj, rfl⟩ := List.getElem_of_mem hx
    have := ZH hG.traf g.traffic.length (Nat.le_refl _) j _ hj (List.getElem?_eq_getElem hj)
    rw [qdt (by omega) (hG.traf _ hx) hT hn this hb]
    decide
   rw [this]
   rfl
 | false =>
   have : (g.traffic.any fun x => !borne x n B.lim) = true := List.any_eq_true.2 ⟨_, List.mem_of_getElem? hz, by rw [hb]; rfl⟩
   rw [this]
   rfl
theorem Xo {B : Bk} (hV : Valid B) {g : Grp} (hg : g ∈ B.gs) : zl B g 0 = qK (QO g) B.lim 0 := by
 unfold zl qK
 rw [List.drop_zero]
 have : ∀ l : List Nat, (∀ n ∈ l, n ≤ 7) → l.find? (fun n => yM B g n) = l.find? fun n => borne (QO g) n B.lim := fun l => by
  induction l with
  | nil => intro _; rfl
  | cons x l ih =>
    intro h
    rw [List.find?_cons, List.find?_cons, qaF hV hg (h x List.mem_cons_self), ih fun n hn => h n (List.mem_cons_of_mem _ hn)]
 exact this _ fun n hn => by have := List.mem_range.1 hn; omega
theorem qaG {B : Bk} (hV : Valid B) {g : Grp} (hg : g ∈ B.gs) {n : Nat} (hn : n ≤ 7) : yM B g n = match zl B g 0 with | some k => decide (k ≤ n) | none => false := by
 obtain ⟨_, _, ⟨x1, x2⟩, x3, x4⟩ := qbI hV hg
 have l1 := hV.num.1.1
 rw [qaF hV hg hn, Xo hV hg]
 generalize QO g = x at *
 obtain ⟨t, b⟩ := x
 simp only at x1 x2 x3 x4
 obtain ⟨t, rfl⟩ := Int.eq_ofNat_of_zero_le x1
 obtain ⟨b, rfl⟩ := Int.eq_ofNat_of_zero_le (show 0 ≤ b by omega)
 exact (qdE (by omega) (by omega) ⟨by omega, by omega⟩ hn).symm
theorem need_le {B : Bk} (hV : Valid B) {g : Grp} (hg : g ∈ B.gs) {k : Nat} (h : zl B g 0 = some k) : k ≤ 7 := by
 rw [Xo hV hg] at h
 exact (YY h).1
theorem qfS (l : List Grp) (k : Nat) (t : Int) : (Yx l k t).map Grp.name = l.map Grp.name := by
 unfold Yx
 split
 ·rename_i x hx
  obtain ⟨hk, e⟩ := List.getElem?_eq_some_iff.1 hx
  refine List.ext_getElem? fun i => ?_
  rw [List.getElem?_map, List.getElem?_map]
  by_cases h : k = i
  ·subst h
   rw [List.getElem?_set_self hk, hx]
   rfl
  ·rw [List.getElem?_set_ne h]
 ·rfl
theorem qdj {l : List Grp} {k : Nat} {t : Int} {i : Nat} {g : Grp} (h : (Yx l k t)[i]? = some g) : ∃ x, l[i]? = some x ∧ (g = x ∧ i ≠ k ∨ i = k ∧ g = { x with trunks := t }) := by
 unfold Yx at h
 split at h
 ·rename_i x hx
  obtain ⟨hk, e⟩ := List.getElem?_eq_some_iff.1 hx
  by_cases hi : k = i
  ·subst hi
   rw [List.getElem?_set_self hk] at h
   cases h
   exact ⟨x, hx, .inr ⟨rfl, rfl⟩⟩
  ·rw [List.getElem?_set_ne hi] at h
   exact ⟨g, h, .inl ⟨rfl, fun e => hi e.symm⟩⟩
 ·rename_i hx
  exact ⟨g, h, .inl ⟨rfl, fun e => by subst e; rw [hx] at h; cases h⟩⟩
theorem qdy {B : Bk} (hc : checkN B = 0) {k : Nat} {t : Int} (h0 : 0 ≤ t) (h7 : t ≤ 7) : checkN { B with gs := Yx B.gs k t } = 0 := by
 have hV := qB hc
 refine check_of (B := { B with gs := Yx B.gs k t }) hV.num (by show 1 ≤ (Yx B.gs k t).length; rw [yg]; exact hV.len1) (by show (Yx B.gs k t).length ≤ 4; rw [yg]; exact hV.len4) fun i g hg => ?_
 obtain ⟨x, hx, hgx⟩ := qdj hg
 obtain ⟨hG, hN⟩ := jD (qbD hc i x hx)
 have hn : g.name = x.name := by rcases hgx with ⟨rfl, _⟩ | ⟨_, rfl⟩ <;> rfl
 refine qbT ?_ ?_
 ·rcases hgx with ⟨rfl, _⟩ | ⟨_, rfl⟩
  ·exact hG
  ·exact ⟨hG.name, h0, h7, hG.len, hG.traf⟩
 ·have any_nm : ∀ l : List Grp, (l.any fun o => o.name.toList == g.name.toList) = ((l.map Grp.name).any fun s => s.toList == g.name.toList) := fun l => by rw [List.any_map]; rfl
  show (((Yx B.gs k t).take i).any fun o => o.name.toList == g.name.toList) = false
  rw [any_nm, List.map_take, qfS, ← List.map_take, ← any_nm, hn]
  exact hN
theorem yP {B : Bk} {z : Int} : ∀ {l : List Grp} {i : Nat}, z ∈ zq B i l ↔ ∃ (j : Nat) (g : Grp), z = ((i + j : Nat) : Int) ∧ l[j]? = some g ∧ yM B g g.trunks.toNat = true
 | [], i => by simp [zq]
 | x :: l, i => by
   unfold zq
   have ih := yP (B := B) (z := z) (l := l) (i := i + 1)
   constructor
   ·intro h
    cases hx : yM B x x.trunks.toNat with
    | true =>
      rw [hx, if_pos rfl, List.mem_cons] at h
      rcases h with rfl | h
      ·exact ⟨0, x, rfl, rfl, hx⟩
      ·obtain ⟨j, g, e, hg, hf⟩ := ih.1 h
       exact ⟨j + 1, g, by rw [e]; congr 1; omega, by simpa using hg, hf⟩
    | false =>
      rw [hx, if_neg (by decide)] at h
      obtain ⟨j, g, e, hg, hf⟩ := ih.1 h
      exact ⟨j + 1, g, by rw [e]; congr 1; omega, by simpa using hg, hf⟩
   ·rintro ⟨j, g, e, hg, hf⟩
    cases j with
    | zero =>
      simp at hg
      subst hg
      rw [hf, if_pos rfl, e]
      exact List.mem_cons_self
    | succ j =>
      have := ih.2 ⟨j, g, by rw [e]; congr 1; omega, by simpa using hg, hf⟩
      split
      ·exact List.mem_cons_of_mem _ this
      ·exact this
theorem jZ (B : Bk) : ∀ (l : List Grp) (i : Nat), (zq B i l).Pairwise (· < ·)
 | [], _ => .nil
 | x :: l, i => by
   unfold zq
   split
   ·refine List.Pairwise.cons (fun z hz => ?_) (jZ B l (i + 1))
    obtain ⟨j, _, e, _⟩ := yP.1 hz
    omega
   ·exact jZ B l (i + 1)
end Go.Proofs.Tryz
section
namespace Go.Proofs.Tryz
open Go Go.Load Go.RowKit
open Go.Proofs.YtnnhaklgndahdaaGreatDoor (BookIn)
theorem s3 : qf.funcs[3]? = some f3 := by kernel_rfl
theorem qeD {B : Bk} (w : World) (h : BookAt w B) (hG : Globs w) (hfl : ∀ g ∈ B.gs, 1 ≤ g.traffic.length) (hcp : ∀ g ∈ B.gs, g.traffic.length ≤ g.tc) (hc : checkN B = 0) :
 Calls qf 7 #[bv B] w fun e w' => ∃ a c, e = .returned (.tuple #[.slice a B.gs.length c, .int .i64 0]) ∧ (∃ b, a = some ⟨b, 0, none⟩ ∧ ∀ (i : Nat) (x : Int), (jS B)[i]? = some x → w'.cell? ⟨b, i, none⟩ = some (.int .i64 x)) ∧ Below w.heap.size w w' :=
 (qcC B w h hG (qB hc).len1 hfl hcp hc).mono fun e w' k => by
   obtain ⟨v, rfl, ⟨a, c, rfl, hi⟩, hB⟩ := k
   have e : (jS B).length = B.gs.length := by simp [jS]
   have h1 := (qB hc).len1
   rw [e] at hi ⊢
   exact ⟨a, c, rfl, hi h1, hB⟩
theorem qcB {B : Bk} (w : World) (h : BookAt w B) (hG : Globs w) (hc : checkN B = 0) :
 Calls qf 8 #[bv B] w fun e w' => ∃ a c, e = .returned (.tuple #[.slice a (xh B B.gs.length).length c, .int .i64 0]) ∧ yJ w' (.slice a (xh B B.gs.length).length c) (xh B B.gs.length) ∧ Below w.heap.size w w' :=
 (Jr B w h hG).mono fun e w' k => by
   unfold QX at k
   rw [if_pos hc] at k
   obtain ⟨v, rfl, hS, hB⟩ := k
   obtain ⟨a, c, rfl, hi⟩ := xm hS
   exact ⟨a, c, rfl, ⟨a, c, rfl, hi⟩, hB⟩
theorem qcV {B : Bk} {i : Nat} {g : Grp} (hg : B.gs[i]? = some g) : hasI (xh B B.gs.length) (i : Int) = yM B g g.trunks.toNat := by
 unfold xh hasI
 rw [List.take_length]
 cases hf : yM B g g.trunks.toNat with
 | true => exact List.any_eq_true.2 ⟨(i : Int), yP.2 ⟨i, g, by rw [Nat.zero_add], hg, hf⟩, by simp⟩
 | false =>
   rw [List.any_eq_false]
   intro x hx
   simp only [beq_iff_eq]
   rintro rfl
   obtain ⟨j, g', e, hg', hf'⟩ := yP.1 hx
   obtain rfl : i = j := by omega
   rw [hg] at hg'
   cases hg'
   rw [hf] at hf'
   cases hf'
theorem qdY {B : Bk} (hV : Valid B) {i : Nat} {g : Grp} (hg : B.gs[i]? = some g) : (xZ B g = -1 ∧ zl B g 0 = none ∧ hasI (xh B B.gs.length) (i : Int) = false) ∨ ∃ n : Nat, xZ B g = (n : Int) ∧ zl B g 0 = some n ∧ n ≤ 7 ∧ hasI (xh B B.gs.length) (i : Int) = decide ((n : Int) ≤ g.trunks) := by
 have hm := List.mem_of_getElem? hg
 have hG := hV.grp g hm
 have t0 := hG.tr0
 have t7 := hG.tr7
 rw [qcV hg, qaG hV hm (show g.trunks.toNat ≤ 7 by omega)]
 unfold xZ
 cases h : zl B g 0 with
 | none => exact .inl ⟨rfl, rfl, rfl⟩
 | some n =>
   right
   refine ⟨n, rfl, rfl, need_le hV hm h, ?_⟩
   simp only
   exact decide_eq_decide.2 (by omega)
theorem qek {B : Bk} (h : B.gs.length ≤ 20 ∧ ∀ x ∈ B.gs, x.traffic.length ≤ 20 ∧ x.name.size ≤ 100) (k : Nat) (t : Int) : (Yx B.gs k t).length ≤ 20 ∧ ∀ x ∈ Yx B.gs k t, x.traffic.length ≤ 20 ∧ x.name.size ≤ 100 := by
 refine ⟨by rw [yg]; exact h.1, fun x hx => ?_⟩
 obtain ⟨i, hi, rfl⟩ := List.getElem_of_mem hx
 obtain ⟨y, hy, hxy⟩ := qdj (List.getElem?_eq_getElem hi)
 have := h.2 y (List.mem_of_getElem? hy)
 rcases hxy with ⟨e, _⟩ | ⟨_, e⟩
 ·rw [e]; exact this
 ·rw [e]; exact this
theorem JB {B : Bk} (hV : Valid B) {k n T : Nat} {g : Grp} (hg : B.gs[k]? = some g) (hn : zl B g 0 = some n) (hT : T < n) (hn7 : n ≤ 7) {l : List Grp} (hs : qN (Yx B.gs k (T : Int)) l) (ga : Option Addr) (gc : Nat) : hasI (xh { B with gs := l, ga := ga, gc := gc } l.length) (k : Int) = false := by
 have hk := (List.getElem?_eq_some_iff.1 hg).1
 have e := qab hg (T : Int)
 have hl := hs.1
 rw [yg] at hl
 obtain ⟨x', hx'⟩ : ∃ x', l[k]? = some x' := ⟨l[k]'(by omega), List.getElem?_eq_getElem _⟩
 have hsg := hs.2 k { g with trunks := (T : Int) } x' (by rw [e, List.getElem?_set_self hk]) hx'
 have hgh := qcV (B := { B with gs := l, ga := ga, gc := gc }) hx'
 have hfi : yM { B with gs := l, ga := ga, gc := gc } x' x'.trunks.toNat = yM B g T := by
  unfold yM
  rw [hsg.2.2, hsg.2.1]
  rfl
 rw [hfi, qaG hV (List.mem_of_getElem? hg) (by omega), hn] at hgh
 simp only at hgh
 rw [hgh]
 exact decide_eq_false (by omega)
theorem JA {B : Bk} (hc : checkN B = 0) {k T : Nat} (hT : T ≤ 7) {l : List Grp} (hs : qN (Yx B.gs k (T : Int)) l) (ga : Option Addr) (gc : Nat) : checkN { B with gs := l, ga := ga, gc := gc } = 0 := by
 have h1 := qdy hc (k := k) (t := (T : Int)) (by omega) (by omega)
 have h2 := xH (B := { B with gs := Yx B.gs k (T : Int) }) hs ga gc
 rw [h1] at h2
 exact h2
abbrev RN (W : World) (a1 a2 a3 a4 a5 a6 : Addr) (v1 v2 v3 v4 v5 v6 : Value) (X : World) : Prop :=
 X.cell? a1 = some v1 ∧ X.cell? a2 = some v2 ∧ X.cell? a3 = some v3 ∧ X.cell? a4 = some v4 ∧ X.cell? a5 = some v5 ∧ X.cell? a6 = some v6 ∧ Below W.heap.size W X
section
variable {W X Y : World} {a1 a2 a3 a4 a5 a6 : Addr} {v1 v2 v3 v4 v5 v6 : Value}
theorem RN.call (h : RN W a1 a2 a3 a4 a5 a6 v1 v2 v3 v4 v5 v6 X) (hB : Below X.heap.size X Y) : RN W a1 a2 a3 a4 a5 a6 v1 v2 v3 v4 v5 v6 Y :=
 ⟨qb _ hB h.1, qb _ hB h.2.1, qb _ hB h.2.2.1, qb _ hB h.2.2.2.1, qb _ hB h.2.2.2.2.1, qb _ hB h.2.2.2.2.2.1, bcl h.2.2.2.2.2.2 hB⟩
theorem RN.drew (h : RN W a1 a2 a3 a4 a5 a6 v1 v2 v3 v4 v5 v6 X) : RN W a1 a2 a3 a4 a5 a6 v1 v2 v3 v4 v5 v6 X.drew := h.call (Below.refl _ X).drew
theorem RN.alloc (h : RN W a1 a2 a3 a4 a5 a6 v1 v2 v3 v4 v5 v6 X) (o : Obj) : RN W a1 a2 a3 a4 a5 a6 v1 v2 v3 v4 v5 v6 (X.alloc o) := h.call ((Below.refl _ X).alloc (Nat.le_refl _) _)
theorem RN.bel (h : RN W a1 a2 a3 a4 a5 a6 v1 v2 v3 v4 v5 v6 X) : Below W.heap.size W X := h.2.2.2.2.2.2
theorem RN.set5 (h : RN W a1 a2 a3 a4 a5 a6 v1 v2 v3 v4 v5 v6 X) {c : Nat} (hc : W.heap.size ≤ c) (h1 : a1.block < c) (h2 : a2.block < c) (h3 : a3.block < c) (h4 : a4.block < c) (h5 : a5.block < c) (h6 : a6.block < c) (u0 u1 u2 u3 u4 : Value) : RN W a1 a2 a3 a4 a5 a6 v1 v2 v3 v4 v5 v6 (((((X.setCell ⟨c, 0, none⟩ u0).setCell ⟨c, 1, none⟩ u1).setCell ⟨c, 2, none⟩ u2).setCell ⟨c, 3, none⟩ u3).setCell ⟨c, 4, none⟩ u4) := by
 have n : ∀ (a : Addr) (q : Nat), a.block < c → (⟨c, q, none⟩ : Addr) ≠ a := fun a q h e => by rw [← e] at h; exact Nat.lt_irrefl _ h
 have k : ∀ {a : Addr} {v : Value}, a.block < c → X.cell? a = some v → (((((X.setCell ⟨c, 0, none⟩ u0).setCell ⟨c, 1, none⟩ u1).setCell ⟨c, 2, none⟩ u2).setCell ⟨c, 3, none⟩ u3).setCell ⟨c, 4, none⟩ u4).cell? a = some v := fun ha hx => qc (n _ _ ha) (qc (n _ _ ha) (qc (n _ _ ha) (qc (n _ _ ha) (qc (n _ _ ha) hx))))
 exact ⟨k h1 h.1, k h2 h.2.1, k h3 h.2.2.1, k h4 h.2.2.2.1, k h5 h.2.2.2.2.1, k h6 h.2.2.2.2.2.1, ((((h.bel.setCell hc _).setCell hc _).setCell hc _).setCell hc _).setCell hc _⟩
end
set_option maxHeartbeats 8000000 in
set_option maxRecDepth 100000 in
theorem Ju (HL : ∀ W, Globs W → Calls qf 6 #[] W fun e w' => e = .returned (.bool true) ∧ Below W.heap.size W w') (B : Bk) (which fewer : Int) (hh : 0 ≤ which ∧ which ≤ 255) (ho : 0 ≤ fewer ∧ fewer ≤ 255) (w : World) (hG : Globs w) (hB : BookIn w B) (hc : B.gs.length ≤ B.gc) (hcp : ∀ g ∈ B.gs, g.traffic.length ≤ g.tc) (hf : fitB B = true) :
 Calls qf 3 #[bv B, .int .u8 which, .int .u8 fewer] w fun e w' => e = .returned (.bool true) ∧ Below w.heap.size w w' := by
 have hfi := fun W (h : Below w.heap.size w W) => Jq B W (hB.keep h) hc
 obtain ⟨hmo, hck, hV⟩ := qfi hf
 simp only [hf] at hfi
 have hat := hB.at (ZQ hmo) hc
 have hl1 := hV.len1
 have hl4 := hV.len4
 have hr1 := hV.num.2.2
 have hfl : ∀ g ∈ B.gs, 1 ≤ g.traffic.length := fun g hg => by have := (hV.grp g hg).len; omega
 have ww1 : IntKind.i64.wrap which = which := by rw [IntKind.wrap_i64]; omega
 have ww2 : IntKind.i64.wrap fewer = fewer := by rw [IntKind.wrap_i64]; omega
 obtain ⟨k, ek, hkl⟩ : ∃ k : Nat, which.tmod (B.gs.length : Int) = k ∧ k < B.gs.length := by
  have h1 := Int.emod_nonneg which (show (B.gs.length : Int) ≠ 0 by omega)
  have h2 := Int.emod_lt_of_pos which (show 0 < (B.gs.length : Int) by omega)
  have e : which.tmod (B.gs.length : Int) = which % (B.gs.length : Int) := Int.tmod_eq_emod_of_nonneg hh.1
  exact ⟨(which % (B.gs.length : Int)).toNat, by omega, by omega⟩
 have n2 : ¬ (B.gs.length : Int) = 0 := by omega
 obtain ⟨g, hg⟩ : ∃ g, B.gs[k]? = some g := ⟨B.gs[k], List.getElem?_eq_getElem hkl⟩
 have hm := List.mem_of_getElem? hg
 obtain ⟨hbl, hbx, hbT⟩ := qbI hV hm
 have hlen := (hV.grp g hm).len
 have hn1 := fun W (h : Below w.heap.size w W) => qeD W (hat.keep h) (hG.keep h) hfl hcp hck
 have hg1 := fun W (h : Below w.heap.size w W) => qcB W (hat.keep h) (hG.keep h) hck
 have hz1 := fun W (h : Below w.heap.size w W) => qcz B (k : Int) W (hat.keep h) (hG.keep h)
 unfold qay at hz1
 rw [if_pos hck, if_pos (show btw (k : Int) 0 ((B.gs.length : Int) - 1) = true from yX.2 ⟨by omega, by omega⟩), Int.toNat_natCast, hg] at hz1
 simp only at hz1
 obtain ⟨hb, ehb⟩ : ∃ hb, zC g.traffic g.traffic.length = hb := ⟨_, rfl⟩
 rw [ehb] at hz1 hbl hbx
 have hNl : (jS B).length = B.gs.length := by simp [jS]
 have hGl : (xh B B.gs.length).length ≤ B.gs.length := Qa _ _
 have hGi : ∀ x ∈ xh B B.gs.length, 0 ≤ x ∧ x ≤ (B.gs.length : Int) - 1 := fun x hx => by
  unfold xh at hx
  rw [List.take_length] at hx
  obtain ⟨j, g, e, hg, _⟩ := yP.1 hx
  have := (List.getElem?_eq_some_iff.1 hg).1
  omega
 have hGp : (xh B B.gs.length).Pairwise (· < ·) := jZ _ _ _
 have H3 := Lib.hid fun (i : Nat) (x : Grp) (hx : B.gs[i]? = some x) => qdY hV hx
 have HNx := Lib.hid fun (i : Nat) (x : Grp) (hx : B.gs[i]? = some x) => (show (jS B)[i]? = some (xZ B x) by unfold jS; rw [List.getElem?_map, hx]; rfl)
 have hi1 := fun W => yI (hb : Int) 0 (B.hours - 1) W ⟨by omega, by omega⟩
 have hrow := hB.row hl1
 have HTR := Lib.hid (hB.traf g hm (hfl g hm))
 have HAT := Lib.hid hat
 have HCK := Lib.hid hck
 have HV := Lib.hid hV
 have HG := Lib.hid hG
 have HBX := Lib.hid hbx
 have HGI := Lib.hid hGi
 have HGP := Lib.hid hGp
 have HGK := Lib.hid hg
 clear hat hf hmo hc hB hV hck hfl hcp hbx hGi hGp hNl hm ehb
 obtain ⟨b, o, hga, hcs⟩ := hrow
 have HC := Lib.hid hcs
 clear hcs
 obtain ⟨lim, gr, hr, gs, ga, gc⟩ := B
 simp only [bv] at *
 subst hga
 clear hg
 have ww3 : IntKind.i64.wrap (hr - 1) = hr - 1 := by rw [IntKind.wrap_i64]; omega
 generalize xh ⟨lim, gr, hr, gs, some ⟨b, o, none⟩, gc⟩ gs.length = L at *
 generalize hND : jS ⟨lim, gr, hr, gs, some ⟨b, o, none⟩, gc⟩ = N at *
 have HND := Lib.hid hND
 clear hND
 go_enter s3, ntmps3
 go_upto_region 3 with (go_at_call 5; (with_reducible refine (hfi _ (by go_grown)).mono ?_); rintro e w1 ⟨rfl, hB1⟩; (first | (replace hB := bcl (by with_reducible assumption) hB1) | (replace hB := bcl (by go_grown) hB1) | (have hB := hB1)); (try clear hc hg hz); obtain ⟨hc, hg⟩ := qA hB; have hz := hB.size; clear hB1; (try simp at hz); (try have hlt0 : w.heap.size < w1.heap.size := by omega))
 obtain ⟨wz, hwz⟩ : ∃ wz, wz = w.heap.size := ⟨_, rfl⟩
 have h : KSt w w1 [(⟨wz, 0, none⟩, .int .i64 lim.1), (⟨wz, 1, none⟩, .int .i64 lim.2), (⟨wz, 2, none⟩, .int .i64 gr), (⟨wz, 3, none⟩, .int .i64 hr), (⟨wz, 4, none⟩, .slice (some ⟨b, o, none⟩) gs.length gc)] := by
  have hBW : Below w.heap.size w w1 := bcl (w := w) (by go_grown) hB
  refine ⟨fun p hp => ?_, HG.out.keep hBW, hBW⟩
  simp only [List.mem_cons, List.not_mem_nil, or_false] at hp
  rcases hp with rfl | rfl | rfl | rfl | rfl <;> (rw [hwz]; go_cell)
 obtain ⟨⟨q0, q1, q2, q3, q4⟩, _⟩ := h.c5
 have qz := lt_of_cell q0
 rw [← hwz]
 clear hc hg hB hz hwz hfi
 go_upto_region 5 with (go_at_call 7; (with_reducible refine (hn1 _ h.bw).mono ?_); rintro e w2 ⟨a1, c1, rfl, ⟨nb, rfl, hNb⟩, hB⟩; replace h := h.call hB; clear q0 q1 q2 q3 q4; clear hB; obtain ⟨⟨q0, q1, q2, q3, q4⟩, _⟩ := h.c5; have qz := lt_of_cell q0)
 replace hNb := Lib.hid hNb
 go_upto_region 6 with (go_at_call 8; (with_reducible refine (hg1 _ h.bw).mono ?_); rintro e w3 ⟨a2, c2, rfl, hI, hB⟩; replace h := h.call hB; replace hNb := Lib.hid fun (i : Nat) (x : Int) hx => qb _ hB (hNb.out i x hx); clear q0 q1 q2 q3 q4; clear hB; obtain ⟨⟨q0, q1, q2, q3, q4⟩, _⟩ := h.c5; have qz := lt_of_cell q0)
 replace hI := Lib.hid hI
 go_upto_region 7 with (go_at_call 9; (with_reducible refine (hz1 _ h.bw).mono ?_); rintro e w4 ⟨rfl, hB⟩; replace h := h.call hB; replace hNb := Lib.hid fun (i : Nat) (x : Int) hx => qb _ hB (hNb.out i x hx); replace hI := Lib.hid (hI.out.keep hB); clear q0 q1 q2 q3 q4; clear hB; obtain ⟨⟨q0, q1, q2, q3, q4⟩, _⟩ := h.c5; have qz := lt_of_cell q0)
 obtain ⟨x, ex, hx0, hx7⟩ : ∃ x : Int, N[k]? = some x ∧ -1 ≤ x ∧ x ≤ 7 := ⟨_, HNx.out k g HGK.out, by rcases H3.out k g HGK.out with ⟨e, _⟩ | ⟨n, e, _, _, _⟩ <;> omega, by rcases H3.out k g HGK.out with ⟨e, _⟩ | ⟨n, e, _, _, _⟩ <;> omega⟩
 have d0 := hNb.out k x ex
 have hi2 := fun W => yI x (-1) 7 W ⟨hx0, hx7⟩
 have i1 : (k : Int) < (gs.length : Int) := by omega
 have i2 : (0 : Int) ≤ (k : Int) := Int.natCast_nonneg k
 have HEX := Lib.hid ex
 clear ex hn1 hg1 hz1
 go_cut [86] from 46 to 85 (fun s wx => s = .bool false ∧ Below w4.heap.size w4 wx)
 case first =>
  have hAs := Jp _ L gs.length ⟨by omega, by omega⟩ (by omega) HGI.out HGP.out _ hI.out
  go_wp2_with (first | (go_at_call 10; (with_reducible refine hAs.mono ?_); rintro e w5 ⟨rfl, hB⟩; replace h := h.call hB; have d0 := qb _ hB d0; have hBk := hB; clear q0 q1 q2 q3 q4; clear hB; obtain ⟨⟨q0, q1, q2, q3, q4⟩, _⟩ := h.c5; have qz := lt_of_cell q0) | (go_at_call 11; (with_reducible refine (hi1 _).mono ?_); rintro e w1 ⟨rfl, rfl⟩) | (go_at_call 11; (with_reducible refine (hi2 _).mono ?_); rintro e w1 ⟨rfl, rfl⟩))
  go_meet
  exact ⟨rfl, hBk⟩
 case rest =>
  obtain ⟨rfl, hB⟩ := hcut
  obtain ⟨WD, rfl⟩ : ∃ W, W = wc := ⟨_, rfl⟩
  replace h := h.call hB
  replace hNb := Lib.hid fun (i : Nat) (x : Int) hx => qb _ hB (hNb.out i x hx)
  replace hI := Lib.hid (hI.out.keep hB)
  clear q0 q1 q2 q3 q4; clear hB; obtain ⟨⟨q0, q1, q2, q3, q4⟩, _⟩ := h.c5; have qz := lt_of_cell q0
  clear d0
  go_wp2
  go_loopw [14] (fun i wr => ∃ j : Nat, i = .int .i64 j ∧ j ≤ gs.length ∧ Below WD.heap.size WD wr) (fun i _ => gs.length - (intOf i).toNat)
  case atStart => exact ⟨0, rfl, Nat.zero_le _, .refl _ _⟩
  case round =>
   obtain ⟨j, rfl, hj, hBr⟩ := hrel
   by_cases hlt : j < gs.length
   ·obtain ⟨gj, hgj⟩ : ∃ gj, gs[j]? = some gj := ⟨gs[j]'(by omega), List.getElem?_eq_getElem _⟩
    obtain ⟨_, t1, _⟩ := HC.out j gj hgj
    have t1 := qb _ hBr (qb _ h.bw t1)
    have d1 := qb _ hBr (hNb.out j _ (HNx.out j gj hgj))
    have q4' := qb _ hBr q4
    have hha : ∀ nq, Calls qf 12 #[.slice a2 L.length c2, .int .i64 j] (wr.drewN nq) fun e w' => e = .returned (.bool (hasI L j)) ∧ w' = wr.drewN nq := fun nq => (XU _ L (j : Int) (by omega) (wr.drewN nq) (hI.out.keep (below_drewN hBr nq))).mono fun _ _ k => ⟨k.1, k.2.symm⟩
    have j1 : (j : Int) < (gs.length : Int) := by omega
    have j2 : (0 : Int) ≤ (j : Int) := Int.natCast_nonneg j
    have H := H3.out j gj hgj
    clear hgj
    rcases H with ⟨e1, _, e2⟩ | ⟨n, e1, _, _, e2⟩
    ·rw [e1] at d1
     simp only [e2] at hha
     clear e1 e2
     go_wp2
     go_quiet ((go_at_call 12; (with_reducible exact Calls.quiet_of_same (hha _))))
     go_wp2
     go_roundw
     case rel => exact ⟨j + 1, rfl, by omega, below_drewN hBr _⟩
     case measure => simp [intOf]; omega
    ·rw [e1] at d1
     simp only [e2] at hha
     have n0 : (0 : Int) ≤ (n : Int) := Int.natCast_nonneg n
     clear e1 e2
     by_cases hle : (n : Int) ≤ gj.trunks
     ·simp only [decide_eq_true hle] at hha
      go_wp2
      go_quiet ((go_at_call 12; (with_reducible exact Calls.quiet_of_same (hha _))))
      go_wp2
      go_roundw
      case rel => exact ⟨j + 1, rfl, by omega, below_drewN hBr _⟩
      case measure => simp [intOf]; omega
     ·simp only [decide_eq_false hle] at hha
      go_wp2
      go_quiet ((go_at_call 12; (with_reducible exact Calls.quiet_of_same (hha _))))
      go_wp2
      go_roundw
      case rel => exact ⟨j + 1, rfl, by omega, below_drewN hBr _⟩
      case measure => simp [intOf]; omega
   ·obtain rfl : j = gs.length := by omega
    replace h := h.call hBr
    replace hNb := Lib.hid fun (i : Nat) (x : Int) hx => qb _ hBr (hNb.out i x hx)
    have hB := hBr
    clear q0 q1 q2 q3 q4; clear hB; obtain ⟨⟨q0, q1, q2, q3, q4⟩, _⟩ := h.c5; have qz := lt_of_cell q0
    clear hI hBr
    go_upto_region 14 with fail
    obtain ⟨WE, rfl⟩ : ∃ W, W = wr := ⟨_, rfl⟩
    obtain ⟨tb, tq, hta, hps⟩ := HTR.out
    obtain ⟨p0, p1⟩ := hps hb _ HBX.out
    have p0 := qb _ h.bw p0
    have p1 := qb _ h.bw p1
    obtain ⟨_, _, c2⟩ := HC.out k g HGK.out
    have c2 := qb _ h.bw c2
    rw [hta] at c2
    have hen := fun W => XT (QO g) lim W
    unfold JG at hen
    rw [if_pos ⟨hbT, HV.out.num.1⟩, ← Xo HV.out (List.mem_of_getElem? HGK.out)] at hen
    have hS : RN WE ⟨wz, 0, none⟩ ⟨wz, 1, none⟩ ⟨wz, 4, none⟩ ⟨b, o + k * 3 + 2, none⟩ ⟨tb, tq + hb * 2, none⟩ ⟨tb, tq + hb * 2 + 1, none⟩ (.int .i64 lim.1) (.int .i64 lim.2) (.slice (some ⟨b, o, none⟩) gs.length gc) (.slice (some ⟨tb, tq, none⟩) g.traffic.length g.tc) (.int .i64 (QO g).1) (.int .i64 (QO g).2) WE := ⟨q0, q1, q4, c2, p0, p1, Below.refl _ _⟩
    have i3 : (hb : Int) < (g.traffic.length : Int) := by omega
    have i4 : (0 : Int) ≤ (hb : Int) := Int.natCast_nonneg hb
    clear hlen
    have hx := H3.out k g HGK.out
    have hxx : x = xZ ⟨lim, gr, hr, gs, some ⟨b, o, none⟩, gc⟩ g := by
     have := HNx.out k g HGK.out
     rw [HEX.out] at this
     exact Option.some.inj this
    simp only [fv] at hen
    obtain ⟨en, fd, he, hcase⟩ : ∃ (en : Int) (fd : Bool), (∀ W, Calls qf 13 #[.agg #[.int .i64 (QO g).1, .int .i64 (QO g).2], .agg #[.int .i64 lim.1, .int .i64 lim.2]] W fun e w' => e = .returned (.tuple #[.int .i64 en, .bool fd, .int .i64 0]) ∧ Below W.heap.size W w') ∧ ((fd = false ∧ x = -1) ∨ ∃ n : Nat, fd = true ∧ en = (n : Int) ∧ x = (n : Int) ∧ n ≤ 7 ∧ zl ⟨lim, gr, hr, gs, some ⟨b, o, none⟩, gc⟩ g 0 = some n) := by
     rcases hx with ⟨e1, e0, _⟩ | ⟨n, e1, e0, hn7, _⟩
     ·rw [e0] at hen
      exact ⟨0, false, hen, .inl ⟨rfl, by rw [hxx, e1]⟩⟩
     ·rw [e0] at hen
      exact ⟨n, true, hen, .inr ⟨n, rfl, rfl, by rw [hxx, e1], hn7, e0⟩⟩
    have HCA := Lib.hid hcase
    clear hen hcase hx hxx hps hta p0 p1 c2
    go_cut [15, 16, 17] from 115 to 130 (fun s15 s16 s17 wx => s15 = .int .i64 en ∧ s16 = .bool fd ∧ s17 = .int .i64 0 ∧ Below WE.heap.size WE wx)
    case first =>
     as_aux_lemma =>
      go_region_held3 (RN WE ⟨wz, 0, none⟩ ⟨wz, 1, none⟩ ⟨wz, 4, none⟩ ⟨b, o + k * 3 + 2, none⟩ ⟨tb, tq + hb * 2, none⟩ ⟨tb, tq + hb * 2 + 1, none⟩ (.int .i64 lim.1) (.int .i64 lim.2) (.slice (some ⟨b, o, none⟩) gs.length gc) (.slice (some ⟨tb, tq, none⟩) g.traffic.length g.tc) (.int .i64 (QO g).1) (.int .i64 (QO g).2)) (first | exact RN.drew hS | (refine RN.call ?_ hB; with_reducible assumption) | (refine RN.call ?_ hB; assumption)) (first | (go_at_call 13; (with_reducible refine (he _).mono ?_); rintro e wy ⟨rfl, hB⟩))
      all_goals (rename_i hH; go_wp2_with fail; go_meet; exact ⟨rfl, rfl, rfl, RN.bel hH⟩)
    case rest =>
     obtain ⟨rfl, rfl, rfl, hB⟩ := hcut
     obtain ⟨WF, rfl⟩ : ∃ W, W = wc := ⟨_, rfl⟩
     replace h := h.call hB
     have d0 := qb _ hB (hNb.out k x HEX.out)
     clear q0 q1 q2 q3 q4; clear hB; obtain ⟨⟨q0, q1, q2, q3, q4⟩, _⟩ := h.c5; have qz := lt_of_cell q0
     clear he hS
     rcases HCA.out with ⟨rfl, rfl⟩ | ⟨n, rfl, rfl, rfl, hn7, hnf⟩
     ·go_wp2_with (go_at_call 6; (refine (HL _ h.gl).mono ?_); rintro e w9 ⟨rfl, hB9⟩)
      go_ret
      exact ⟨rfl, (h.call hB9).bw⟩
     ·by_cases hn0 : n = 0
      ·subst hn0
       go_wp2_with (go_at_call 6; (refine (HL _ h.gl).mono ?_); rintro e w9 ⟨rfl, hB9⟩)
       go_ret
       exact ⟨rfl, (h.call hB9).bw⟩
      ·have hn1 : ¬ (n : Int) < 1 := by omega
       have hn2 : (0 : Int) ≤ (n : Int) := Int.natCast_nonneg n
       go_upto_region 19 with fail
       have hS : RN WF ⟨wz, 0, none⟩ ⟨wz, 1, none⟩ ⟨wz, 2, none⟩ ⟨wz, 3, none⟩ ⟨wz, 4, none⟩ ⟨nb, k, none⟩ (.int .i64 lim.1) (.int .i64 lim.2) (.int .i64 gr) (.int .i64 hr) (.slice (some ⟨b, o, none⟩) gs.length gc) (.int .i64 n) WF := ⟨q0, q1, q2, q3, q4, d0, Below.refl _ _⟩
       have hnz : ¬ (n : Int) = 0 := by omega
       obtain ⟨T, eT, hT⟩ : ∃ T : Nat, fewer.tmod (n : Int) = T ∧ T < n := by
        have h1 := Int.emod_nonneg fewer (show (n : Int) ≠ 0 by omega)
        have h2 := Int.emod_lt_of_pos fewer (show 0 < (n : Int) by omega)
        have e : fewer.tmod (n : Int) = fewer % (n : Int) := Int.tmod_eq_emod_of_nonneg ho.1
        exact ⟨(fewer % (n : Int)).toNat, by omega, by omega⟩
       have hch : ∀ W, Below w.heap.size w W → Calls qf 14 #[.agg #[.int .i64 lim.1, .int .i64 lim.2, .int .i64 gr, .int .i64 hr, .slice (some ⟨b, o, none⟩) gs.length gc], .int .i64 k, .int .i64 T] W fun e w' => (∃ g' gc' l tb, e = .returned (.tuple #[.agg #[.int .i64 lim.1, .int .i64 lim.2, .int .i64 gr, .int .i64 hr, .slice (some ⟨g', 0, none⟩) l.length gc'], .int .i64 0]) ∧ qN (Yx gs k T) l ∧ OwnGs W.heap.size w' g' l l.length tb ∧ l.length ≤ gc') ∧ Below W.heap.size W w' := fun W hW => (qew ⟨lim, gr, hr, gs, some ⟨b, o, none⟩, gc⟩ k T W (HAT.out.keep hW) (HG.out.keep hW) HCK.out hkl ⟨by omega, by omega⟩).mono fun e w' q => ⟨by
        obtain ⟨g', gc', l, tb, e1, e2, e3, e4⟩ := q.1
        exact ⟨g', gc', l, tb, e1, e2, e3, e4⟩, q.2⟩
       have HCH := Lib.hid hch
       have HBW := Lib.hid h.bw
       have nbl : nb < WF.heap.size := lt_of_cell d0
       have HT := Lib.hid hT
       have wwT : IntKind.i64.wrap (T : Int) = (T : Int) := by rw [IntKind.wrap_i64]; omega
       have hn3 : (0 : Int) < (n : Int) := by omega
       have hnb : ((n : Int) == 0) = false := by simpa using hnz
       clear hch hT
       go_cut [17, 18] from 159 to 171 (fun al p wx => al = .int .i64 0 ∧ ∃ q g' gc' l tb, p = .pointer (some ⟨q, 0, none⟩) ∧ Five wx q (.int .i64 lim.1) (.int .i64 lim.2) (.int .i64 gr) (.int .i64 hr) (.slice (some ⟨g', 0, none⟩) l.length gc') ∧ qN (Yx gs k T) l ∧ OwnGs WF.heap.size wx g' l l.length tb ∧ l.length ≤ gc' ∧ Below WF.heap.size WF wx)
       case first =>
        have zz0 := Lib.hid (yK (qL WF #[.int .i64 0, .int .i64 0, .int .i64 0, .int .i64 0, .slice none 0 0] 26 0 (by simp)))
        have yy0 := Lib.hid (yF (yG WF #[.int .i64 0, .int .i64 0, .int .i64 0, .int .i64 0, .slice none 0 0] 26 0 (by simp)))
        have zz1 := Lib.hid (yK (qL WF #[.int .i64 0, .int .i64 0, .int .i64 0, .int .i64 0, .slice none 0 0] 26 1 (by simp)))
        have yy1 := Lib.hid (yF (yG WF #[.int .i64 0, .int .i64 0, .int .i64 0, .int .i64 0, .slice none 0 0] 26 1 (by simp)))
        have zz2 := Lib.hid (yK (qL WF #[.int .i64 0, .int .i64 0, .int .i64 0, .int .i64 0, .slice none 0 0] 26 2 (by simp)))
        have yy2 := Lib.hid (yF (yG WF #[.int .i64 0, .int .i64 0, .int .i64 0, .int .i64 0, .slice none 0 0] 26 2 (by simp)))
        have zz3 := Lib.hid (yK (qL WF #[.int .i64 0, .int .i64 0, .int .i64 0, .int .i64 0, .slice none 0 0] 26 3 (by simp)))
        have yy3 := Lib.hid (yF (yG WF #[.int .i64 0, .int .i64 0, .int .i64 0, .int .i64 0, .slice none 0 0] 26 3 (by simp)))
        have zz4 := Lib.hid (yK (qL WF #[.int .i64 0, .int .i64 0, .int .i64 0, .int .i64 0, .slice none 0 0] 26 4 (by simp)))
        have yy4 := Lib.hid (yF (yG WF #[.int .i64 0, .int .i64 0, .int .i64 0, .int .i64 0, .slice none 0 0] 26 4 (by simp)))
        clear q0 q1 q2 q3 q4 d0
        go_region_held3 (RN WF ⟨wz, 0, none⟩ ⟨wz, 1, none⟩ ⟨wz, 2, none⟩ ⟨wz, 3, none⟩ ⟨wz, 4, none⟩ ⟨nb, k, none⟩ (.int .i64 lim.1) (.int .i64 lim.2) (.int .i64 gr) (.int .i64 hr) (.slice (some ⟨b, o, none⟩) gs.length gc) (.int .i64 n)) (first | with_reducible exact RN.drew hS | with_reducible exact hX | with_reducible exact RN.alloc hX _ | with_reducible exact (RN.alloc hS _).drew | with_reducible exact RN.set5 hX (Nat.le_refl _) qz qz qz qz qz nbl _ _ _ _ _) (first | (go_at_call 14; have hS1 : RN WF ⟨wz, 0, none⟩ ⟨wz, 1, none⟩ ⟨wz, 2, none⟩ ⟨wz, 3, none⟩ ⟨wz, 4, none⟩ ⟨nb, k, none⟩ (.int .i64 lim.1) (.int .i64 lim.2) (.int .i64 gr) (.int .i64 hr) (.slice (some ⟨b, o, none⟩) gs.length gc) (.int .i64 n) _ := (by with_reducible assumption); (with_reducible refine (HCH.out _ (bcl HBW.out hS1.bel)).mono ?_); rintro e wy ⟨⟨g', gc', l, tb, rfl, hSm, hOw, hcg⟩, hB⟩; have hX := RN.call hS1 hB; (try with_reducible (have z0 := qb _ hB zz0.out; have y0 := qg _ hB zz0.out yy0.out; have z1 := qb _ hB zz1.out; have y1 := qg _ hB zz1.out yy1.out; have z2 := qb _ hB zz2.out; have y2 := qg _ hB zz2.out yy2.out; have z3 := qb _ hB zz3.out; have y3 := qg _ hB zz3.out yy3.out; have z4 := qb _ hB zz4.out; have y4 := qg _ hB zz4.out yy4.out))))
        all_goals
         go_wp2_with fail
         go_meet
         first
          | exact ⟨rfl, _, g', gc', l, tb, rfl, Five.new wy _ _ _ _ _ _, hSm, (hOw.mono (by first | exact Nat.le_refl _ | (simp; done) | (simp; omega))).keep ((Below.refl _ wy).alloc (Nat.le_refl _) _), hcg, (RN.alloc hX _).bel⟩
          | exact ⟨rfl, _, g', gc', l, tb, rfl, Five.put _ _ _ _ _ ⟨⟨z0, z1, z2, z3, z4⟩, ⟨y0, y1, y2, y3, y4⟩⟩, hSm, (hOw.five' rfl (by first | (simp; done) | (simp; omega))).mono (by first | exact Nat.le_refl _ | (simp; done) | (simp; omega)), hcg, (RN.set5 hX (Nat.le_refl _) qz qz qz qz qz nbl _ _ _ _ _).bel⟩
       case rest =>
        obtain ⟨rfl, q, g', gc', l, tb, rfl, hFv, hSm, hOw, hcg, hB⟩ := hcut
        obtain ⟨WG, rfl⟩ : ∃ W, W = wc := ⟨_, rfl⟩
        replace h := h.call hB
        clear q0 q1 q2 q3 q4; clear hB; obtain ⟨⟨q0, q1, q2, q3, q4⟩, _⟩ := h.c5; have qz := lt_of_cell q0
        obtain ⟨⟨u0, u1, u2, u3, u4⟩, _⟩ := id hFv
        have hck3 := JA HCK.out (k := k) (T := T) (by have := HT.out; omega) hSm (some ⟨g', 0, none⟩) gc'
        have hb2 := QM (B := ⟨lim, gr, hr, Yx gs k T, some ⟨b, o, none⟩, gc⟩) hSm hOw hcg (qek (B := ⟨lim, gr, hr, gs, some ⟨b, o, none⟩, gc⟩) HAT.out.small k T)
        have hlk := JB HV.out HGK.out hnf HT.out hn7 hSm (some ⟨g', 0, none⟩) gc'
        have hgd := qcB _ hb2 h.gl hck3
        have hl4' : l.length ≤ 4 := by rw [hSm.1, yg]; exact hl4
        have hGl2 := Qa ⟨lim, gr, hr, l, some ⟨g', 0, none⟩, gc'⟩ l.length
        simp only [bv] at hgd hlk hGl2
        generalize xh ⟨lim, gr, hr, l, some ⟨g', 0, none⟩, gc'⟩ l.length = L2 at *
        have HLK := Lib.hid hlk
        clear hck3 hb2 hlk hSm hOw hcg hFv HCH hnf
        go_upto_region 21 with (go_at_call 8; (with_reducible refine hgd.mono ?_); rintro e w6 ⟨a6, c6, rfl, hI2, hB⟩; replace h := h.call hB; clear q0 q1 q2 q3 q4; clear hB; obtain ⟨⟨q0, q1, q2, q3, q4⟩, _⟩ := h.c5; have qz := lt_of_cell q0)
        have hha := XU _ L2 (k : Int) (by omega) _ hI2
        rw [HLK.out] at hha
        clear hI2 hgd
        go_wp2_with (first | (go_at_call 12; (with_reducible refine (hha).mono ?_); rintro e w1 ⟨rfl, rfl⟩) | (go_at_call 6; (refine (HL _ h.gl).mono ?_); rintro e w9 ⟨rfl, hB9⟩))
        go_ret
        exact ⟨rfl, (h.call hB9).bw⟩
set_option maxHeartbeats 8000000 in
set_option maxRecDepth 100000 in
theorem YL (HL : ∀ W, Globs W → Calls qf 6 #[] W fun e w' => e = .returned (.bool true) ∧ Below W.heap.size W w') (B : Bk) (which fewer : Int) (w : World) (hG : Globs w) (hB : BookIn w B) (hc : B.gs.length ≤ B.gc) (hf : fitB B = false) :
 Calls qf 3 #[bv B, .int .u8 which, .int .u8 fewer] w fun e w' => e = .returned (.bool true) ∧ Below w.heap.size w w' := by
 have hfi := fun W (h : Below w.heap.size w W) => Jq B W (hB.keep h) hc
 simp only [hf] at hfi
 have HLL := fun W (h : Below w.heap.size w W) => HL W (hG.keep h)
 obtain ⟨lim, gr, hr, gs, ga, gc⟩ := B
 simp only [bv] at *
 clear hB hf HL hG
 go_enter s3, ntmps3
 go_wp2_with (first | (go_at_call 5; (with_reducible refine (hfi _ (by go_grown)).mono ?_); rintro e w1 ⟨rfl, hB1⟩; have hB : Below w.heap.size w w1 := Below.call (by go_grown) hB1 (by simp)) | (go_at_call 6; (refine (HLL _ hB).mono ?_); rintro e w2 ⟨rfl, hB2⟩))
 go_ret
 exact ⟨rfl, bcl hB hB2⟩
theorem qar (HL : ∀ W, Globs W → Calls qf 6 #[] W fun e w' => e = .returned (.bool true) ∧ Below W.heap.size W w') (B : Bk) (which fewer : Int) (hh : 0 ≤ which ∧ which ≤ 255) (ho : 0 ≤ fewer ∧ fewer ≤ 255) (w : World) (hG : Globs w) (hB : BookIn w B) (hc : B.gs.length ≤ B.gc) (hcp : ∀ g ∈ B.gs, g.traffic.length ≤ g.tc) :
 Calls qf 3 #[bv B, .int .u8 which, .int .u8 fewer] w fun e w' => e = .returned (.bool true) ∧ Below w.heap.size w w' := by
 cases hf : fitB B with
 | false => exact YL HL B which fewer w hG hB hc hf
 | true => exact Ju HL B which fewer hh ho w hG hB hc hcp hf
end Go.Proofs.Tryz
end
