/-
  A part of the proof (C27 C28): lemmas about the program and about the machine that the last text of this claim rests upon; no condition.
-/
import Derived.Deep.RegionHeld3
import Derived.IntWalk
import Derived.Deep.DeepCutAuto
import Derived.Test.YtbbjalighlddcaaDoorM06
set_option linter.unusedSimpArgs false
set_option linter.unusedVariables false
section
namespace Go.Proofs.Tryd
open Go Go.Load Go.RowKit
def savedN (x : Int × Int) (T : Nat) : Int × Int := low ((lostN x T).1 * (lostN x (T + 1)).2 - (lostN x (T + 1)).1 * (lostN x T).2) ((lostN x T).2 * (lostN x (T + 1)).2)
def savedOK (a b : Int) (T : Nat) : Bool := let p := lostN (a, b) T; let q := lostN (a, b) (T + 1); decide (p.1 * q.2 < 4611686018427387904) && decide (p.2 * q.2 < 4611686018427387904) && decide (q.1 * p.2 ≤ p.1 * q.2)
set_option maxRecDepth 100000 in
theorem savedOK_all : (List.range 13).all (fun a => (List.range 4).all fun b => (List.range 7).all fun T => savedOK a (b + 1) T) = true := by decide +kernel
theorem saved_ok {x : Int × Int} (h1 : 0 ≤ x.1) (h2 : x.1 ≤ 12) (h3 : 1 ≤ x.2) (h4 : x.2 ≤ 4) {T : Nat} (hT : T ≤ 6) :
 (lostN x T).1 * (lostN x (T + 1)).2 < 4611686018427387904 ∧ (lostN x T).2 * (lostN x (T + 1)).2 < 4611686018427387904 ∧ (lostN x (T + 1)).1 * (lostN x T).2 ≤ (lostN x T).1 * (lostN x (T + 1)).2 := by
 obtain ⟨a, b⟩ := x
 simp only at h1 h2 h3 h4
 obtain ⟨n, rfl⟩ := Int.eq_ofNat_of_zero_le h1
 obtain ⟨k, hk⟩ := Int.eq_ofNat_of_zero_le (show 0 ≤ b - 1 by omega)
 obtain rfl : b = (k : Int) + 1 := by omega
 have h := savedOK_all
 rw [List.all_eq_true] at h
 have h := h n (List.mem_range.2 (by omega))
 rw [List.all_eq_true] at h
 have h := h k (List.mem_range.2 (by omega))
 rw [List.all_eq_true] at h
 have h := h T (List.mem_range.2 (by omega))
 simp only [savedOK, Bool.and_eq_true, decide_eq_true_eq] at h
 exact ⟨h.1.1, h.1.2, h.2⟩
theorem lost_ex (m : Nat) (T : Nat) (x : Int × Int) (h1 : 0 ≤ x.1) (h2 : x.1 ≤ 12) (h3 : 1 ≤ x.2) (h4 : x.2 ≤ 4) (hT : T ≤ 7) (w : World) (hL : ∃ L, LMap w m L) :
 Calls srcP 107 #[.map (some m), fv x, .int .i64 T] w fun e w' => e = .returned (fv (lostN x T)) ∧ OneMap m w w' := by
 obtain ⟨L, hL⟩ := hL
 exact lost_any m L T x h1 h2 h3 h4 hT w hL
def HasMap (m : Nat) (W : World) : Prop := ∃ L, LMap W m L
abbrev SavedS (w : World) (m gb xb rb T : Nat) (x : Int × Int) (W : World) : Prop :=
 W.cell? ⟨xb, 0, none⟩ = some (.int .i64 x.1) ∧ W.cell? ⟨xb, 1, none⟩ = some (.int .i64 x.2) ∧ W.cell? ⟨gb, 1, none⟩ = some (.int .i64 T) ∧ W.cell? ⟨rb, 0, none⟩ = some (atD W ⟨rb, 0, none⟩) ∧ W.cell? ⟨rb, 1, none⟩ = some (atD W ⟨rb, 1, none⟩) ∧
  W.frozen? ⟨rb, 0, none⟩ = false ∧ W.frozen? ⟨rb, 1, none⟩ = false ∧ HasMap m W ∧ w.grownBy W (some m)
theorem SavedS.call {w W w1 : World} {m gb xb rb T : Nat} {x : Int × Int} (h : SavedS w m gb xb rb T x W) (hB : Below W.heap.size W w1) : SavedS w m gb xb rb T x w1 := by
 obtain ⟨a, b, c, d, e, f, g, ⟨L, i⟩, j⟩ := h
 exact ⟨keep_cell _ hB a, keep_cell _ hB b, keep_cell _ hB c, some_at (is_some (keep_cell _ hB d)), some_at (is_some (keep_cell _ hB e)), keep_frozen _ hB d f, keep_frozen _ hB e g, ⟨L, i.keep hB⟩, grown_trans j (grown_below hB)⟩
theorem SavedS.lost {w W w1 : World} {m gb xb rb T : Nat} {x : Int × Int} (h : SavedS w m gb xb rb T x W) (hm : m < gb) (hm2 : m < xb) (hm3 : m < rb) (hO : OneMap m W w1) : SavedS w m gb xb rb T x w1 := by
 obtain ⟨a, b, c, d, e, f, g, ⟨L, i⟩, j⟩ := h
 obtain ⟨⟨L', k⟩, q⟩ := hO
 have n1 : xb ≠ m := Nat.ne_of_gt hm2
 have n2 : gb ≠ m := Nat.ne_of_gt hm
 have n3 : rb ≠ m := Nat.ne_of_gt hm3
 exact ⟨grown_cell q a n1, grown_cell q b n1, grown_cell q c n2, some_at (is_some (grown_cell q d n3)), some_at (is_some (grown_cell q e n3)), grown_frozen q d f n3, grown_frozen q e g n3, ⟨L', k⟩, grown_trans j q⟩
theorem SavedS.put {w W : World} {m gb xb rb T : Nat} {x : Int × Int} (u v : Value) (h : SavedS w m gb xb rb T x W) (h1 : rb ≠ xb) (h2 : rb ≠ gb) (h3 : w.heap.size ≤ rb) (h4 : m < rb) : SavedS w m gb xb rb T x ((W.setCell ⟨rb, 0, none⟩ u).setCell ⟨rb, 1, none⟩ v) := by
 obtain ⟨a, b, c, d, e, f, g, ⟨L, i⟩, j⟩ := h
 have n1 : ∀ p q, (⟨rb, p, none⟩ : Addr) ≠ ⟨xb, q, none⟩ := fun p q h => h1 (congrArg Addr.block h)
 have n2 : ∀ p q, (⟨rb, p, none⟩ : Addr) ≠ ⟨gb, q, none⟩ := fun p q h => h2 (congrArg Addr.block h)
 exact ⟨cell_other (n1 _ _) (cell_other (n1 _ _) a), cell_other (n1 _ _) (cell_other (n1 _ _) b), cell_other (n2 _ _) (cell_other (n2 _ _) c), some_at (some_set (some_set (is_some d))), some_at (some_set (some_set (is_some e))), by simpa using f, by simpa using g,
  ⟨L, i.block ((Below.heap_setCell _ _ _ _ (Nat.ne_of_lt h4)).trans (Below.heap_setCell _ _ _ _ (Nat.ne_of_lt h4)))⟩, grown_set (grown_set j h3 _) h3 _⟩
set_option maxHeartbeats 4000000 in
set_option maxRecDepth 100000 in
theorem saved_any (m : Nat) (g : Grp) (hr T : Nat) (x : Int × Int) (hx : g.traffic[hr]? = some x) (ht : Traf x) (hgT : g.trunks = T) (hT : T ≤ 6) (w : World) (hL : ∃ L, LMap w m L) (hf : TrafAt w g) :
 Calls srcP 97 #[.map (some m), gv g, .int .i64 hr] w fun e w' => e = .returned (fv (savedN (low x.1 x.2) T)) ∧ OneMap m w w' := by
 obtain ⟨k1, k2, k3, k4⟩ := low_in ht.1.1 ht.1.2 ht.2.1 ht.2.2
 have hof := fun W => of_any x W ht.1.1 (by have := ht.2.1; omega) (by have := ht.1.2; omega) (by have := ht.2.2; omega)
 have hlo := fun W h => lost_ex m T (low x.1 x.2) k1 k2 k3 k4 (by omega) W h
 have hlo2 := fun W h => lost_ex m (T + 1) (low x.1 x.2) k1 k2 k3 k4 (by omega) W h
 obtain ⟨b1, b2, b3⟩ := saved_ok k1 k2 k3 k4 hT
 obtain ⟨p1, p2, _⟩ := lost_bound k1 k2 k3 k4 T (by omega)
 obtain ⟨q1, q2, _⟩ := lost_bound k1 k2 k3 k4 (T + 1) (by omega)
 have hmi := fun W => minus_any (lostN (low x.1 x.2) T) (lostN (low x.1 x.2) (T + 1)) W p1 (by omega) q1 (by omega) b1 b2 b3
 have hlen : hr < g.traffic.length := (List.getElem?_eq_some_iff.1 hx).1
 obtain ⟨tb, t0, hta, hpa⟩ := hf (by omega)
 obtain ⟨d0, d1⟩ := hpa hr x hx
 have hmlt : m < w.heap.size := by obtain ⟨L, h⟩ := hL; exact h.lt
 have htl : tb < w.heap.size := lt_of_cell d0
 have HL := Lib.hid hL
 unfold savedN
 generalize lostN (low x.1 x.2) (T + 1) = q at *
 generalize lostN (low x.1 x.2) T = p at *
 generalize low x.1 x.2 = y at *
 generalize low (p.1 * q.2 - q.1 * p.2) (p.2 * q.2) = r at *
 simp only [gv, hgT, hta]
 simp only [fv] at *
 have hh0 : (0 : Int) ≤ (hr : Int) := Int.natCast_nonneg hr
 have hh1 : (hr : Int) < (g.traffic.length : Int) := by omega
 have hc1 : ((T + 1 : Nat) : Int) = (T : Int) + 1 := by omega
 simp only [hc1] at hlo2
 clear b1 b2 b3 p1 p2 q1 q2 hpa hx hL hc1 ht
 go_enter s97, ntmps97
 go_wp2_with (go_at_call 50; (with_reducible refine (hof _).mono ?_); rintro e w1 ⟨rfl, hB1⟩; (first | (replace hB := Below.call (by with_reducible assumption) hB1 (Nat.le_refl _)) | (replace hB := Below.call (by go_grown) hB1 (Nat.le_refl _)) | (have hB := hB1)); (try clear hc hg hz); obtain ⟨hc, hg⟩ := bcell hB; have hz := hB.size; clear hB1; (try simp at hz); (try have hlt0 : w.heap.size < w1.heap.size := by omega))
 have hBx := Below.call (B := w.heap.size) (by go_grown) hB (Nat.le_refl _)
 have hl1 : HasMap m w1 := by obtain ⟨L, h⟩ := HL.out; exact ⟨L, h.keep hBx⟩
 have hX : SavedS w m w.heap.size w1.heap.size (w.heap.size + 1) T y (w1.alloc (.cells #[.int .i64 y.1, .int .i64 y.2] 74)).drew := by
  have c0 : w1.cell? ⟨w.heap.size, 1, none⟩ = some (.int .i64 T) := by rw [hc _ _ (by simp <;> omega)]; go_cell
  have r0 : w1.cell? ⟨w.heap.size + 1, 0, none⟩ = some (.int .i64 0) := by rw [hc _ _ (by simp <;> omega)]; go_cell
  have r1 : w1.cell? ⟨w.heap.size + 1, 1, none⟩ = some (.int .i64 0) := by rw [hc _ _ (by simp <;> omega)]; go_cell
  have f0 : w1.frozen? ⟨w.heap.size + 1, 0, none⟩ = false := by rw [hg _ _ (by simp <;> omega)]; go_cell
  have f1 : w1.frozen? ⟨w.heap.size + 1, 1, none⟩ = false := by rw [hg _ _ (by simp <;> omega)]; go_cell
  obtain ⟨L, h⟩ := hl1
  have hb2 : Below w1.heap.size w1 (w1.alloc (.cells #[.int .i64 y.1, .int .i64 y.2] 74)).drew := ((Below.refl _ w1).alloc (Nat.le_refl _) _).drew
  exact ⟨by go_cell, by go_cell, cell_alloc c0, some_at (is_some (cell_alloc r0)), some_at (is_some (cell_alloc r1)), frozen_alloc r0 f0, frozen_alloc r1 f1, ⟨L, h.keep hb2⟩, grown_below (Below.call hBx hb2 (Nat.le_refl _))⟩
 have hw : IntKind.i64.wrap ((T : Int) + 1) = (T : Int) + 1 := IntWalk.i64_in _ (by omega)
 clear hc hg hB HL hl1
 go_region_held3 (fun W => W.cell? ⟨w1.heap.size, 0, none⟩ = some (.int .i64 y.1) ∧ W.cell? ⟨w1.heap.size, 1, none⟩ = some (.int .i64 y.2) ∧ W.cell? ⟨w.heap.size, 1, none⟩ = some (.int .i64 T) ∧ W.cell? ⟨w.heap.size + 1, 0, none⟩ = some (atD W ⟨w.heap.size + 1, 0, none⟩) ∧ W.cell? ⟨w.heap.size + 1, 1, none⟩ = some (atD W ⟨w.heap.size + 1, 1, none⟩) ∧
  W.frozen? ⟨w.heap.size + 1, 0, none⟩ = false ∧ W.frozen? ⟨w.heap.size + 1, 1, none⟩ = false ∧ HasMap m W ∧ w.grownBy W (some m))
  (first | exact hX | ((with_reducible refine SavedS.lost ?_ ?_ ?_ ?_ hO); assumption; omega; omega; omega) | ((with_reducible refine SavedS.call ?_ hB1); assumption) | ((with_reducible refine SavedS.put _ _ ?_ ?_ ?_ ?_ ?_); assumption; omega; omega; omega; omega))
  (first | (go_at_call 107; (first | (with_reducible refine (hlo _ ?_).mono ?_) | (with_reducible refine (hlo2 _ ?_).mono ?_)); (go_split_ands; assumption); rintro e w2 ⟨rfl, hO⟩) | (go_at_call 43; refine (hmi _).mono ?_; rintro e w2 ⟨rfl, hB1⟩))
 all_goals
  go_wp2
  rename_i hH
  obtain ⟨_, _, _, u0, u1, _, _, uM, uG⟩ := hH
  exact ret_box2 results97 src_agg74 src_size74 rfl (some_at (some_of_set (some_of_set (is_some u0)))) (some_at (some_of_set (some_of_set (is_some u1)))) ⟨rfl, uM, uG⟩
end Go.Proofs.Tryd
end
section
namespace Go.Proofs.Tryd
open Go Go.Load Go.RowKit
theorem saved_bound {x : Int × Int} (h1 : 0 ≤ x.1) (h2 : x.1 ≤ 12) (h3 : 1 ≤ x.2) (h4 : x.2 ≤ 4) {T : Nat} (hT : T ≤ 6) : 0 ≤ (savedN x T).1 ∧ (savedN x T).1 < 4611686018427387904 ∧ 1 ≤ (savedN x T).2 ∧ (savedN x T).2 < 4611686018427387904 := by
 obtain ⟨b1, b2, b3⟩ := saved_ok h1 h2 h3 h4 hT
 obtain ⟨p1, p2, _⟩ := lost_bound h1 h2 h3 h4 T (by omega)
 obtain ⟨q1, q2, _⟩ := lost_bound h1 h2 h3 h4 (T + 1) (by omega)
 have m1 := Int.mul_nonneg q1 (show 0 ≤ (lostN x T).2 by omega)
 have m2 : 0 < (lostN x T).2 * (lostN x (T + 1)).2 := Int.mul_pos (by omega) (by omega)
 unfold savedN
 obtain ⟨t1, t2, t3, t4, _⟩ := low_facts (a := (lostN x T).1 * (lostN x (T + 1)).2 - (lostN x (T + 1)).1 * (lostN x T).2) (b := (lostN x T).2 * (lostN x (T + 1)).2) (by omega) m2
 exact ⟨t1, by omega, t3, by omega⟩
def grpSaved (g : Grp) (h : Nat) : Int × Int := savedN (low (g.traffic.getD h (0, 1)).1 (g.traffic.getD h (0, 1)).2) g.trunks.toNat
def bestN (B : Bk) (h : Nat) : Nat → Int × (Int × Int)
 | 0 => (-1, (0, 1))
 | k + 1 => match B.gs[k]? with
   | none => bestN B h k
   | some g => if g.trunks = 7 then bestN B h k else if (bestN B h k).1 = -1 ∨ above (grpSaved g h) (bestN B h k).2 = true then ((k : Int), grpSaved g h) else bestN B h k
theorem bestN_in {B : Bk} (hV : Valid B) {h : Nat} (hh : (h : Int) < B.hours) : ∀ k, -1 ≤ (bestN B h k).1 ∧ (bestN B h k).1 < k ∧ 0 ≤ (bestN B h k).2.1 ∧ (bestN B h k).2.1 < 4611686018427387904 ∧ 1 ≤ (bestN B h k).2.2 ∧ (bestN B h k).2.2 < 4611686018427387904
 | 0 => by simp [bestN]
 | k + 1 => by
   have ih := bestN_in hV hh k
   simp only [bestN]
   cases hg : B.gs[k]? with
   | none => exact ⟨ih.1, by have := ih.2.1; show (bestN B h k).1 < ((k + 1 : Nat) : Int); omega, ih.2.2⟩
   | some g =>
     simp only
     have hG := hV.grp g (List.mem_of_getElem? hg)
     by_cases h7 : g.trunks = 7
     ·rw [if_pos h7]; exact ⟨ih.1, by have := ih.2.1; omega, ih.2.2⟩
     ·rw [if_neg h7]
      split
      ·have hl : h < g.traffic.length := by have := hG.len; omega
       have hx := hG.traf _ (List.getElem_mem hl)
       obtain ⟨k1, k2, k3, k4⟩ := low_in hx.1.1 hx.1.2 hx.2.1 hx.2.2
       have hs := saved_bound k1 k2 k3 k4 (T := g.trunks.toNat) (by have := hG.tr7; omega)
       have e : g.traffic.getD h (0, 1) = g.traffic[h] := by rw [List.getD_eq_getElem?_getD, List.getElem?_eq_getElem hl]; rfl
       unfold grpSaved
       rw [e]
       exact ⟨by show (-1 : Int) ≤ (k : Int); omega, by show (k : Int) < ((k + 1 : Nat) : Int); omega, hs⟩
      ·exact ⟨ih.1, by have := ih.2.1; omega, ih.2.2⟩
structure BestS (w : World) (m : Nat) (x : Int × Int) (W : World) : Prop where
 gr : w.grownBy W (some m)
 map : HasMap m W
 size : w.heap.size + 3 ≤ W.heap.size
 r0 : W.cell? ⟨w.heap.size + 1, 0, none⟩ = some (.int .i64 0)
 r1 : W.cell? ⟨w.heap.size + 1, 1, none⟩ = some (.int .i64 0)
 f0 : W.frozen? ⟨w.heap.size + 1, 0, none⟩ = false
 f1 : W.frozen? ⟨w.heap.size + 1, 1, none⟩ = false
 m0 : W.cell? ⟨w.heap.size + 1 + 1, 0, none⟩ = some (.int .i64 x.1)
 m1 : W.cell? ⟨w.heap.size + 1 + 1, 1, none⟩ = some (.int .i64 x.2)
 e0 : W.frozen? ⟨w.heap.size + 1 + 1, 0, none⟩ = false
 e1 : W.frozen? ⟨w.heap.size + 1 + 1, 1, none⟩ = false
theorem HasMap.keep {W W1 : World} {m : Nat} (h : HasMap m W) (hB : Below W.heap.size W W1) : HasMap m W1 := let ⟨L, h⟩ := h; ⟨L, h.keep hB⟩
theorem HasMap.lt {W : World} {m : Nat} (h : HasMap m W) : m < W.heap.size := let ⟨_, h⟩ := h; h.lt
theorem HasMap.set {W : World} {m : Nat} (h : HasMap m W) {p : Addr} (hp : m ≠ p.block) (v : Value) : HasMap m (W.setCell p v) := let ⟨L, h⟩ := h; ⟨L, h.block (Below.heap_setCell _ _ _ _ hp)⟩
theorem BestS.call {w : World} {m : Nat} {x : Int × Int} {W W1 : World} (h : BestS w m x W) (hB : Below W.heap.size W W1) : BestS w m x W1 :=
 ⟨grown_trans h.gr (grown_below hB), h.map.keep hB, Nat.le_trans h.size hB.size, keep_cell _ hB h.r0, keep_cell _ hB h.r1, keep_frozen _ hB h.r0 h.f0, keep_frozen _ hB h.r1 h.f1, keep_cell _ hB h.m0, keep_cell _ hB h.m1, keep_frozen _ hB h.m0 h.e0, keep_frozen _ hB h.m1 h.e1⟩
theorem BestS.one {w : World} {m : Nat} {x : Int × Int} {W W1 : World} (h : BestS w m x W) (hm : m < w.heap.size) (hO : OneMap m W W1) : BestS w m x W1 := by
 have n1 : w.heap.size + 1 ≠ m := by omega
 have n2 : w.heap.size + 1 + 1 ≠ m := by omega
 exact ⟨grown_trans h.gr hO.2, hO.1, Nat.le_trans h.size hO.2.size, grown_cell hO.2 h.r0 n1, grown_cell hO.2 h.r1 n1, grown_frozen hO.2 h.r0 h.f0 n1, grown_frozen hO.2 h.r1 h.f1 n1, grown_cell hO.2 h.m0 n2, grown_cell hO.2 h.m1 n2, grown_frozen hO.2 h.m0 h.e0 n2, grown_frozen hO.2 h.m1 h.e1 n2⟩
theorem BestS.put {w : World} {m : Nat} {x : Int × Int} {W : World} (y : Int × Int) (h : BestS w m x W) (hm : m < w.heap.size) : BestS w m y ((W.setCell ⟨w.heap.size + 1 + 1, 0, none⟩ (.int .i64 y.1)).setCell ⟨w.heap.size + 1 + 1, 1, none⟩ (.int .i64 y.2)) := by
 have n1 : ∀ p q, (⟨w.heap.size + 1 + 1, p, none⟩ : Addr) ≠ ⟨w.heap.size + 1, q, none⟩ := fun p q h => by have := congrArg Addr.block h; simp only at this; omega
 have hp := put2 (.int .i64 y.1) (.int .i64 y.2) h.m0 h.m1
 exact ⟨grown_set (grown_set h.gr (by show _ ≤ w.heap.size + 1 + 1; omega) _) (by show _ ≤ w.heap.size + 1 + 1; omega) _, (h.map.set (by show m ≠ w.heap.size + 1 + 1; omega) _).set (by show m ≠ w.heap.size + 1 + 1; omega) _, by simpa using h.size,
  cell_other (n1 _ _) (cell_other (n1 _ _) h.r0), cell_other (n1 _ _) (cell_other (n1 _ _) h.r1), by simpa using h.f0, by simpa using h.f1, hp.1, hp.2, by simpa using h.e0, by simpa using h.e1⟩
theorem cell_ne_map {W : World} {m : Nat} (h : HasMap m W) {p : Addr} {v : Value} (hc : W.cell? p = some v) : p.block ≠ m := by
 rintro rfl
 obtain ⟨L, es, c, h1, _⟩ := h
 unfold World.cell? at hc
 rw [h1] at hc
 cases hc
theorem one_cell {w W : World} {m : Nat} (hM : HasMap m w) (h : w.grownBy W (some m)) {p : Addr} {v : Value} (hc : w.cell? p = some v) : W.cell? p = some v := grown_cell h hc (cell_ne_map hM hc)
theorem TrafAt.one {w W : World} {m : Nat} (hM : HasMap m w) (h : w.grownBy W (some m)) {g : Grp} (ht : TrafAt w g) : TrafAt W g := fun hl =>
 let ⟨b, o, e, hp⟩ := ht hl
 ⟨b, o, e, fun i x hx => ⟨one_cell hM h (hp i x hx).1, one_cell hM h (hp i x hx).2⟩⟩
theorem BookAt.one {w W : World} {m : Nat} {B : Bk} (hM : HasMap m w) (h : w.grownBy W (some m)) (hb : BookAt w B) : BookAt W B :=
 ⟨fun hl => let ⟨b, o, e, hp⟩ := hb.row hl; ⟨b, o, e, fun i g hg => let ⟨c0, c1, c2⟩ := hp i g hg; ⟨one_cell hM h c0, one_cell hM h c1, one_cell hM h c2⟩⟩, fun g hg => TrafAt.one hM h (hb.traf g hg), hb.small, hb.cap⟩
def bestV (r : Int × (Int × Int)) : Value := .tuple #[.int .i64 r.1, fv r.2]
set_option maxHeartbeats 8000000 in
set_option maxRecDepth 100000 in
theorem best_any (B : Bk) (m h : Nat) (w : World) (hb : BookAt w B) (hV : Valid B) (hG : Globs w) (hL : HasMap m w) (hh : (h : Int) < B.hours) :
 Calls srcP 62 #[bv B, .map (some m), .int .i64 h] w fun e w' => e = .returned (bestV (bestN B h B.gs.length)) ∧ OneMap m w w' := by
 have hml := hL.lt
 obtain ⟨_, _, n0, n1⟩ := hG
 have hg0 : 0 < w.heap.size := lt_of_cell n0
 obtain ⟨b, o, hga, hcs⟩ := hb.row hV.len1
 have HB := Lib.hid (bestN_in hV hh)
 have HV := Lib.hid hV
 have HH := Lib.hid hb
 have HC := Lib.hid hcs
 have HS : Hid (∀ k g, B.gs[k]? = some g → bestN B h (k + 1) = if g.trunks = 7 then bestN B h k else if (bestN B h k).1 = -1 ∨ above (grpSaved g h) (bestN B h k).2 = true then ((k : Int), grpSaved g h) else bestN B h k) := Lib.hid fun k g hg => by simp only [bestN, hg]
 have HZ : Hid (bestN B h 0 = (-1, (0, 1))) := Lib.hid rfl
 have HL := Lib.hid hL
 have HM0 := Lib.hid hL
 obtain ⟨N, hN⟩ : ∃ N, N = bestN B h := ⟨_, rfl⟩
 simp only [← hN] at HB HS HZ ⊢
 have hl4 := hV.len4
 clear hN hb hV hcs hL
 obtain ⟨lim, gr, hr, gs, ga, gc⟩ := B
 simp only at hga hh hl4
 subst hga
 unfold bestV
 simp only [bv, fv]
 go_enter s62, ntmps62
 go_wp2
 go_region
 go_wp2
 obtain ⟨W, hW⟩ : ∃ W, (((w.alloc (Obj.cells #[.int .i64 lim.1, .int .i64 lim.2, .int .i64 gr, .int .i64 hr, .slice (some ⟨b, o, none⟩) gs.length gc] 86)).alloc (Obj.cells #[.int .i64 0, .int .i64 0] 74)).alloc (Obj.cells #[.int .i64 0, .int .i64 1] 74)).drew = W := ⟨_, rfl⟩
 have hBW : Below w.heap.size w W := by subst hW; go_grown
 have hW0 : BestS w m (0, 1) W := by
  subst hW
  exact ⟨grown_below hBW, HL.out.keep hBW, by simp, by go_cell, by go_cell, by go_cell, by go_cell, by go_cell, by go_cell, by go_cell, by go_cell⟩
 rw [hW]
 clear hW HL
 go_loopw [8, 19] (fun gi i wr => ∃ k : Nat, i = .int .i64 k ∧ k ≤ gs.length ∧ gi = .int .i64 (N k).1 ∧ BestS w m (N k).2 wr) (fun _ i _ => gs.length - (intOf i).toNat)
 case atStart => exact ⟨0, rfl, by omega, by rw [HZ.out], by rw [HZ.out]; exact hW0⟩
 case round =>
  clear hW0 hBW
  obtain ⟨k, rfl, hk, rfl, hS⟩ := hrel
  have hsz := hS.size
  have hgr := hS.gr
  by_cases hlt : k < gs.length
  ·obtain ⟨g, hg⟩ : ∃ g, gs[k]? = some g := ⟨gs[k], by simp [hlt]⟩
   have hm : g ∈ gs := List.mem_of_getElem? hg
   obtain ⟨c0, c1, c2⟩ := HC.out k g hg
   have hbm : b ≠ m := cell_ne_map HM0.out c0
   have c0 := grown_cell hgr c0 hbm
   have c1 := grown_cell hgr c1 hbm
   have c2 := grown_cell hgr c2 hbm
   have hlb : b < wr.heap.size := lt_of_cell c0
   have hlb2 : b < wr.heap.size + 1 := by omega
   have hGG := HV.out.grp g hm
   obtain ⟨T, hT⟩ := Int.eq_ofNat_of_zero_le hGG.tr0
   have hT7 := hGG.tr7
   have hsn := HS.out k g hg
   obtain ⟨v0, v1, v2, v3, v4, v5⟩ := HB.out k
   have hml2 : m < wr.heap.size := by omega
   by_cases h7 : g.trunks = 7
   ·rw [if_pos h7] at hsn
    rw [h7] at c1
    have HN := Lib.hid hsn
    clear hsn hg hm h7 hT hT7 hGG
    go_wp2
    go_roundw
    case rel => exact ⟨k + 1, rfl, by omega, by rw [HN.out], by rw [HN.out]; exact hS.call ((Below.refl _ wr).alloc (Nat.le_refl _) _)⟩
    case measure => simp [intOf]; omega
   ·rw [if_neg h7] at hsn
    have hT6 : T ≤ 6 := by omega
    have h7' : ((T : Int) == 7) = false := by rw [beq_eq_false_iff_ne]; omega
    rw [hT] at c1
    have hl : h < g.traffic.length := by have := hGG.len; simp only at this; omega
    have hxT := hGG.traf _ (List.getElem_mem hl)
    have hsv := fun W hM hF => saved_any m g h T g.traffic[h] (by simp [hl]) hxT hT hT6 W hM hF
    have eD : g.traffic.getD h (0, 1) = g.traffic[h] := by rw [List.getD_eq_getElem?_getD, List.getElem?_eq_getElem hl]; rfl
    obtain ⟨k1, k2, k3, k4⟩ := low_in hxT.1.1 hxT.1.2 hxT.2.1 hxT.2.2
    have hsb := saved_bound k1 k2 k3 k4 hT6
    have eS : grpSaved g h = savedN (low g.traffic[h].1 g.traffic[h].2) T := by unfold grpSaved; rw [eD, hT, Int.toNat_natCast]
    rw [eS] at hsn
    have hF := TrafAt.one HM0.out hgr (HH.out.traf g hm)
    simp only [gv, hT, fv] at hsv
    have HSV := Lib.hid (hsv (wr.alloc (.cells #[.string g.name, .int .i64 T, .slice g.ta g.traffic.length g.tc] 72)) (hS.map.keep ((Below.refl _ wr).alloc (Nat.le_refl _) _)) (hF.keep ((Below.refl _ wr).alloc (Nat.le_refl _) _)))
    clear hsv eD eS hxT k1 k2 k3 k4 hF
    generalize savedN (low g.traffic[h].1 g.traffic[h].2) T = y at *
    have hab := fun W => above_any y (N k).2 W hsb.1 (by have := hsb.2.2.1; omega) v2 (by omega) hsb.2.1 hsb.2.2.2 v3 v5
    generalize N k = st at *
    obtain ⟨gi, z⟩ := st
    simp only [fv] at hsn hab hS v0 v1 ⊢
    have hS1 := hS.call ((Below.refl _ wr).alloc (Nat.le_refl _) (.cells #[.string g.name, .int .i64 T, .slice g.ta g.traffic.length g.tc] 72))
    have hsz1 : wr.heap.size < (wr.alloc (.cells #[.string g.name, .int .i64 T, .slice g.ta g.traffic.length g.tc] 72)).heap.size := by simp
    clear hm hg hT hT7 hGG hsb v2 v3 v4 v5 hS
    by_cases hgi : gi = -1
    ·rw [if_pos (.inl hgi)] at hsn
     have HN := Lib.hid hsn
     subst hgi
     clear hsn hab
     go_wp2_with (go_at_call 97; (with_reducible refine HSV.out.mono ?_); rintro e w1 ⟨rfl, hO⟩; have hS2 := hS1.one hml hO; have hz2 := hS2.size; have g1 := hO.2.size; simp at g1; have hz3 : w.heap.size + 1 + 1 < w1.heap.size := (by omega); obtain ⟨_, _, _, _, _, _, _, u0, u1, x0, x1⟩ := id hS2)
     go_region
     go_wp2
     go_roundw
     case rel => exact ⟨k + 1, rfl, by omega, by rw [HN.out], by rw [HN.out]; exact ((hS2.put y hml).call ((Below.refl _ _).alloc (Nat.le_refl _) _)).call (Below.refl _ _).drew⟩
     case measure => simp [intOf]; omega
    ·have hgi' : (gi == -1) = false := by rw [beq_eq_false_iff_ne]; exact hgi
     by_cases hab2 : above y z = true
     ·rw [if_pos (.inr hab2)] at hsn
      have HN := Lib.hid hsn
      simp only [hab2] at hab
      clear hsn hab2 hgi
      go_wp2_with (first | (go_at_call 97; (with_reducible refine HSV.out.mono ?_); rintro e w1 ⟨rfl, hO⟩; have hS2 := hS1.one hml hO; have hz2 := hS2.size; have g1 := hO.2.size; simp at g1; have hz3 : w.heap.size + 1 + 1 < w1.heap.size := (by omega); obtain ⟨_, _, _, _, _, _, _, u0, u1, x0, x1⟩ := id hS2) | (go_at_call 73; (with_reducible refine (hab _).mono ?_); rintro e w2 ⟨rfl, hB2⟩; have hS3 := (hS2.call ((Below.refl _ _).alloc (Nat.le_refl _) (.cells #[.int .i64 y.1, .int .i64 y.2] 74))).call hB2; have y0 := keep_cell ⟨w1.heap.size, 0, none⟩ hB2 (v := .int .i64 y.1) (by go_cell); have y1 := keep_cell ⟨w1.heap.size, 1, none⟩ hB2 (v := .int .i64 y.2) (by go_cell); clear u0 u1 x0 x1; obtain ⟨_, _, _, _, _, _, _, u0, u1, x0, x1⟩ := id hS3))
      go_region
      go_wp2
      go_roundw
      case rel => exact ⟨k + 1, rfl, by omega, by rw [HN.out], by rw [HN.out]; exact (hS3.put y hml).call (Below.refl _ _).drew⟩
      case measure => simp [intOf]; omega
     ·have hab2 : above y z = false := by simpa using hab2
      rw [if_neg (by rintro (h | h); exact hgi h; rw [hab2] at h; cases h)] at hsn
      have HN := Lib.hid hsn
      simp only [hab2] at hab
      clear hsn hab2 hgi
      go_wp2_with (first | (go_at_call 97; (with_reducible refine HSV.out.mono ?_); rintro e w1 ⟨rfl, hO⟩; have hS2 := hS1.one hml hO; have hz2 := hS2.size; have g1 := hO.2.size; simp at g1; have hz3 : w.heap.size + 1 + 1 < w1.heap.size := (by omega); obtain ⟨_, _, _, _, _, _, _, u0, u1, x0, x1⟩ := id hS2) | (go_at_call 73; (with_reducible refine (hab _).mono ?_); rintro e w2 ⟨rfl, hB2⟩; have hS3 := (hS2.call ((Below.refl _ _).alloc (Nat.le_refl _) (.cells #[.int .i64 y.1, .int .i64 y.2] 74))).call hB2))
      go_roundw
      case rel => exact ⟨k + 1, rfl, by omega, by rw [HN.out], by rw [HN.out]; exact hS3⟩
      case measure => simp [intOf]; omega
  ·obtain rfl : k = gs.length := by omega
   obtain ⟨q1, q2, q3, r0, r1, f0, f1, m0, m1, e0, e1⟩ := hS
   have hs1 : w.heap.size + 1 < wr.heap.size := by omega
   go_wp2
   go_region
   go_wp2
   have hp := put2 (.int .i64 (N gs.length).2.1) (.int .i64 (N gs.length).2.2) r0 r1
   refine bodyPost_ret (results_tc results62 rfl rfl (load_2 src_agg74 src_size74 hp.1 hp.2)) rfl ⟨rfl, ?_, ?_⟩
   ·exact ((q2.set (by show m ≠ w.heap.size + 1; omega) _).set (by show m ≠ w.heap.size + 1; omega) _).keep (Below.refl _ _).drew
   ·exact grown_trans (grown_set (grown_set q1 (p := ⟨w.heap.size + 1, 0, none⟩) (Nat.le_succ _) _) (p := ⟨w.heap.size + 1, 1, none⟩) (Nat.le_succ _) _) (grown_below (Below.refl _ _).drew)
end Go.Proofs.Tryd
end
