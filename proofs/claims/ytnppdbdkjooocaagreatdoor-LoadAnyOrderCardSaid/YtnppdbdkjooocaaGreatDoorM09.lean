/-
  A part of the proof (C27 C28): lemmas about the program and about the machine that the last text of this claim rests upon; no condition.
-/
import Derived.Deep.RegionHeld3
import Derived.IntWalk
import Derived.Deep.DeepCutAuto
import Derived.Test.YtnppdbdkjooocaaGreatDoorM06
set_option linter.unusedSimpArgs false
set_option linter.unusedVariables false
namespace Go.Proofs.Tryz
open Go Go.Load Go.RowKit
def jW (x : Int × Int) (T : Nat) : Int × Int := low ((qN x T).1 * (qN x (T + 1)).2 - (qN x (T + 1)).1 * (qN x T).2) ((qN x T).2 * (qN x (T + 1)).2)
def qgg (a b : Int) (T : Nat) : Bool := let p := qN (a, b) T; let q := qN (a, b) (T + 1); decide (p.1 * q.2 < 4611686018427387904) && decide (p.2 * q.2 < 4611686018427387904) && decide (q.1 * p.2 ≤ p.1 * q.2)
set_option maxRecDepth 100000 in
theorem qbW : (List.range 13).all (fun a => (List.range 4).all fun b => (List.range 7).all fun T => qgg a (b + 1) T) = true := by decide +kernel
theorem qcQ {x : Int × Int} (h1 : 0 ≤ x.1) (h2 : x.1 ≤ 12) (h3 : 1 ≤ x.2) (h4 : x.2 ≤ 4) {T : Nat} (hT : T ≤ 6) :
 (qN x T).1 * (qN x (T + 1)).2 < 4611686018427387904 ∧ (qN x T).2 * (qN x (T + 1)).2 < 4611686018427387904 ∧ (qN x (T + 1)).1 * (qN x T).2 ≤ (qN x T).1 * (qN x (T + 1)).2 := by
 obtain ⟨a, b⟩ := x
 simp only at h1 h2 h3 h4
 obtain ⟨n, rfl⟩ := Int.eq_ofNat_of_zero_le h1
 obtain ⟨k, hk⟩ := Int.eq_ofNat_of_zero_le (show 0 ≤ b - 1 by omega)
 obtain rfl : b = (k : Int) + 1 := by omega
 have h := qbW
 rw [List.all_eq_true] at h
 have h := h n (List.mem_range.2 (by omega))
 rw [List.all_eq_true] at h
 have h := h k (List.mem_range.2 (by omega))
 rw [List.all_eq_true] at h
 have h := h T (List.mem_range.2 (by omega))
 simp only [qgg, Bool.and_eq_true, decide_eq_true_eq] at h
 exact ⟨h.1.1, h.1.2, h.2⟩
theorem qfp (m : Nat) (T : Nat) (x : Int × Int) (h1 : 0 ≤ x.1) (h2 : x.1 ≤ 12) (h3 : 1 ≤ x.2) (h4 : x.2 ≤ 4) (hT : T ≤ 7) (w : World) (hL : ∃ L, JK w m L) :
 Calls qf 105 #[.map (some m), fv x, .int .i64 T] w fun e w' => e = .returned (fv (qN x T)) ∧ ZK m w w' := by
 obtain ⟨L, hL⟩ := hL
 exact lost_any m L T x h1 h2 h3 h4 hT w hL
def zV (m : Nat) (W : World) : Prop := ∃ L, JK W m L
abbrev xO (w : World) (m gb xb rb T : Nat) (x : Int × Int) (W : World) : Prop :=
 W.cell? ⟨xb, 0, none⟩ = some (.int .i64 x.1) ∧ W.cell? ⟨xb, 1, none⟩ = some (.int .i64 x.2) ∧ W.cell? ⟨gb, 1, none⟩ = some (.int .i64 T) ∧ W.cell? ⟨rb, 0, none⟩ = some (atD W ⟨rb, 0, none⟩) ∧ W.cell? ⟨rb, 1, none⟩ = some (atD W ⟨rb, 1, none⟩) ∧
  W.frozen? ⟨rb, 0, none⟩ = false ∧ W.frozen? ⟨rb, 1, none⟩ = false ∧ zV m W ∧ w.grownBy W (some m)
theorem xO.call {w W w1 : World} {m gb xb rb T : Nat} {x : Int × Int} (h : xO w m gb xb rb T x W) (hB : Below W.heap.size W w1) : xO w m gb xb rb T x w1 := by
 obtain ⟨a, b, c, d, e, f, g, ⟨L, i⟩, j⟩ := h
 exact ⟨qb _ hB a, qb _ hB b, qb _ hB c, qQ (qy (qb _ hB d)), qQ (qy (qb _ hB e)), qg _ hB d f, qg _ hB e g, ⟨L, i.keep hB⟩, zM j (zm hB)⟩
theorem xO.lost {w W w1 : World} {m gb xb rb T : Nat} {x : Int × Int} (h : xO w m gb xb rb T x W) (hm : m < gb) (hm2 : m < xb) (hm3 : m < rb) (hO : ZK m W w1) : xO w m gb xb rb T x w1 := by
 obtain ⟨a, b, c, d, e, f, g, ⟨L, i⟩, j⟩ := h
 obtain ⟨⟨L', k⟩, q⟩ := hO
 have n1 : xb ≠ m := Nat.ne_of_gt hm2
 have n2 : gb ≠ m := Nat.ne_of_gt hm
 have n3 : rb ≠ m := Nat.ne_of_gt hm3
 exact ⟨qw q a n1, qw q b n1, qw q c n2, qQ (qy (qw q d n3)), qQ (qy (qw q e n3)), qE q d f n3, qE q e g n3, ⟨L', k⟩, zM j q⟩
theorem xO.put {w W : World} {m gb xb rb T : Nat} {x : Int × Int} (u v : Value) (h : xO w m gb xb rb T x W) (h1 : rb ≠ xb) (h2 : rb ≠ gb) (h3 : w.heap.size ≤ rb) (h4 : m < rb) : xO w m gb xb rb T x ((W.setCell ⟨rb, 0, none⟩ u).setCell ⟨rb, 1, none⟩ v) := by
 obtain ⟨a, b, c, d, e, f, g, ⟨L, i⟩, j⟩ := h
 have n1 : ∀ p q, (⟨rb, p, none⟩ : Addr) ≠ ⟨xb, q, none⟩ := fun p q h => h1 (congrArg Addr.block h)
 have n2 : ∀ p q, (⟨rb, p, none⟩ : Addr) ≠ ⟨gb, q, none⟩ := fun p q h => h2 (congrArg Addr.block h)
 exact ⟨qc (n1 _ _) (qc (n1 _ _) a), qc (n1 _ _) (qc (n1 _ _) b), qc (n2 _ _) (qc (n2 _ _) c), qQ (qA (qA (qy d))), qQ (qA (qA (qy e))), by simpa using f, by simpa using g,
  ⟨L, i.block ((Below.heap_setCell _ _ _ _ (Nat.ne_of_lt h4)).trans (Below.heap_setCell _ _ _ _ (Nat.ne_of_lt h4)))⟩, yJ (yJ j h3 _) h3 _⟩
set_option maxHeartbeats 4000000 in
set_option maxRecDepth 100000 in
theorem qgh (m : Nat) (g : Grp) (hr T : Nat) (x : Int × Int) (hx : g.traffic[hr]? = some x) (ht : zU x) (hgT : g.trunks = T) (hT : T ≤ 6) (w : World) (hL : ∃ L, JK w m L) (hf : yF w g) :
 Calls qf 93 #[.map (some m), gv g, .int .i64 hr] w fun e w' => e = .returned (fv (jW (low x.1 x.2) T)) ∧ ZK m w w' := by
 obtain ⟨k1, k2, k3, k4⟩ := xE ht.1.1 ht.1.2 ht.2.1 ht.2.2
 have hof := fun W => YR x W ht.1.1 (by have := ht.2.1; omega) (by have := ht.1.2; omega) (by have := ht.2.2; omega)
 have hlo := fun W h => qfp m T (low x.1 x.2) k1 k2 k3 k4 (by omega) W h
 have hlo2 := fun W h => qfp m (T + 1) (low x.1 x.2) k1 k2 k3 k4 (by omega) W h
 obtain ⟨b1, b2, b3⟩ := qcQ k1 k2 k3 k4 hT
 obtain ⟨p1, p2, _⟩ := xg k1 k2 k3 k4 T (by omega)
 obtain ⟨q1, q2, _⟩ := xg k1 k2 k3 k4 (T + 1) (by omega)
 have hmi := fun W => qaA (qN (low x.1 x.2) T) (qN (low x.1 x.2) (T + 1)) W p1 (by omega) q1 (by omega) b1 b2 b3
 have hlen : hr < g.traffic.length := (List.getElem?_eq_some_iff.1 hx).1
 obtain ⟨tb, t0, hta, hpa⟩ := hf (by omega)
 obtain ⟨d0, d1⟩ := hpa hr x hx
 have hmlt : m < w.heap.size := by obtain ⟨L, h⟩ := hL; exact h.lt
 have htl : tb < w.heap.size := lt_of_cell d0
 have HL := Lib.hid hL
 unfold jW
 generalize qN (low x.1 x.2) (T + 1) = q at *
 generalize qN (low x.1 x.2) T = p at *
 generalize low x.1 x.2 = y at *
 generalize low (p.1 * q.2 - q.1 * p.2) (p.2 * q.2) = r at *
 simp only [gv, hgT, hta]
 simp only [fv] at *
 have hh0 : (0 : Int) ≤ (hr : Int) := Int.natCast_nonneg hr
 have hh1 : (hr : Int) < (g.traffic.length : Int) := by omega
 have hc1 : ((T + 1 : Nat) : Int) = (T : Int) + 1 := by omega
 simp only [hc1] at hlo2
 clear b1 b2 b3 p1 p2 q1 q2 hpa hx hL hc1 ht
 go_enter s93, ntmps93
 go_wp2_with (go_at_call 68; (with_reducible refine (hof _).mono ?_); rintro e w1 ⟨rfl, hB1⟩; (first | (replace hB := Below.call (by with_reducible assumption) hB1 (Nat.le_refl _)) | (replace hB := Below.call (by go_grown) hB1 (Nat.le_refl _)) | (have hB := hB1)); (try clear hc hg hz); obtain ⟨hc, hg⟩ := qC hB; have hz := hB.size; clear hB1; (try simp at hz); (try have hlt0 : w.heap.size < w1.heap.size := by omega))
 have hBx := Below.call (B := w.heap.size) (by go_grown) hB (Nat.le_refl _)
 have hl1 : zV m w1 := by obtain ⟨L, h⟩ := HL.out; exact ⟨L, h.keep hBx⟩
 have hX : xO w m w.heap.size w1.heap.size (w.heap.size + 1) T y (w1.alloc (.cells #[.int .i64 y.1, .int .i64 y.2] 90)).drew := by
  have c0 : w1.cell? ⟨w.heap.size, 1, none⟩ = some (.int .i64 T) := by rw [hc _ _ (by simp <;> omega)]; go_cell
  have r0 : w1.cell? ⟨w.heap.size + 1, 0, none⟩ = some (.int .i64 0) := by rw [hc _ _ (by simp <;> omega)]; go_cell
  have r1 : w1.cell? ⟨w.heap.size + 1, 1, none⟩ = some (.int .i64 0) := by rw [hc _ _ (by simp <;> omega)]; go_cell
  have f0 : w1.frozen? ⟨w.heap.size + 1, 0, none⟩ = false := by rw [hg _ _ (by simp <;> omega)]; go_cell
  have f1 : w1.frozen? ⟨w.heap.size + 1, 1, none⟩ = false := by rw [hg _ _ (by simp <;> omega)]; go_cell
  obtain ⟨L, h⟩ := hl1
  have hb2 : Below w1.heap.size w1 (w1.alloc (.cells #[.int .i64 y.1, .int .i64 y.2] 90)).drew := ((Below.refl _ w1).alloc (Nat.le_refl _) _).drew
  exact ⟨by go_cell, by go_cell, qi c0, qQ (qy (qi r0)), qQ (qy (qi r1)), qm r0 f0, qm r1 f1, ⟨L, h.keep hb2⟩, zm (Below.call hBx hb2 (Nat.le_refl _))⟩
 have hw : IntKind.i64.wrap ((T : Int) + 1) = (T : Int) + 1 := IntWalk.i64_in _ (by omega)
 clear hc hg hB HL hl1
 go_region_held3 (fun W => W.cell? ⟨w1.heap.size, 0, none⟩ = some (.int .i64 y.1) ∧ W.cell? ⟨w1.heap.size, 1, none⟩ = some (.int .i64 y.2) ∧ W.cell? ⟨w.heap.size, 1, none⟩ = some (.int .i64 T) ∧ W.cell? ⟨w.heap.size + 1, 0, none⟩ = some (atD W ⟨w.heap.size + 1, 0, none⟩) ∧ W.cell? ⟨w.heap.size + 1, 1, none⟩ = some (atD W ⟨w.heap.size + 1, 1, none⟩) ∧
  W.frozen? ⟨w.heap.size + 1, 0, none⟩ = false ∧ W.frozen? ⟨w.heap.size + 1, 1, none⟩ = false ∧ zV m W ∧ w.grownBy W (some m))
  (first | exact hX | ((with_reducible refine xO.lost ?_ ?_ ?_ ?_ hO); assumption; omega; omega; omega) | ((with_reducible refine xO.call ?_ hB1); assumption) | ((with_reducible refine xO.put _ _ ?_ ?_ ?_ ?_ ?_); assumption; omega; omega; omega; omega))
  (first | (go_at_call 105; (first | (with_reducible refine (hlo _ ?_).mono ?_) | (with_reducible refine (hlo2 _ ?_).mono ?_)); (go_split_ands; assumption); rintro e w2 ⟨rfl, hO⟩) | (go_at_call 59; refine (hmi _).mono ?_; rintro e w2 ⟨rfl, hB1⟩))
 all_goals
  go_wp2
  rename_i hH
  obtain ⟨_, _, _, u0, u1, _, _, uM, uG⟩ := hH
  exact jq results93 zY zJ rfl (qQ (zf (zf (qy u0)))) (qQ (zf (zf (qy u1)))) ⟨rfl, uM, uG⟩
theorem jv {x : Int × Int} (h1 : 0 ≤ x.1) (h2 : x.1 ≤ 12) (h3 : 1 ≤ x.2) (h4 : x.2 ≤ 4) {T : Nat} (hT : T ≤ 6) : 0 ≤ (jW x T).1 ∧ (jW x T).1 < 4611686018427387904 ∧ 1 ≤ (jW x T).2 ∧ (jW x T).2 < 4611686018427387904 := by
 obtain ⟨b1, b2, b3⟩ := qcQ h1 h2 h3 h4 hT
 obtain ⟨p1, p2, _⟩ := xg h1 h2 h3 h4 T (by omega)
 obtain ⟨q1, q2, _⟩ := xg h1 h2 h3 h4 (T + 1) (by omega)
 have m1 := Int.mul_nonneg q1 (show 0 ≤ (qN x T).2 by omega)
 have m2 : 0 < (qN x T).2 * (qN x (T + 1)).2 := Int.mul_pos (by omega) (by omega)
 unfold jW
 obtain ⟨t1, t2, t3, t4, _⟩ := xy (a := (qN x T).1 * (qN x (T + 1)).2 - (qN x (T + 1)).1 * (qN x T).2) (b := (qN x T).2 * (qN x (T + 1)).2) (by omega) m2
 exact ⟨t1, by omega, t3, by omega⟩
def qY (g : Grp) (h : Nat) : Int × Int := jW (low (g.traffic.getD h (0, 1)).1 (g.traffic.getD h (0, 1)).2) g.trunks.toNat
def qP (B : Bk) (h : Nat) : Nat → Int × (Int × Int)
 | 0 => (-1, (0, 1))
 | k + 1 => match B.gs[k]? with
   | none => qP B h k
   | some g => if g.trunks = 7 then qP B h k else if (qP B h k).1 = -1 ∨ above (qY g h) (qP B h k).2 = true then ((k : Int), qY g h) else qP B h k
theorem qco {B : Bk} (hV : Valid B) {h : Nat} (hh : (h : Int) < B.hours) : ∀ k, -1 ≤ (qP B h k).1 ∧ (qP B h k).1 < k ∧ 0 ≤ (qP B h k).2.1 ∧ (qP B h k).2.1 < 4611686018427387904 ∧ 1 ≤ (qP B h k).2.2 ∧ (qP B h k).2.2 < 4611686018427387904
 | 0 => by simp [qP]
 | k + 1 => by
   have ih := qco hV hh k
   simp only [qP]
   cases hg : B.gs[k]? with
   | none => exact ⟨ih.1, by have := ih.2.1; show (qP B h k).1 < ((k + 1 : Nat) : Int); omega, ih.2.2⟩
   | some g =>
     simp only
     have hG := hV.grp g (List.mem_of_getElem? hg)
     by_cases h7 : g.trunks = 7
     ·rw [if_pos h7]; exact ⟨ih.1, by have := ih.2.1; omega, ih.2.2⟩
     ·rw [if_neg h7]
      split
      ·have hl : h < g.traffic.length := by have := hG.len; omega
       have hx := hG.traf _ (List.getElem_mem hl)
       obtain ⟨k1, k2, k3, k4⟩ := xE hx.1.1 hx.1.2 hx.2.1 hx.2.2
       have hs := jv k1 k2 k3 k4 (T := g.trunks.toNat) (by have := hG.tr7; omega)
       have e : g.traffic.getD h (0, 1) = g.traffic[h] := by rw [List.getD_eq_getElem?_getD, List.getElem?_eq_getElem hl]; rfl
       unfold qY
       rw [e]
       exact ⟨by show (-1 : Int) ≤ (k : Int); omega, by show (k : Int) < ((k + 1 : Nat) : Int); omega, hs⟩
      ·exact ⟨ih.1, by have := ih.2.1; omega, ih.2.2⟩
structure BestS (w : World) (m : Nat) (x : Int × Int) (W : World) : Prop where
 gr : w.grownBy W (some m)
 map : zV m W
 size : w.heap.size + 3 ≤ W.heap.size
 r0 : W.cell? ⟨w.heap.size + 1, 0, none⟩ = some (.int .i64 0)
 r1 : W.cell? ⟨w.heap.size + 1, 1, none⟩ = some (.int .i64 0)
 f0 : W.frozen? ⟨w.heap.size + 1, 0, none⟩ = false
 f1 : W.frozen? ⟨w.heap.size + 1, 1, none⟩ = false
 m0 : W.cell? ⟨w.heap.size + 1 + 1, 0, none⟩ = some (.int .i64 x.1)
 m1 : W.cell? ⟨w.heap.size + 1 + 1, 1, none⟩ = some (.int .i64 x.2)
 e0 : W.frozen? ⟨w.heap.size + 1 + 1, 0, none⟩ = false
 e1 : W.frozen? ⟨w.heap.size + 1 + 1, 1, none⟩ = false
theorem zV.keep {W W1 : World} {m : Nat} (h : zV m W) (hB : Below W.heap.size W W1) : zV m W1 := let ⟨L, h⟩ := h; ⟨L, h.keep hB⟩
theorem zV.lt {W : World} {m : Nat} (h : zV m W) : m < W.heap.size := let ⟨_, h⟩ := h; h.lt
theorem zV.set {W : World} {m : Nat} (h : zV m W) {p : Addr} (hp : m ≠ p.block) (v : Value) : zV m (W.setCell p v) := let ⟨L, h⟩ := h; ⟨L, h.block (Below.heap_setCell _ _ _ _ hp)⟩
theorem BestS.call {w : World} {m : Nat} {x : Int × Int} {W W1 : World} (h : BestS w m x W) (hB : Below W.heap.size W W1) : BestS w m x W1 :=
 ⟨zM h.gr (zm hB), h.map.keep hB, Nat.le_trans h.size hB.size, qb _ hB h.r0, qb _ hB h.r1, qg _ hB h.r0 h.f0, qg _ hB h.r1 h.f1, qb _ hB h.m0, qb _ hB h.m1, qg _ hB h.m0 h.e0, qg _ hB h.m1 h.e1⟩
theorem BestS.one {w : World} {m : Nat} {x : Int × Int} {W W1 : World} (h : BestS w m x W) (hm : m < w.heap.size) (hO : ZK m W W1) : BestS w m x W1 := by
 have n1 : w.heap.size + 1 ≠ m := by omega
 have n2 : w.heap.size + 1 + 1 ≠ m := by omega
 exact ⟨zM h.gr hO.2, hO.1, Nat.le_trans h.size hO.2.size, qw hO.2 h.r0 n1, qw hO.2 h.r1 n1, qE hO.2 h.r0 h.f0 n1, qE hO.2 h.r1 h.f1 n1, qw hO.2 h.m0 n2, qw hO.2 h.m1 n2, qE hO.2 h.m0 h.e0 n2, qE hO.2 h.m1 h.e1 n2⟩
theorem BestS.put {w : World} {m : Nat} {x : Int × Int} {W : World} (y : Int × Int) (h : BestS w m x W) (hm : m < w.heap.size) : BestS w m y ((W.setCell ⟨w.heap.size + 1 + 1, 0, none⟩ (.int .i64 y.1)).setCell ⟨w.heap.size + 1 + 1, 1, none⟩ (.int .i64 y.2)) := by
 have n1 : ∀ p q, (⟨w.heap.size + 1 + 1, p, none⟩ : Addr) ≠ ⟨w.heap.size + 1, q, none⟩ := fun p q h => by have := congrArg Addr.block h; simp only at this; omega
 have hp := Ye (.int .i64 y.1) (.int .i64 y.2) h.m0 h.m1
 exact ⟨yJ (yJ h.gr (by show _ ≤ w.heap.size + 1 + 1; omega) _) (by show _ ≤ w.heap.size + 1 + 1; omega) _, (h.map.set (by show m ≠ w.heap.size + 1 + 1; omega) _).set (by show m ≠ w.heap.size + 1 + 1; omega) _, by simpa using h.size,
  qc (n1 _ _) (qc (n1 _ _) h.r0), qc (n1 _ _) (qc (n1 _ _) h.r1), by simpa using h.f0, by simpa using h.f1, hp.1, hp.2, by simpa using h.e0, by simpa using h.e1⟩
theorem YC {W : World} {m : Nat} (h : zV m W) {p : Addr} {v : Value} (hc : W.cell? p = some v) : p.block ≠ m := by
 rintro rfl
 obtain ⟨L, es, c, h1, _⟩ := h
 unfold World.cell? at hc
 rw [h1] at hc
 cases hc
theorem one_cell {w W : World} {m : Nat} (hM : zV m w) (h : w.grownBy W (some m)) {p : Addr} {v : Value} (hc : w.cell? p = some v) : W.cell? p = some v := qw h hc (YC hM hc)
theorem yF.one {w W : World} {m : Nat} (hM : zV m w) (h : w.grownBy W (some m)) {g : Grp} (ht : yF w g) : yF W g := fun hl =>
 let ⟨b, o, e, hp⟩ := ht hl
 ⟨b, o, e, fun i x hx => ⟨one_cell hM h (hp i x hx).1, one_cell hM h (hp i x hx).2⟩⟩
theorem BookAt.one {w W : World} {m : Nat} {B : Bk} (hM : zV m w) (h : w.grownBy W (some m)) (hb : BookAt w B) : BookAt W B :=
 ⟨fun hl => let ⟨b, o, e, hp⟩ := hb.row hl; ⟨b, o, e, fun i g hg => let ⟨c0, c1, c2⟩ := hp i g hg; ⟨one_cell hM h c0, one_cell hM h c1, one_cell hM h c2⟩⟩, fun g hg => yF.one hM h (hb.traf g hg), hb.small, hb.cap⟩
def bestV (r : Int × (Int × Int)) : Value := .tuple #[.int .i64 r.1, fv r.2]
set_option maxHeartbeats 8000000 in
set_option maxRecDepth 100000 in
theorem qcp (B : Bk) (m h : Nat) (w : World) (hb : BookAt w B) (hV : Valid B) (hG : Globs w) (hL : zV m w) (hh : (h : Int) < B.hours) :
 Calls qf 48 #[bv B, .map (some m), .int .i64 h] w fun e w' => e = .returned (bestV (qP B h B.gs.length)) ∧ ZK m w w' := by
 have hml := hL.lt
 obtain ⟨_, _, n0, n1⟩ := hG
 have hg0 : 1 < w.heap.size := lt_of_cell n0
 have hg00 : 0 < w.heap.size := Nat.lt_of_le_of_lt (Nat.zero_le _) hg0
 obtain ⟨b, o, hga, hcs⟩ := hb.row hV.len1
 have HB := Lib.hid (qco hV hh)
 have HV := Lib.hid hV
 have HH := Lib.hid hb
 have HC := Lib.hid hcs
 have HS : Hid (∀ k g, B.gs[k]? = some g → qP B h (k + 1) = if g.trunks = 7 then qP B h k else if (qP B h k).1 = -1 ∨ above (qY g h) (qP B h k).2 = true then ((k : Int), qY g h) else qP B h k) := Lib.hid fun k g hg => by simp only [qP, hg]
 have HZ : Hid (qP B h 0 = (-1, (0, 1))) := Lib.hid rfl
 have HL := Lib.hid hL
 have HM0 := Lib.hid hL
 obtain ⟨N, hN⟩ : ∃ N, N = qP B h := ⟨_, rfl⟩
 simp only [← hN] at HB HS HZ ⊢
 have hl4 := hV.len4
 clear hN hb hV hcs hL
 obtain ⟨lim, gr, hr, gs, ga, gc⟩ := B
 simp only at hga hh hl4
 subst hga
 unfold bestV
 simp only [bv, fv]
 go_enter s48, ntmps48
 go_wp2
 go_region
 go_wp2
 obtain ⟨W, hW⟩ : ∃ W, (((w.alloc (Obj.cells #[.int .i64 lim.1, .int .i64 lim.2, .int .i64 gr, .int .i64 hr, .slice (some ⟨b, o, none⟩) gs.length gc] 66)).alloc (Obj.cells #[.int .i64 0, .int .i64 0] 90)).alloc (Obj.cells #[.int .i64 0, .int .i64 1] 90)).drew = W := ⟨_, rfl⟩
 have hBW : Below w.heap.size w W := by subst hW; go_grown
 have hW0 : BestS w m (0, 1) W := by
  subst hW
  exact ⟨zm hBW, HL.out.keep hBW, by simp, by go_cell, by go_cell, by go_cell, by go_cell, by go_cell, by go_cell, by go_cell, by go_cell⟩
 rw [hW]
 clear hW HL
 go_loopw [8, 19] (fun gi i wr => ∃ k : Nat, i = .int .i64 k ∧ k ≤ gs.length ∧ gi = .int .i64 (N k).1 ∧ BestS w m (N k).2 wr) (fun _ i _ => gs.length - (intOf i).toNat)
 case atStart => exact ⟨0, rfl, by omega, by rw [HZ.out], by rw [HZ.out]; exact hW0⟩
 case round =>
  clear hW0 hBW
  obtain ⟨k, rfl, hk, rfl, hS⟩ := hrel
  have hsz := hS.size
  have hgr := hS.gr
  by_cases hlt : k < gs.length
  ·obtain ⟨g, hg⟩ : ∃ g, gs[k]? = some g := ⟨gs[k], by simp [hlt]⟩
   have hm : g ∈ gs := List.mem_of_getElem? hg
   obtain ⟨c0, c1, c2⟩ := HC.out k g hg
   have hbm : b ≠ m := YC HM0.out c0
   have c0 := qw hgr c0 hbm
   have c1 := qw hgr c1 hbm
   have c2 := qw hgr c2 hbm
   have hlb : b < wr.heap.size := lt_of_cell c0
   have hlb2 : b < wr.heap.size + 1 := by omega
   have hGG := HV.out.grp g hm
   obtain ⟨T, hT⟩ := Int.eq_ofNat_of_zero_le hGG.tr0
   have hT7 := hGG.tr7
   have hsn := HS.out k g hg
   obtain ⟨v0, v1, v2, v3, v4, v5⟩ := HB.out k
   have hml2 : m < wr.heap.size := by omega
   by_cases h7 : g.trunks = 7
   ·rw [if_pos h7] at hsn
    rw [h7] at c1
    have HN := Lib.hid hsn
    clear hsn hg hm h7 hT hT7 hGG
    go_wp2
    go_roundw
    case rel => exact ⟨k + 1, rfl, by omega, by rw [HN.out], by rw [HN.out]; exact hS.call ((Below.refl _ wr).alloc (Nat.le_refl _) _)⟩
    case measure => simp [intOf]; omega
   ·rw [if_neg h7] at hsn
    have hT6 : T ≤ 6 := by omega
    have h7' : ((T : Int) == 7) = false := by rw [beq_eq_false_iff_ne]; omega
    rw [hT] at c1
    have hl : h < g.traffic.length := by have := hGG.len; simp only at this; omega
    have hxT := hGG.traf _ (List.getElem_mem hl)
    have hsv := fun W hM hF => qgh m g h T g.traffic[h] (by simp [hl]) hxT hT hT6 W hM hF
    have eD : g.traffic.getD h (0, 1) = g.traffic[h] := by rw [List.getD_eq_getElem?_getD, List.getElem?_eq_getElem hl]; rfl
    obtain ⟨k1, k2, k3, k4⟩ := xE hxT.1.1 hxT.1.2 hxT.2.1 hxT.2.2
    have hsb := jv k1 k2 k3 k4 hT6
    have eS : qY g h = jW (low g.traffic[h].1 g.traffic[h].2) T := by unfold qY; rw [eD, hT, Int.toNat_natCast]
    rw [eS] at hsn
    have hF := yF.one HM0.out hgr (HH.out.traf g hm)
    simp only [gv, hT, fv] at hsv
    have HSV := Lib.hid (hsv (wr.alloc (.cells #[.string g.name, .int .i64 T, .slice g.ta g.traffic.length g.tc] 43)) (hS.map.keep ((Below.refl _ wr).alloc (Nat.le_refl _) _)) (hF.keep ((Below.refl _ wr).alloc (Nat.le_refl _) _)))
    clear hsv eD eS hxT k1 k2 k3 k4 hF
    generalize jW (low g.traffic[h].1 g.traffic[h].2) T = y at *
    have hab := fun W => Yu y (N k).2 W hsb.1 (by have := hsb.2.2.1; omega) v2 (by omega) hsb.2.1 hsb.2.2.2 v3 v5
    generalize N k = st at *
    obtain ⟨gi, z⟩ := st
    simp only [fv] at hsn hab hS v0 v1 ⊢
    have hS1 := hS.call ((Below.refl _ wr).alloc (Nat.le_refl _) (.cells #[.string g.name, .int .i64 T, .slice g.ta g.traffic.length g.tc] 43))
    have hsz1 : wr.heap.size < (wr.alloc (.cells #[.string g.name, .int .i64 T, .slice g.ta g.traffic.length g.tc] 43)).heap.size := by simp
    clear hm hg hT hT7 hGG hsb v2 v3 v4 v5 hS
    by_cases hgi : gi = -1
    ·rw [if_pos (.inl hgi)] at hsn
     have HN := Lib.hid hsn
     subst hgi
     clear hsn hab
     go_wp2_with (go_at_call 93; (with_reducible refine HSV.out.mono ?_); rintro e w1 ⟨rfl, hO⟩; have hS2 := hS1.one hml hO; have hz2 := hS2.size; have g1 := hO.2.size; simp at g1; have hz3 : w.heap.size + 1 + 1 < w1.heap.size := (by omega); obtain ⟨_, _, _, _, _, _, _, u0, u1, x0, x1⟩ := id hS2)
     go_region
     go_wp2
     go_roundw
     case rel => exact ⟨k + 1, rfl, by omega, by rw [HN.out], by rw [HN.out]; exact ((hS2.put y hml).call ((Below.refl _ _).alloc (Nat.le_refl _) _)).call (Below.refl _ _).drew⟩
     case measure => simp [intOf]; omega
    ·have hgi' : (gi == -1) = false := by rw [beq_eq_false_iff_ne]; exact hgi
     by_cases hab2 : above y z = true
     ·rw [if_pos (.inr hab2)] at hsn
      have HN := Lib.hid hsn
      simp only [hab2] at hab
      clear hsn hab2 hgi
      go_wp2_with (first | (go_at_call 93; (with_reducible refine HSV.out.mono ?_); rintro e w1 ⟨rfl, hO⟩; have hS2 := hS1.one hml hO; have hz2 := hS2.size; have g1 := hO.2.size; simp at g1; have hz3 : w.heap.size + 1 + 1 < w1.heap.size := (by omega); obtain ⟨_, _, _, _, _, _, _, u0, u1, x0, x1⟩ := id hS2) | (go_at_call 69; (with_reducible refine (hab _).mono ?_); rintro e w2 ⟨rfl, hB2⟩; have hS3 := (hS2.call ((Below.refl _ _).alloc (Nat.le_refl _) (.cells #[.int .i64 y.1, .int .i64 y.2] 90))).call hB2; have y0 := qb ⟨w1.heap.size, 0, none⟩ hB2 (v := .int .i64 y.1) (by go_cell); have y1 := qb ⟨w1.heap.size, 1, none⟩ hB2 (v := .int .i64 y.2) (by go_cell); clear u0 u1 x0 x1; obtain ⟨_, _, _, _, _, _, _, u0, u1, x0, x1⟩ := id hS3))
      go_region
      go_wp2
      go_roundw
      case rel => exact ⟨k + 1, rfl, by omega, by rw [HN.out], by rw [HN.out]; exact (hS3.put y hml).call (Below.refl _ _).drew⟩
      case measure => simp [intOf]; omega
     ·have hab2 : above y z = false := by simpa using hab2
      rw [if_neg (by rintro (h | h); exact hgi h; rw [hab2] at h; cases h)] at hsn
      have HN := Lib.hid hsn
      simp only [hab2] at hab
      clear hsn hab2 hgi
      go_wp2_with (first | (go_at_call 93; (with_reducible refine HSV.out.mono ?_); rintro e w1 ⟨rfl, hO⟩; have hS2 := hS1.one hml hO; have hz2 := hS2.size; have g1 := hO.2.size; simp at g1; have hz3 : w.heap.size + 1 + 1 < w1.heap.size := (by omega); obtain ⟨_, _, _, _, _, _, _, u0, u1, x0, x1⟩ := id hS2) | (go_at_call 69; (with_reducible refine (hab _).mono ?_); rintro e w2 ⟨rfl, hB2⟩; have hS3 := (hS2.call ((Below.refl _ _).alloc (Nat.le_refl _) (.cells #[.int .i64 y.1, .int .i64 y.2] 90))).call hB2))
      go_roundw
      case rel => exact ⟨k + 1, rfl, by omega, by rw [HN.out], by rw [HN.out]; exact hS3⟩
      case measure => simp [intOf]; omega
  ·obtain rfl : k = gs.length := by omega
   obtain ⟨q1, q2, q3, r0, r1, f0, f1, m0, m1, e0, e1⟩ := hS
   have hs1 : w.heap.size + 1 < wr.heap.size := by omega
   go_wp2
   go_region
   go_wp2
   have hp := Ye (.int .i64 (N gs.length).2.1) (.int .i64 (N gs.length).2.2) r0 r1
   refine bodyPost_ret (qdN results48 rfl rfl (xx zY zJ hp.1 hp.2)) rfl ⟨rfl, ?_, ?_⟩
   ·exact ((q2.set (by show m ≠ w.heap.size + 1; omega) _).set (by show m ≠ w.heap.size + 1; omega) _).keep (Below.refl _ _).drew
   ·exact zM (yJ (yJ q1 (p := ⟨w.heap.size + 1, 0, none⟩) (Nat.le_succ _) _) (p := ⟨w.heap.size + 1, 1, none⟩) (Nat.le_succ _) _) (zm (Below.refl _ _).drew)
end Go.Proofs.Tryz
