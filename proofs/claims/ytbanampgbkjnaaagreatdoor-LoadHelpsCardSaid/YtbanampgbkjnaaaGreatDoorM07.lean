/-
  A part of the proof (C27 C28 B7 B8 B9 C24): lemmas about the program and about the machine that the last text of this claim rests upon; no condition.
-/
import Derived.Deep.RegionHeld3
import Derived.IntWalk
import Derived.Deep.DeepCutAuto
import Derived.Deep.Cut
import Derived.Deep.CutRange
import Derived.Deep.Light
import Derived.Test.YtbanampgbkjnaaaGreatDoorM06
import Derived.Test.YtbanampgbkjnaaaGreatDoorM04
import Derived.Test.YtbanampgbkjnaaaGreatDoorM02
set_option linter.unusedSimpArgs false
set_option linter.unusedVariables false
namespace Go.Proofs.Tryz
open Go Go.Load Go.RowKit
def jy (x : Int × Int) (T : Nat) : Int × Int := low ((qJ x T).1 * (qJ x (T + 1)).2 - (qJ x (T + 1)).1 * (qJ x T).2) ((qJ x T).2 * (qJ x (T + 1)).2)
def qeP (a b : Int) (T : Nat) : Bool := let p := qJ (a, b) T; let q := qJ (a, b) (T + 1); decide (p.1 * q.2 < 4611686018427387904) && decide (p.2 * q.2 < 4611686018427387904) && decide (q.1 * p.2 ≤ p.1 * q.2)
set_option maxRecDepth 100000 in
theorem qaz : (List.range 13).all (fun a => (List.range 4).all fun b => (List.range 7).all fun T => qeP a (b + 1) T) = true := by decide +kernel
theorem qbS {x : Int × Int} (h1 : 0 ≤ x.1) (h2 : x.1 ≤ 12) (h3 : 1 ≤ x.2) (h4 : x.2 ≤ 4) {T : Nat} (hT : T ≤ 6) :
 (qJ x T).1 * (qJ x (T + 1)).2 < 4611686018427387904 ∧ (qJ x T).2 * (qJ x (T + 1)).2 < 4611686018427387904 ∧ (qJ x (T + 1)).1 * (qJ x T).2 ≤ (qJ x T).1 * (qJ x (T + 1)).2 := by
 obtain ⟨a, b⟩ := x
 simp only at h1 h2 h3 h4
 obtain ⟨n, rfl⟩ := Int.eq_ofNat_of_zero_le h1
 obtain ⟨k, hk⟩ := Int.eq_ofNat_of_zero_le (show 0 ≤ b - 1 by omega)
 obtain rfl : b = (k : Int) + 1 := by omega
 have h := qaz
 rw [List.all_eq_true] at h
 have h := h n (List.mem_range.2 (by omega))
 rw [List.all_eq_true] at h
 have h := h k (List.mem_range.2 (by omega))
 rw [List.all_eq_true] at h
 have h := h T (List.mem_range.2 (by omega))
 simp only [qeP, Bool.and_eq_true, decide_eq_true_eq] at h
 exact ⟨h.1.1, h.1.2, h.2⟩
theorem qfC (m : Nat) (T : Nat) (x : Int × Int) (h1 : 0 ≤ x.1) (h2 : x.1 ≤ 12) (h3 : 1 ≤ x.2) (h4 : x.2 ≤ 4) (hT : T ≤ 7) (w : World) (hL : ∃ L, Jg w m L) :
 Calls qf 102 #[.map (some m), fv x, .int .i64 T] w fun e w' => e = .returned (fv (qJ x T)) ∧ Zw m w w' := by
 obtain ⟨L, hL⟩ := hL
 exact lost_any m L T x h1 h2 h3 h4 hT w hL
def zR (m : Nat) (W : World) : Prop := ∃ L, Jg W m L
abbrev xR (w : World) (m gb xb rb T : Nat) (x : Int × Int) (W : World) : Prop :=
 W.cell? ⟨xb, 0, none⟩ = some (.int .i64 x.1) ∧ W.cell? ⟨xb, 1, none⟩ = some (.int .i64 x.2) ∧ W.cell? ⟨gb, 1, none⟩ = some (.int .i64 T) ∧ W.cell? ⟨rb, 0, none⟩ = some (atD W ⟨rb, 0, none⟩) ∧ W.cell? ⟨rb, 1, none⟩ = some (atD W ⟨rb, 1, none⟩) ∧
  W.frozen? ⟨rb, 0, none⟩ = false ∧ W.frozen? ⟨rb, 1, none⟩ = false ∧ zR m W ∧ w.grownBy W (some m)
theorem xR.call {w W w1 : World} {m gb xb rb T : Nat} {x : Int × Int} (h : xR w m gb xb rb T x W) (hB : Below W.heap.size W w1) : xR w m gb xb rb T x w1 := by
 obtain ⟨a, b, c, d, e, f, g, ⟨L, i⟩, j⟩ := h
 exact ⟨qb _ hB a, qb _ hB b, qb _ hB c, qL (qw (qb _ hB d)), qL (qw (qb _ hB e)), qg _ hB d f, qg _ hB e g, ⟨L, i.keep hB⟩, zL j (zi hB)⟩
theorem xR.lost {w W w1 : World} {m gb xb rb T : Nat} {x : Int × Int} (h : xR w m gb xb rb T x W) (hm : m < gb) (hm2 : m < xb) (hm3 : m < rb) (hO : Zw m W w1) : xR w m gb xb rb T x w1 := by
 obtain ⟨a, b, c, d, e, f, g, ⟨L, i⟩, j⟩ := h
 obtain ⟨⟨L', k⟩, q⟩ := hO
 have n1 : xb ≠ m := Nat.ne_of_gt hm2
 have n2 : gb ≠ m := Nat.ne_of_gt hm
 have n3 : rb ≠ m := Nat.ne_of_gt hm3
 exact ⟨qo q a n1, qo q b n1, qo q c n2, qL (qw (qo q d n3)), qL (qw (qo q e n3)), qA q d f n3, qA q e g n3, ⟨L', k⟩, zL j q⟩
theorem xR.put {w W : World} {m gb xb rb T : Nat} {x : Int × Int} (u v : Value) (h : xR w m gb xb rb T x W) (h1 : rb ≠ xb) (h2 : rb ≠ gb) (h3 : w.heap.size ≤ rb) (h4 : m < rb) : xR w m gb xb rb T x ((W.setCell ⟨rb, 0, none⟩ u).setCell ⟨rb, 1, none⟩ v) := by
 obtain ⟨a, b, c, d, e, f, g, ⟨L, i⟩, j⟩ := h
 have n1 : ∀ p q, (⟨rb, p, none⟩ : Addr) ≠ ⟨xb, q, none⟩ := fun p q h => h1 (congrArg Addr.block h)
 have n2 : ∀ p q, (⟨rb, p, none⟩ : Addr) ≠ ⟨gb, q, none⟩ := fun p q h => h2 (congrArg Addr.block h)
 exact ⟨qc (n1 _ _) (qc (n1 _ _) a), qc (n1 _ _) (qc (n1 _ _) b), qc (n2 _ _) (qc (n2 _ _) c), qL (qx (qx (qw d))), qL (qx (qx (qw e))), by simpa using f, by simpa using g,
  ⟨L, i.block ((Below.heap_setCell _ _ _ _ (Nat.ne_of_lt h4)).trans (Below.heap_setCell _ _ _ _ (Nat.ne_of_lt h4)))⟩, yD (yD j h3 _) h3 _⟩
set_option maxHeartbeats 4000000 in
set_option maxRecDepth 100000 in
theorem qdv (m : Nat) (g : Grp) (hr T : Nat) (x : Int × Int) (hx : g.traffic[hr]? = some x) (ht : yu x) (hgT : g.trunks = T) (hT : T ≤ 6) (w : World) (hL : ∃ L, Jg w m L) (hf : yE w g) :
 Calls qf 73 #[.map (some m), gv g, .int .i64 hr] w fun e w' => e = .returned (fv (jy (low x.1 x.2) T)) ∧ Zw m w w' := by
 obtain ⟨k1, k2, k3, k4⟩ := xN ht.1.1 ht.1.2 ht.2.1 ht.2.2
 have hof := fun W => YJ x W ht.1.1 (by have := ht.2.1; omega) (by have := ht.1.2; omega) (by have := ht.2.2; omega)
 have hlo := fun W h => qfC m T (low x.1 x.2) k1 k2 k3 k4 (by omega) W h
 have hlo2 := fun W h => qfC m (T + 1) (low x.1 x.2) k1 k2 k3 k4 (by omega) W h
 obtain ⟨b1, b2, b3⟩ := qbS k1 k2 k3 k4 hT
 obtain ⟨p1, p2, _⟩ := yS k1 k2 k3 k4 T (by omega)
 obtain ⟨q1, q2, _⟩ := yS k1 k2 k3 k4 (T + 1) (by omega)
 have hmi := fun W => JK (qJ (low x.1 x.2) T) (qJ (low x.1 x.2) (T + 1)) W p1 (by omega) q1 (by omega) b1 b2 b3
 have hlen : hr < g.traffic.length := (List.getElem?_eq_some_iff.1 hx).1
 obtain ⟨tb, t0, hta, hpa⟩ := hf (by omega)
 obtain ⟨d0, d1⟩ := hpa hr x hx
 have hmlt : m < w.heap.size := by obtain ⟨L, h⟩ := hL; exact h.lt
 have htl : tb < w.heap.size := lt_of_cell d0
 have HL := Lib.hid hL
 unfold jy
 generalize qJ (low x.1 x.2) (T + 1) = q at *
 generalize qJ (low x.1 x.2) T = p at *
 generalize low x.1 x.2 = y at *
 generalize low (p.1 * q.2 - q.1 * p.2) (p.2 * q.2) = r at *
 simp only [gv, hgT, hta]
 simp only [fv] at *
 have hh0 : (0 : Int) ≤ (hr : Int) := Int.natCast_nonneg hr
 have hh1 : (hr : Int) < (g.traffic.length : Int) := by omega
 have hc1 : ((T + 1 : Nat) : Int) = (T : Int) + 1 := by omega
 simp only [hc1] at hlo2
 clear b1 b2 b3 p1 p2 q1 q2 hpa hx hL hc1 ht
 go_enter s73, ntmps73
 go_wp2_with (go_at_call 70; (with_reducible refine (hof _).mono ?_); rintro e w1 ⟨rfl, hB1⟩; (first | (replace hB := Below.call (by with_reducible assumption) hB1 (Nat.le_refl _)) | (replace hB := Below.call (by go_grown) hB1 (Nat.le_refl _)) | (have hB := hB1)); (try clear hc hg hz); obtain ⟨hc, hg⟩ := qy hB; have hz := hB.size; clear hB1; (try simp at hz); (try have hlt0 : w.heap.size < w1.heap.size := by omega))
 have hBx := Below.call (B := w.heap.size) (by go_grown) hB (Nat.le_refl _)
 have hl1 : zR m w1 := by obtain ⟨L, h⟩ := HL.out; exact ⟨L, h.keep hBx⟩
 have hX : xR w m w.heap.size w1.heap.size (w.heap.size + 1) T y (w1.alloc (.cells #[.int .i64 y.1, .int .i64 y.2] 72)).drew := by
  have c0 : w1.cell? ⟨w.heap.size, 1, none⟩ = some (.int .i64 T) := by rw [hc _ _ (by simp <;> omega)]; go_cell
  have r0 : w1.cell? ⟨w.heap.size + 1, 0, none⟩ = some (.int .i64 0) := by rw [hc _ _ (by simp <;> omega)]; go_cell
  have r1 : w1.cell? ⟨w.heap.size + 1, 1, none⟩ = some (.int .i64 0) := by rw [hc _ _ (by simp <;> omega)]; go_cell
  have f0 : w1.frozen? ⟨w.heap.size + 1, 0, none⟩ = false := by rw [hg _ _ (by simp <;> omega)]; go_cell
  have f1 : w1.frozen? ⟨w.heap.size + 1, 1, none⟩ = false := by rw [hg _ _ (by simp <;> omega)]; go_cell
  obtain ⟨L, h⟩ := hl1
  have hb2 : Below w1.heap.size w1 (w1.alloc (.cells #[.int .i64 y.1, .int .i64 y.2] 72)).drew := ((Below.refl _ w1).alloc (Nat.le_refl _) _).drew
  exact ⟨by go_cell, by go_cell, qi c0, qL (qw (qi r0)), qL (qw (qi r1)), qm r0 f0, qm r1 f1, ⟨L, h.keep hb2⟩, zi (Below.call hBx hb2 (Nat.le_refl _))⟩
 have hw : IntKind.i64.wrap ((T : Int) + 1) = (T : Int) + 1 := IntWalk.i64_in _ (by omega)
 clear hc hg hB HL hl1
 go_region_held3 (fun W => W.cell? ⟨w1.heap.size, 0, none⟩ = some (.int .i64 y.1) ∧ W.cell? ⟨w1.heap.size, 1, none⟩ = some (.int .i64 y.2) ∧ W.cell? ⟨w.heap.size, 1, none⟩ = some (.int .i64 T) ∧ W.cell? ⟨w.heap.size + 1, 0, none⟩ = some (atD W ⟨w.heap.size + 1, 0, none⟩) ∧ W.cell? ⟨w.heap.size + 1, 1, none⟩ = some (atD W ⟨w.heap.size + 1, 1, none⟩) ∧
  W.frozen? ⟨w.heap.size + 1, 0, none⟩ = false ∧ W.frozen? ⟨w.heap.size + 1, 1, none⟩ = false ∧ zR m W ∧ w.grownBy W (some m))
  (first | exact hX | ((with_reducible refine xR.lost ?_ ?_ ?_ ?_ hO); assumption; omega; omega; omega) | ((with_reducible refine xR.call ?_ hB1); assumption) | ((with_reducible refine xR.put _ _ ?_ ?_ ?_ ?_ ?_); assumption; omega; omega; omega; omega))
  (first | (go_at_call 102; (first | (with_reducible refine (hlo _ ?_).mono ?_) | (with_reducible refine (hlo2 _ ?_).mono ?_)); (go_split_ands; assumption); rintro e w2 ⟨rfl, hO⟩) | (go_at_call 46; refine (hmi _).mono ?_; rintro e w2 ⟨rfl, hB1⟩))
 all_goals
  go_wp2
  rename_i hH
  obtain ⟨_, _, _, u0, u1, _, _, uM, uG⟩ := hH
  exact yP results73 zQ zD rfl (qL (zb (zb (qw u0)))) (qL (zb (zb (qw u1)))) ⟨rfl, uM, uG⟩
theorem jo {x : Int × Int} (h1 : 0 ≤ x.1) (h2 : x.1 ≤ 12) (h3 : 1 ≤ x.2) (h4 : x.2 ≤ 4) {T : Nat} (hT : T ≤ 6) : 0 ≤ (jy x T).1 ∧ (jy x T).1 < 4611686018427387904 ∧ 1 ≤ (jy x T).2 ∧ (jy x T).2 < 4611686018427387904 := by
 obtain ⟨b1, b2, b3⟩ := qbS h1 h2 h3 h4 hT
 obtain ⟨p1, p2, _⟩ := yS h1 h2 h3 h4 T (by omega)
 obtain ⟨q1, q2, _⟩ := yS h1 h2 h3 h4 (T + 1) (by omega)
 have m1 := Int.mul_nonneg q1 (show 0 ≤ (qJ x T).2 by omega)
 have m2 : 0 < (qJ x T).2 * (qJ x (T + 1)).2 := Int.mul_pos (by omega) (by omega)
 unfold jy
 obtain ⟨t1, t2, t3, t4, _⟩ := xm (a := (qJ x T).1 * (qJ x (T + 1)).2 - (qJ x (T + 1)).1 * (qJ x T).2) (b := (qJ x T).2 * (qJ x (T + 1)).2) (by omega) m2
 exact ⟨t1, by omega, t3, by omega⟩
def qI (g : Grp) (h : Nat) : Int × Int := jy (low (g.traffic.getD h (0, 1)).1 (g.traffic.getD h (0, 1)).2) g.trunks.toNat
def qR (B : Bk) (h : Nat) : Nat → Int × (Int × Int)
 | 0 => (-1, (0, 1))
 | k + 1 => match B.gs[k]? with
   | none => qR B h k
   | some g => if g.trunks = 7 then qR B h k else if (qR B h k).1 = -1 ∨ above (qI g h) (qR B h k).2 = true then ((k : Int), qI g h) else qR B h k
theorem qbU {B : Bk} (hV : Valid B) {h : Nat} (hh : (h : Int) < B.hours) : ∀ k, -1 ≤ (qR B h k).1 ∧ (qR B h k).1 < k ∧ 0 ≤ (qR B h k).2.1 ∧ (qR B h k).2.1 < 4611686018427387904 ∧ 1 ≤ (qR B h k).2.2 ∧ (qR B h k).2.2 < 4611686018427387904
 | 0 => by simp [qR]
 | k + 1 => by
   have ih := qbU hV hh k
   simp only [qR]
   cases hg : B.gs[k]? with
   | none => exact ⟨ih.1, by have := ih.2.1; show (qR B h k).1 < ((k + 1 : Nat) : Int); omega, ih.2.2⟩
   | some g =>
     simp only
     have hG := hV.grp g (List.mem_of_getElem? hg)
     by_cases h7 : g.trunks = 7
     ·rw [if_pos h7]; exact ⟨ih.1, by have := ih.2.1; omega, ih.2.2⟩
     ·rw [if_neg h7]
      split
      ·have hl : h < g.traffic.length := by have := hG.len; omega
       have hx := hG.traf _ (List.getElem_mem hl)
       obtain ⟨k1, k2, k3, k4⟩ := xN hx.1.1 hx.1.2 hx.2.1 hx.2.2
       have hs := jo k1 k2 k3 k4 (T := g.trunks.toNat) (by have := hG.tr7; omega)
       have e : g.traffic.getD h (0, 1) = g.traffic[h] := by rw [List.getD_eq_getElem?_getD, List.getElem?_eq_getElem hl]; rfl
       unfold qI
       rw [e]
       exact ⟨by show (-1 : Int) ≤ (k : Int); omega, by show (k : Int) < ((k + 1 : Nat) : Int); omega, hs⟩
      ·exact ⟨ih.1, by have := ih.2.1; omega, ih.2.2⟩
structure BestS (w : World) (m : Nat) (x : Int × Int) (W : World) : Prop where
 gr : w.grownBy W (some m)
 map : zR m W
 size : w.heap.size + 3 ≤ W.heap.size
 r0 : W.cell? ⟨w.heap.size + 1, 0, none⟩ = some (.int .i64 0)
 r1 : W.cell? ⟨w.heap.size + 1, 1, none⟩ = some (.int .i64 0)
 f0 : W.frozen? ⟨w.heap.size + 1, 0, none⟩ = false
 f1 : W.frozen? ⟨w.heap.size + 1, 1, none⟩ = false
 m0 : W.cell? ⟨w.heap.size + 1 + 1, 0, none⟩ = some (.int .i64 x.1)
 m1 : W.cell? ⟨w.heap.size + 1 + 1, 1, none⟩ = some (.int .i64 x.2)
 e0 : W.frozen? ⟨w.heap.size + 1 + 1, 0, none⟩ = false
 e1 : W.frozen? ⟨w.heap.size + 1 + 1, 1, none⟩ = false
theorem zR.keep {W W1 : World} {m : Nat} (h : zR m W) (hB : Below W.heap.size W W1) : zR m W1 := let ⟨L, h⟩ := h; ⟨L, h.keep hB⟩
theorem zR.lt {W : World} {m : Nat} (h : zR m W) : m < W.heap.size := let ⟨_, h⟩ := h; h.lt
theorem zR.set {W : World} {m : Nat} (h : zR m W) {p : Addr} (hp : m ≠ p.block) (v : Value) : zR m (W.setCell p v) := let ⟨L, h⟩ := h; ⟨L, h.block (Below.heap_setCell _ _ _ _ hp)⟩
theorem BestS.call {w : World} {m : Nat} {x : Int × Int} {W W1 : World} (h : BestS w m x W) (hB : Below W.heap.size W W1) : BestS w m x W1 :=
 ⟨zL h.gr (zi hB), h.map.keep hB, Nat.le_trans h.size hB.size, qb _ hB h.r0, qb _ hB h.r1, qg _ hB h.r0 h.f0, qg _ hB h.r1 h.f1, qb _ hB h.m0, qb _ hB h.m1, qg _ hB h.m0 h.e0, qg _ hB h.m1 h.e1⟩
theorem BestS.one {w : World} {m : Nat} {x : Int × Int} {W W1 : World} (h : BestS w m x W) (hm : m < w.heap.size) (hO : Zw m W W1) : BestS w m x W1 := by
 have n1 : w.heap.size + 1 ≠ m := by omega
 have n2 : w.heap.size + 1 + 1 ≠ m := by omega
 exact ⟨zL h.gr hO.2, hO.1, Nat.le_trans h.size hO.2.size, qo hO.2 h.r0 n1, qo hO.2 h.r1 n1, qA hO.2 h.r0 h.f0 n1, qA hO.2 h.r1 h.f1 n1, qo hO.2 h.m0 n2, qo hO.2 h.m1 n2, qA hO.2 h.m0 h.e0 n2, qA hO.2 h.m1 h.e1 n2⟩
theorem BestS.put {w : World} {m : Nat} {x : Int × Int} {W : World} (y : Int × Int) (h : BestS w m x W) (hm : m < w.heap.size) : BestS w m y ((W.setCell ⟨w.heap.size + 1 + 1, 0, none⟩ (.int .i64 y.1)).setCell ⟨w.heap.size + 1 + 1, 1, none⟩ (.int .i64 y.2)) := by
 have n1 : ∀ p q, (⟨w.heap.size + 1 + 1, p, none⟩ : Addr) ≠ ⟨w.heap.size + 1, q, none⟩ := fun p q h => by have := congrArg Addr.block h; simp only at this; omega
 have hp := Zb (.int .i64 y.1) (.int .i64 y.2) h.m0 h.m1
 exact ⟨yD (yD h.gr (by show _ ≤ w.heap.size + 1 + 1; omega) _) (by show _ ≤ w.heap.size + 1 + 1; omega) _, (h.map.set (by show m ≠ w.heap.size + 1 + 1; omega) _).set (by show m ≠ w.heap.size + 1 + 1; omega) _, by simpa using h.size,
  qc (n1 _ _) (qc (n1 _ _) h.r0), qc (n1 _ _) (qc (n1 _ _) h.r1), by simpa using h.f0, by simpa using h.f1, hp.1, hp.2, by simpa using h.e0, by simpa using h.e1⟩
theorem Yn {W : World} {m : Nat} (h : zR m W) {p : Addr} {v : Value} (hc : W.cell? p = some v) : p.block ≠ m := by
 rintro rfl
 obtain ⟨L, es, c, h1, _⟩ := h
 unfold World.cell? at hc
 rw [h1] at hc
 cases hc
theorem one_cell {w W : World} {m : Nat} (hM : zR m w) (h : w.grownBy W (some m)) {p : Addr} {v : Value} (hc : w.cell? p = some v) : W.cell? p = some v := qo h hc (Yn hM hc)
theorem yE.one {w W : World} {m : Nat} (hM : zR m w) (h : w.grownBy W (some m)) {g : Grp} (ht : yE w g) : yE W g := fun hl =>
 let ⟨b, o, e, hp⟩ := ht hl
 ⟨b, o, e, fun i x hx => ⟨one_cell hM h (hp i x hx).1, one_cell hM h (hp i x hx).2⟩⟩
theorem BookAt.one {w W : World} {m : Nat} {B : Bk} (hM : zR m w) (h : w.grownBy W (some m)) (hb : BookAt w B) : BookAt W B :=
 ⟨fun hl => let ⟨b, o, e, hp⟩ := hb.row hl; ⟨b, o, e, fun i g hg => let ⟨c0, c1, c2⟩ := hp i g hg; ⟨one_cell hM h c0, one_cell hM h c1, one_cell hM h c2⟩⟩, fun g hg => yE.one hM h (hb.traf g hg), hb.small, hb.cap⟩
def bestV (r : Int × (Int × Int)) : Value := .tuple #[.int .i64 r.1, fv r.2]
set_option maxHeartbeats 8000000 in
set_option maxRecDepth 100000 in
theorem qce (B : Bk) (m h : Nat) (w : World) (hb : BookAt w B) (hV : Valid B) (hG : Globs w) (hL : zR m w) (hh : (h : Int) < B.hours) :
 Calls qf 33 #[bv B, .map (some m), .int .i64 h] w fun e w' => e = .returned (bestV (qR B h B.gs.length)) ∧ Zw m w w' := by
 have hml := hL.lt
 obtain ⟨_, _, n0, n1⟩ := hG
 have hg0 : 0 < w.heap.size := lt_of_cell n0
 have hg00 : 0 < w.heap.size := Nat.lt_of_le_of_lt (Nat.zero_le _) hg0
 obtain ⟨b, o, hga, hcs⟩ := hb.row hV.len1
 have HB := Lib.hid (qbU hV hh)
 have HV := Lib.hid hV
 have HH := Lib.hid hb
 have HC := Lib.hid hcs
 have HS : Hid (∀ k g, B.gs[k]? = some g → qR B h (k + 1) = if g.trunks = 7 then qR B h k else if (qR B h k).1 = -1 ∨ above (qI g h) (qR B h k).2 = true then ((k : Int), qI g h) else qR B h k) := Lib.hid fun k g hg => by simp only [qR, hg]
 have HZ : Hid (qR B h 0 = (-1, (0, 1))) := Lib.hid rfl
 have HL := Lib.hid hL
 have HM0 := Lib.hid hL
 obtain ⟨N, hN⟩ : ∃ N, N = qR B h := ⟨_, rfl⟩
 simp only [← hN] at HB HS HZ ⊢
 have hl4 := hV.len4
 clear hN hb hV hcs hL
 obtain ⟨lim, gr, hr, gs, ga, gc⟩ := B
 simp only at hga hh hl4
 subst hga
 unfold bestV
 simp only [bv, fv]
 go_enter s33, ntmps33
 go_wp2
 go_region
 go_wp2
 obtain ⟨W, hW⟩ : ∃ W, (((w.alloc (Obj.cells #[.int .i64 lim.1, .int .i64 lim.2, .int .i64 gr, .int .i64 hr, .slice (some ⟨b, o, none⟩) gs.length gc] 67)).alloc (Obj.cells #[.int .i64 0, .int .i64 0] 72)).alloc (Obj.cells #[.int .i64 0, .int .i64 1] 72)).drew = W := ⟨_, rfl⟩
 have hBW : Below w.heap.size w W := by subst hW; go_grown
 have hW0 : BestS w m (0, 1) W := by
  subst hW
  exact ⟨zi hBW, HL.out.keep hBW, by simp, by go_cell, by go_cell, by go_cell, by go_cell, by go_cell, by go_cell, by go_cell, by go_cell⟩
 rw [hW]
 clear hW HL
 go_loopw [8, 19] (fun gi i wr => ∃ k : Nat, i = .int .i64 k ∧ k ≤ gs.length ∧ gi = .int .i64 (N k).1 ∧ BestS w m (N k).2 wr) (fun _ i _ => gs.length - (intOf i).toNat)
 case atStart => exact ⟨0, rfl, by omega, by rw [HZ.out], by rw [HZ.out]; exact hW0⟩
 case round =>
  clear hW0 hBW
  obtain ⟨k, rfl, hk, rfl, hS⟩ := hrel
  have hsz := hS.size
  have hgr := hS.gr
  by_cases hlt : k < gs.length
  ·obtain ⟨g, hg⟩ : ∃ g, gs[k]? = some g := ⟨gs[k], by simp [hlt]⟩
   have hm : g ∈ gs := List.mem_of_getElem? hg
   obtain ⟨c0, c1, c2⟩ := HC.out k g hg
   have hbm : b ≠ m := Yn HM0.out c0
   have c0 := qo hgr c0 hbm
   have c1 := qo hgr c1 hbm
   have c2 := qo hgr c2 hbm
   have hlb : b < wr.heap.size := lt_of_cell c0
   have hlb2 : b < wr.heap.size + 1 := by omega
   have hGG := HV.out.grp g hm
   obtain ⟨T, hT⟩ := Int.eq_ofNat_of_zero_le hGG.tr0
   have hT7 := hGG.tr7
   have hsn := HS.out k g hg
   obtain ⟨v0, v1, v2, v3, v4, v5⟩ := HB.out k
   have hml2 : m < wr.heap.size := by omega
   by_cases h7 : g.trunks = 7
   ·rw [if_pos h7] at hsn
    rw [h7] at c1
    have HN := Lib.hid hsn
    clear hsn hg hm h7 hT hT7 hGG
    go_wp2
    go_roundw
    case rel => exact ⟨k + 1, rfl, by omega, by rw [HN.out], by rw [HN.out]; exact hS.call ((Below.refl _ wr).alloc (Nat.le_refl _) _)⟩
    case measure => simp [intOf]; omega
   ·rw [if_neg h7] at hsn
    have hT6 : T ≤ 6 := by omega
    have h7' : ((T : Int) == 7) = false := by rw [beq_eq_false_iff_ne]; omega
    rw [hT] at c1
    have hl : h < g.traffic.length := by have := hGG.len; simp only at this; omega
    have hxT := hGG.traf _ (List.getElem_mem hl)
    have hsv := fun W hM hF => qdv m g h T g.traffic[h] (by simp [hl]) hxT hT hT6 W hM hF
    have eD : g.traffic.getD h (0, 1) = g.traffic[h] := by rw [List.getD_eq_getElem?_getD, List.getElem?_eq_getElem hl]; rfl
    obtain ⟨k1, k2, k3, k4⟩ := xN hxT.1.1 hxT.1.2 hxT.2.1 hxT.2.2
    have hsb := jo k1 k2 k3 k4 hT6
    have eS : qI g h = jy (low g.traffic[h].1 g.traffic[h].2) T := by unfold qI; rw [eD, hT, Int.toNat_natCast]
    rw [eS] at hsn
    have hF := yE.one HM0.out hgr (HH.out.traf g hm)
    simp only [gv, hT, fv] at hsv
    have HSV := Lib.hid (hsv (wr.alloc (.cells #[.string g.name, .int .i64 T, .slice g.ta g.traffic.length g.tc] 37)) (hS.map.keep ((Below.refl _ wr).alloc (Nat.le_refl _) _)) (hF.keep ((Below.refl _ wr).alloc (Nat.le_refl _) _)))
    clear hsv eD eS hxT k1 k2 k3 k4 hF
    generalize jy (low g.traffic[h].1 g.traffic[h].2) T = y at *
    have hab := fun W => YE y (N k).2 W hsb.1 (by have := hsb.2.2.1; omega) v2 (by omega) hsb.2.1 hsb.2.2.2 v3 v5
    generalize N k = st at *
    obtain ⟨gi, z⟩ := st
    simp only [fv] at hsn hab hS v0 v1 ⊢
    have hS1 := hS.call ((Below.refl _ wr).alloc (Nat.le_refl _) (.cells #[.string g.name, .int .i64 T, .slice g.ta g.traffic.length g.tc] 37))
    have hsz1 : wr.heap.size < (wr.alloc (.cells #[.string g.name, .int .i64 T, .slice g.ta g.traffic.length g.tc] 37)).heap.size := by simp
    clear hm hg hT hT7 hGG hsb v2 v3 v4 v5 hS
    by_cases hgi : gi = -1
    ·rw [if_pos (.inl hgi)] at hsn
     have HN := Lib.hid hsn
     subst hgi
     clear hsn hab
     go_wp2_with (go_at_call 73; (with_reducible refine HSV.out.mono ?_); rintro e w1 ⟨rfl, hO⟩; have hS2 := hS1.one hml hO; have hz2 := hS2.size; have g1 := hO.2.size; simp at g1; have hz3 : w.heap.size + 1 + 1 < w1.heap.size := (by omega); obtain ⟨_, _, _, _, _, _, _, u0, u1, x0, x1⟩ := id hS2)
     go_region
     go_wp2
     go_roundw
     case rel => exact ⟨k + 1, rfl, by omega, by rw [HN.out], by rw [HN.out]; exact ((hS2.put y hml).call ((Below.refl _ _).alloc (Nat.le_refl _) _)).call (Below.refl _ _).drew⟩
     case measure => simp [intOf]; omega
    ·have hgi' : (gi == -1) = false := by rw [beq_eq_false_iff_ne]; exact hgi
     by_cases hab2 : above y z = true
     ·rw [if_pos (.inr hab2)] at hsn
      have HN := Lib.hid hsn
      simp only [hab2] at hab
      clear hsn hab2 hgi
      go_wp2_with (first | (go_at_call 73; (with_reducible refine HSV.out.mono ?_); rintro e w1 ⟨rfl, hO⟩; have hS2 := hS1.one hml hO; have hz2 := hS2.size; have g1 := hO.2.size; simp at g1; have hz3 : w.heap.size + 1 + 1 < w1.heap.size := (by omega); obtain ⟨_, _, _, _, _, _, _, u0, u1, x0, x1⟩ := id hS2) | (go_at_call 71; (with_reducible refine (hab _).mono ?_); rintro e w2 ⟨rfl, hB2⟩; have hS3 := (hS2.call ((Below.refl _ _).alloc (Nat.le_refl _) (.cells #[.int .i64 y.1, .int .i64 y.2] 72))).call hB2; have y0 := qb ⟨w1.heap.size, 0, none⟩ hB2 (v := .int .i64 y.1) (by go_cell); have y1 := qb ⟨w1.heap.size, 1, none⟩ hB2 (v := .int .i64 y.2) (by go_cell); clear u0 u1 x0 x1; obtain ⟨_, _, _, _, _, _, _, u0, u1, x0, x1⟩ := id hS3))
      go_region
      go_wp2
      go_roundw
      case rel => exact ⟨k + 1, rfl, by omega, by rw [HN.out], by rw [HN.out]; exact (hS3.put y hml).call (Below.refl _ _).drew⟩
      case measure => simp [intOf]; omega
     ·have hab2 : above y z = false := by simpa using hab2
      rw [if_neg (by rintro (h | h); exact hgi h; rw [hab2] at h; cases h)] at hsn
      have HN := Lib.hid hsn
      simp only [hab2] at hab
      clear hsn hab2 hgi
      go_wp2_with (first | (go_at_call 73; (with_reducible refine HSV.out.mono ?_); rintro e w1 ⟨rfl, hO⟩; have hS2 := hS1.one hml hO; have hz2 := hS2.size; have g1 := hO.2.size; simp at g1; have hz3 : w.heap.size + 1 + 1 < w1.heap.size := (by omega); obtain ⟨_, _, _, _, _, _, _, u0, u1, x0, x1⟩ := id hS2) | (go_at_call 71; (with_reducible refine (hab _).mono ?_); rintro e w2 ⟨rfl, hB2⟩; have hS3 := (hS2.call ((Below.refl _ _).alloc (Nat.le_refl _) (.cells #[.int .i64 y.1, .int .i64 y.2] 72))).call hB2))
      go_roundw
      case rel => exact ⟨k + 1, rfl, by omega, by rw [HN.out], by rw [HN.out]; exact hS3⟩
      case measure => simp [intOf]; omega
  ·obtain rfl : k = gs.length := by omega
   obtain ⟨q1, q2, q3, r0, r1, f0, f1, m0, m1, e0, e1⟩ := hS
   have hs1 : w.heap.size + 1 < wr.heap.size := by omega
   go_wp2
   go_region
   go_wp2
   have hp := Zb (.int .i64 (N gs.length).2.1) (.int .i64 (N gs.length).2.2) r0 r1
   refine bodyPost_ret (qcO results33 rfl rfl (yG zQ zD hp.1 hp.2)) rfl ⟨rfl, ?_, ?_⟩
   ·exact ((q2.set (by show m ≠ w.heap.size + 1; omega) _).set (by show m ≠ w.heap.size + 1; omega) _).keep (Below.refl _ _).drew
   ·exact zL (yD (yD q1 (p := ⟨w.heap.size + 1, 0, none⟩) (Nat.le_succ _) _) (p := ⟨w.heap.size + 1, 1, none⟩) (Nat.le_succ _) _) (zi (Below.refl _ _).drew)
def qdX (t b n : Nat) : Bool :=
 qau (yc t b n) && qau (yc t b (n + 1)) && decide (okS (yc t b n) 268435456) && decide (okS (yc t b (n + 1)) 8589934592) && !above (yc t b (n + 1)) (yc t b n) &&
 decide (((yc t b n).1 * (yc t b (n + 1)).2 < 4611686018427387904 ∧ (yc t b n).2 * (yc t b (n + 1)).2 < 4611686018427387904) ∧ (yc t b (n + 1)).1 * (yc t b n).2 ≤ (yc t b n).1 * (yc t b (n + 1)).2) &&
 (JF t b n == jy (low (t : Int) (b : Int)) n) && qau (JF t b n)
theorem save_all : ((List.range 13).all fun t => (List.range 4).all fun b => (List.range 7).all fun n => qdX t (b + 1) n) = true := by decide +kernel
theorem Zp {t b n : Nat} (ht : t ≤ 12) (hb : 1 ≤ b ∧ b ≤ 4) (hn : n ≤ 6) : qdX t b n = true := by
 have h := save_all
 rw [List.all_eq_true] at h
 have h := h t (List.mem_range.2 (by omega))
 rw [List.all_eq_true] at h
 have h := h (b - 1) (List.mem_range.2 (by omega))
 rw [List.all_eq_true] at h
 have h := h n (List.mem_range.2 (by omega))
 rwa [show b - 1 + 1 = b by omega] at h
theorem qcn {p q : Int × Int} (h : above p q = true) : above q p = false := by
 unfold above at *
 rw [decide_eq_true_eq] at h
 rw [decide_eq_false_iff_not]
 omega
theorem qdK {p q r : Int × Int} (hp : 0 < p.2) (hq : 0 < q.2) (hr : 0 < r.2) (h1 : above p q = true) (h2 : above r q = false) : above p r = true := by
 cases h : above p r with
 | true => rfl
 | false =>
   have h3 := qaQ hp hr hq h h2
   rw [h3] at h1
   cases h1
structure BestP (B : Bk) (h k : Nat) (r : Int × (Int × Int)) : Prop where
 none : r.1 = -1 → r.2 = (0, 1) ∧ ∀ j g, j < k → B.gs[j]? = some g → g.trunks = 7
 some : r.1 ≠ -1 → ∃ i g, i < k ∧ r.1 = (i : Int) ∧ B.gs[i]? = some g ∧ g.trunks ≠ 7 ∧ r.2 = qI g h ∧
  ∀ j g', j < k → B.gs[j]? = some g' → g'.trunks ≠ 7 → above (qI g' h) r.2 = false ∧ (j < i → above r.2 (qI g' h) = true)
theorem jI {B : Bk} (hV : Valid B) {h : Nat} (hh : (h : Int) < B.hours) {j : Nat} {g : Grp} (hg : B.gs[j]? = some g) (h7 : g.trunks ≠ 7) : 0 < (qI g h).2 := by
 have hG := hV.grp g (List.mem_of_getElem? hg)
 have hl : h < g.traffic.length := by have := hG.len; omega
 have ht := hG.traf g.traffic[h] (List.getElem_mem _)
 have hd : g.traffic.getD h (0, 1) = g.traffic[h] := by rw [List.getD_eq_getElem?_getD, List.getElem?_eq_getElem hl]; rfl
 obtain ⟨k1, k2, k3, k4⟩ := xN ht.1.1 ht.1.2 ht.2.1 ht.2.2
 have t7 := hG.tr7
 have t0 := hG.tr0
 unfold qI
 rw [hd]
 have := (jo k1 k2 k3 k4 (T := g.trunks.toNat) (by omega)).2.2.1
 omega
theorem qeW {B : Bk} (hV : Valid B) {h : Nat} (hh : (h : Int) < B.hours) : ∀ k, k ≤ B.gs.length → BestP B h k (qR B h k)
 | 0, _ => ⟨fun _ => ⟨rfl, fun j g hj => absurd hj (Nat.not_lt_zero _)⟩, fun e => absurd rfl e⟩
 | k + 1, hk => by
   have ih := qeW hV hh k (by omega)
   obtain ⟨g, hg⟩ : ∃ g, B.gs[k]? = some g := ⟨B.gs[k]'(by omega), List.getElem?_eq_getElem (by omega)⟩
   simp only [qR, hg]
   have last : ∀ {j : Nat} {g' : Grp}, j < k + 1 → B.gs[j]? = some g' → (j < k ∧ B.gs[j]? = some g') ∨ (j = k ∧ g' = g) := fun hj hg' => by
    rcases Nat.lt_succ_iff_lt_or_eq.1 hj with q | rfl
    ·exact .inl ⟨q, hg'⟩
    ·rw [hg] at hg'; cases hg'; exact .inr ⟨rfl, rfl⟩
   by_cases h7 : g.trunks = 7
   ·rw [if_pos h7]
    refine ⟨fun e => ⟨(ih.none e).1, fun j g' hj hg' => ?_⟩, fun e => ?_⟩
    ·rcases last hj hg' with ⟨q, hq⟩ | ⟨rfl, rfl⟩
     ·exact (ih.none e).2 j g' q hq
     ·exact h7
    ·obtain ⟨i, gi, hi, e1, hgi, n7, e2, hall⟩ := ih.some e
     refine ⟨i, gi, by omega, e1, hgi, n7, e2, fun j g' hj hg' n7' => ?_⟩
     rcases last hj hg' with ⟨q, hq⟩ | ⟨rfl, rfl⟩
     ·exact hall j g' q hq n7'
     ·exact absurd h7 n7'
   ·rw [if_neg h7]
    have pk := jI hV hh hg h7
    by_cases hc : (qR B h k).1 = -1 ∨ above (qI g h) (qR B h k).2 = true
    ·rw [if_pos hc]
     refine ⟨fun e => absurd e (by simp only; omega), fun _ => ⟨k, g, Nat.lt_succ_self k, rfl, hg, h7, rfl, fun j g' hj hg' n7' => ?_⟩⟩
     simp only
     rcases last hj hg' with ⟨q, hq⟩ | ⟨rfl, rfl⟩
     ·by_cases e : (qR B h k).1 = -1
      ·exact absurd ((ih.none e).2 j g' q hq) n7'
      ·obtain ⟨i, gi, hi, e1, hgi, n7, e2, hall⟩ := ih.some e
       have ha := hc.resolve_left e
       have pj := jI hV hh hq n7'
       have pi := jI hV hh hgi n7
       rw [← e2] at pi
       have h1 := (hall j g' q hq n7').1
       have h2 := qdK pk pi pj ha h1
       exact ⟨qcn h2, fun _ => h2⟩
     ·refine ⟨?_, fun q => absurd q (Nat.lt_irrefl _)⟩
      unfold above
      rw [decide_eq_false_iff_not]
      omega
    ·rw [if_neg hc]
     have hn : (qR B h k).1 ≠ -1 := fun e => hc (.inl e)
     refine ⟨fun e => absurd e hn, fun e => ?_⟩
     obtain ⟨i, gi, hi, e1, hgi, n7, e2, hall⟩ := ih.some e
     refine ⟨i, gi, by omega, e1, hgi, n7, e2, fun j g' hj hg' n7' => ?_⟩
     rcases last hj hg' with ⟨q, hq⟩ | ⟨rfl, rfl⟩
     ·exact hall j g' q hq n7'
     ·refine ⟨?_, fun q => by omega⟩
      cases hx : above (qI g' h) (qR B h j).2 with
      | false => rfl
      | true => exact absurd (.inr hx) hc
theorem qbD {B : Bk} (hV : Valid B) {h : Nat} (hh : (h : Int) < B.hours) {j : Nat} {g : Grp} (hg : B.gs[j]? = some g) (h7 : g.trunks ≠ 7) : qau (qI g h) = true ∧ 0 ≤ (qI g h).1 ∧ (qI g h).1 < 4611686018427387904 ∧ 1 ≤ (qI g h).2 ∧ (qI g h).2 < 4611686018427387904 := by
 have hG := hV.grp g (List.mem_of_getElem? hg)
 have hl : h < g.traffic.length := by have := hG.len; omega
 have ht := hG.traf g.traffic[h] (List.getElem_mem _)
 have hd : g.traffic.getD h (0, 1) = g.traffic[h] := by rw [List.getD_eq_getElem?_getD, List.getElem?_eq_getElem hl]; rfl
 obtain ⟨k1, k2, k3, k4⟩ := xN ht.1.1 ht.1.2 ht.2.1 ht.2.2
 have t7 := hG.tr7
 have t0 := hG.tr0
 have hb := jo k1 k2 k3 k4 (T := g.trunks.toNat) (by omega)
 unfold qI
 rw [hd]
 refine ⟨?_, hb⟩
 generalize g.traffic[h] = x at *
 obtain ⟨x1, x2⟩ := x
 obtain ⟨⟨a1, a2⟩, a3, a4⟩ := ht
 obtain ⟨t, rfl⟩ := Int.eq_ofNat_of_zero_le a1
 obtain ⟨c, rfl⟩ := Int.eq_ofNat_of_zero_le (show 0 ≤ x2 by simp only at a3; omega)
 simp only at a2 a3 a4
 have hf := Zp (t := t) (b := c) (n := g.trunks.toNat) (by omega) ⟨by omega, by omega⟩ (by omega)
 unfold qdX at hf
 simp only [Bool.and_eq_true, decide_eq_true_eq, Bool.not_eq_true', beq_iff_eq] at hf
 rw [← hf.1.2]
 exact hf.2
theorem qaN (a : Int) (h : 0 ≤ a ∧ a ≤ 255) : IntKind.i64.wrap a = a := by rw [IntKind.wrap_i64]; omega
def jG (g : Grp) (h : Nat) : Value := if g.trunks = 7 then .tuple #[fv (0, 1), .bool false] else .tuple #[fv (qI g h), .bool true]
abbrev RG (W : World) (zg tb q : Nat) (n : Int) (sl : Value) (a : Int × Int) (X : World) : Prop :=
 X.cell? ⟨zg, 1, none⟩ = some (.int .i64 n) ∧ X.cell? ⟨zg, 2, none⟩ = some sl ∧ X.cell? ⟨tb, q, none⟩ = some (.int .i64 a.1) ∧ X.cell? ⟨tb, q + 1, none⟩ = some (.int .i64 a.2) ∧ Below W.heap.size W X
section
variable {W X Y : World} {zg tb q : Nat} {n : Int} {sl : Value} {a : Int × Int}
theorem RG.call (h : RG W zg tb q n sl a X) (hB : Below X.heap.size X Y) : RG W zg tb q n sl a Y := ⟨qb _ hB h.1, qb _ hB h.2.1, qb _ hB h.2.2.1, qb _ hB h.2.2.2.1, Below.call h.2.2.2.2 hB (Nat.le_refl _)⟩
theorem RG.drew (h : RG W zg tb q n sl a X) : RG W zg tb q n sl a X.drew := h.call (Below.refl _ X).drew
theorem RG.bel (h : RG W zg tb q n sl a X) : Below W.heap.size W X := h.2.2.2.2
theorem RG.alloc (h : RG W zg tb q n sl a X) (o : Obj) : RG W zg tb q n sl a (X.alloc o) := h.call ((Below.refl _ X).alloc (Nat.le_refl _) _)
theorem RG.set (h : RG W zg tb q n sl a X) (h1 : zg < W.heap.size) (h2 : tb < W.heap.size) {b i : Nat} (hb : W.heap.size ≤ b) (v : Value) : RG W zg tb q n sl a (X.setCell ⟨b, i, none⟩ v) :=
 ⟨qc (by simp <;> omega) h.1, qc (by simp <;> omega) h.2.1, qc (by simp <;> omega) h.2.2.1, qc (by simp <;> omega) h.2.2.2.1, h.2.2.2.2.setCell hb _⟩
end
set_option maxHeartbeats 8000000 in
set_option maxRecDepth 100000 in
theorem qeN (b o i ho tb tq n t c m gl gc tc : Nat) (lim : Int × Int) (gr hr : Int) (nm : ByteArray) (w : World) (hGl : Globs w)
 (c0 : w.cell? ⟨b, o + i * 3, none⟩ = some (.string nm)) (c1 : w.cell? ⟨b, o + i * 3 + 1, none⟩ = some (.int .i64 n)) (c2 : w.cell? ⟨b, o + i * 3 + 2, none⟩ = some (.slice (some ⟨tb, tq, none⟩) m tc))
 (p0 : w.cell? ⟨tb, tq + ho * 2, none⟩ = some (.int .i64 t)) (p1 : w.cell? ⟨tb, tq + ho * 2 + 1, none⟩ = some (.int .i64 c)) (hi : i < gl) (hgc : gl ≤ 20) (hh : ho < m) (hm : m ≤ 20) (ht : t ≤ 12) (hc : 1 ≤ c ∧ c ≤ 4) (hn : n ≤ 6) :
 Calls qf 10 #[.agg #[.int .i64 lim.1, .int .i64 lim.2, .int .i64 gr, .int .i64 hr, .slice (some ⟨b, o, none⟩) gl gc], .int .i64 i, .int .i64 ho] w fun e w' => e = .returned (.tuple #[fv (JF t c n), .bool true]) ∧ Below w.heap.size w w' := by
 have l0 : b < w.heap.size := lt_of_cell c0
 have l1 : tb < w.heap.size := lt_of_cell p0
 have n6 : IntKind.i64.wrap ((n : Int) + 1) = (n : Int) + 1 := qaN _ ⟨Int.add_nonneg (Int.natCast_nonneg n) (by decide), by have := Int.ofNat_le.2 hn; exact Int.le_trans (Int.add_le_add_right this 1) (by decide)⟩
 have h7b : ¬ ((7 : Int) ≤ (n : Int)) := by omega
 have e1 := JB (t := t) (b := c) (n := n) ht hc (by omega)
 have e2 := JB (t := t) (b := c) (n := n + 1) ht hc (by omega)
 have hf := Zp ht hc hn
 unfold qdX at hf
 simp only [Bool.and_eq_true, decide_eq_true_eq, Bool.not_eq_true', beq_iff_eq] at hf
 obtain ⟨⟨⟨⟨⟨⟨⟨f1, f2⟩, k1⟩, k2⟩, a1⟩, ⟨⟨m1, m2⟩, m3⟩⟩, sv⟩, f3⟩ := hf
 have sd : JF t c n = qdh ((yc t c n).1 * (yc t c (n + 1)).2 - (yc t c (n + 1)).1 * (yc t c n).2).toNat ((yc t c n).2 * (yc t c (n + 1)).2).toNat := rfl
 generalize JF t c n = u at *
 generalize yc t c n = x at *
 generalize yc t c (n + 1) = y at *
 obtain ⟨u1, u2⟩ := u
 obtain ⟨x1, x2⟩ := x
 obtain ⟨y1, y2⟩ := y
 rw [show ((n + 1 : Nat) : Int) = (n : Int) + 1 from rfl] at e2
 have hl1 := fun W => XH n ((t : Int), (c : Int)) W
 have hl2 := fun W => XH ((n : Int) + 1) ((t : Int), (c : Int)) W
 rw [e1] at hl1
 rw [e2] at hl2
 have hk1 := k1
 have hk2 := k2
 simp only [okS] at hk1 hk2 m1 m2 m3
 have hfx : ∀ W, Calls qf 7 #[fv (x1, x2)] W fun e w' => e = .returned (.bool true) ∧ Below W.heap.size W w' := fun W => f1 ▸ Jc (x1, x2) W hk1.1 hk1.2.2.1 (by show x1 < _; omega) (by show x2 < _; omega)
 have hfy : ∀ W, Calls qf 7 #[fv (y1, y2)] W fun e w' => e = .returned (.bool true) ∧ Below W.heap.size W w' := fun W => f2 ▸ Jc (y1, y2) W hk2.1 hk2.2.2.1 (by show y1 < _; omega) (by show y2 < _; omega)
 have hle := fun W => Jf (x1, x2) (y1, y2) W hk1.1 hk1.2.2.1 hk2.1 hk2.2.2.1 (by show x1 < _; omega) (by show x2 < _; omega) (by show y1 < _; omega) (by show y2 < _; omega)
 rw [a1] at hle
 have hmi := fun W => qeI (x1, x2) (y1, y2) W hk1.1 hk1.2.2.1 hk2.1 hk2.2.2.1 m1 m2 m3
 simp only [← sd] at hmi
 have xb : ¬ ((268435456 : Int) < x2) := by omega
 have yb : ¬ ((8589934592 : Int) < y2) := by omega
 have wn : wrap64 ((n : Int) + 1) = (n : Int) + 1 := by unfold wrap64; omega
 simp only [tv, fv] at hl1 hl2 hfx hfy hle hmi ⊢
 clear e1 e2 f1 f2 k1 k2 a1 m1 m2 m3 sv f3 sd hk1 hk2
 go_enter s10, ntmps10
 go_wp2
 obtain ⟨W1, hW1⟩ : ∃ W1, ((w.alloc (Obj.cells #[.int .i64 lim.1, .int .i64 lim.2, .int .i64 gr, .int .i64 hr, .slice (some ⟨b, o, none⟩) gl gc] 26)).alloc (Obj.cells #[.int .i64 0, .int .i64 0] 23)).alloc (Obj.cells #[.string nm, .int .i64 n, .slice (some ⟨tb, tq, none⟩) m tc] 37) = W1 := ⟨_, rfl⟩
 have g1 : W1.cell? ⟨w.heap.size + 1 + 1, 1, none⟩ = some (.int .i64 n) := by subst hW1; go_cell
 have g2 : W1.cell? ⟨w.heap.size + 1 + 1, 2, none⟩ = some (.slice (some ⟨tb, tq, none⟩) m tc) := by subst hW1; go_cell
 have r0 : W1.cell? ⟨w.heap.size + 1, 0, none⟩ = some (.int .i64 0) := by subst hW1; go_cell
 have r1 : W1.cell? ⟨w.heap.size + 1, 1, none⟩ = some (.int .i64 0) := by subst hW1; go_cell
 have r2 : W1.frozen? ⟨w.heap.size + 1, 0, none⟩ = false := by subst hW1; go_cell
 have r3 : W1.frozen? ⟨w.heap.size + 1, 1, none⟩ = false := by subst hW1; go_cell
 have hBW : Below w.heap.size w W1 := by subst hW1; go_grown
 have p0 := qb _ hBW p0
 have p1 := qb _ hBW p1
 rw [hW1]
 clear hW1 c0 c1 c2
 have zz : w.heap.size ≤ w.heap.size + 1 := by omega
 generalize w.heap.size + 1 + 1 = zg at *
 generalize w.heap.size + 1 = zr at *
 have z1 : zg < W1.heap.size := lt_of_cell g1
 have z2 : zr < W1.heap.size := lt_of_cell r0
 have z3 : tb < W1.heap.size := lt_of_cell p0
 have hS : RG W1 zg tb (tq + ho * 2) n (.slice (some ⟨tb, tq, none⟩) m tc) ((t : Int), (c : Int)) W1 := ⟨g1, g2, p0, p1, Below.refl _ _⟩
 have hK : KSt W1 W1 [] := ⟨fun p hp => absurd hp (by simp), hGl.keep hBW, Below.refl _ _⟩
 go_cut [9, 10] from 22 to 32 (fun s9 s10 wx => ∃ z, s9 = .pointer (some ⟨z, 0, none⟩) ∧ s10 = .int .i64 0 ∧ KSt W1 wx [(⟨z, 0, none⟩, .int .i64 x1), (⟨z, 1, none⟩, .int .i64 x2)])
 case first =>
  as_aux_lemma =>
   clear g1 g2 p0 p1 r0 r1
   go_region_held3 (RG W1 zg tb (tq + ho * 2) n (.slice (some ⟨tb, tq, none⟩) m tc) ((t : Int), (c : Int))) (first | exact RG.drew hS | exact hX | exact RG.alloc hX _ | exact (RG.alloc hS _).drew | exact (RG.alloc hS _).drew.drew | exact RG.set (RG.set hX z1 z3 (Nat.le_refl _) _) z1 z3 (Nat.le_refl _) _) (first | (go_at_call 16; (with_reducible refine (hl1 _).mono ?_); rintro e wy ⟨rfl, hB⟩; have hX := RG.call (by assumption) hB; (try (have c0 : wy.cell? ⟨W1.heap.size, 0, none⟩ = some (.int .i64 0) := qb _ hB (qC W1 #[.int .i64 0, .int .i64 0] 23 0 (by decide)); have c1 : wy.cell? ⟨W1.heap.size, 1, none⟩ = some (.int .i64 0) := qb _ hB (qC W1 #[.int .i64 0, .int .i64 0] 23 1 (by decide)); have q0 : wy.frozen? ⟨W1.heap.size, 0, none⟩ = false := qg _ hB (qC W1 #[.int .i64 0, .int .i64 0] 23 0 (by decide)) (yU W1 #[.int .i64 0, .int .i64 0] 23 0 (by decide)); have q1 : wy.frozen? ⟨W1.heap.size, 1, none⟩ = false := qg _ hB (qC W1 #[.int .i64 0, .int .i64 0] 23 1 (by decide)) (yU W1 #[.int .i64 0, .int .i64 0] 23 1 (by decide))))))
   all_goals (go_wp2_with fail; go_meet; first | exact ⟨_, rfl, rfl, (hK.call (RG.bel hX)).box2 _ _ _⟩ | exact ⟨_, rfl, rfl, KSt.set2 hK (RG.bel hX) c0 c1 _ _⟩)
 case rest =>
  obtain ⟨z, rfl, rfl, h⟩ := hcut
  go_upto_region 5 with fail
  have g1' := qb _ h.bw g1
  have g2' := qb _ h.bw g2
  have p0' := qb _ h.bw p0
  have p1' := qb _ h.bw p1
  have y1' := Nat.lt_of_lt_of_le z1 h.bw.size
  have y3' := Nat.lt_of_lt_of_le z3 h.bw.size
  have hS2 : RG wc zg tb (tq + ho * 2) n (.slice (some ⟨tb, tq, none⟩) m tc) ((t : Int), (c : Int)) wc := ⟨g1', g2', p0', p1', Below.refl _ _⟩
  go_cut [11, 12] from 33 to 44 (fun s11 s12 wx => ∃ zy, s11 = .pointer (some ⟨zy, 0, none⟩) ∧ s12 = .int .i64 0 ∧ KSt W1 wx [(⟨zy, 0, none⟩, .int .i64 y1), (⟨zy, 1, none⟩, .int .i64 y2), (⟨z, 0, none⟩, .int .i64 x1), (⟨z, 1, none⟩, .int .i64 x2)])
  case first =>
   as_aux_lemma =>
    clear g1 g2 p0 p1 r0 r1 g1' g2' p0' p1' hS hK z1 z2 z3
    go_region_held3 (RG wc zg tb (tq + ho * 2) n (.slice (some ⟨tb, tq, none⟩) m tc) ((t : Int), (c : Int))) (first | exact RG.drew hS2 | exact hX | exact RG.alloc hX _ | exact (RG.alloc hS2 _).drew | exact (RG.alloc hS2 _).drew.drew | exact RG.set (RG.set hX y1' y3' (Nat.le_refl _) _) y1' y3' (Nat.le_refl _) _) (first | (go_at_call 16; (with_reducible refine (hl2 _).mono ?_); rintro e wy ⟨rfl, hB⟩; have hX := RG.call (by assumption) hB; (try (have c0 : wy.cell? ⟨wc.heap.size, 0, none⟩ = some (.int .i64 0) := qb _ hB (qC wc #[.int .i64 0, .int .i64 0] 23 0 (by decide)); have c1 : wy.cell? ⟨wc.heap.size, 1, none⟩ = some (.int .i64 0) := qb _ hB (qC wc #[.int .i64 0, .int .i64 0] 23 1 (by decide)); have q0 : wy.frozen? ⟨wc.heap.size, 0, none⟩ = false := qg _ hB (qC wc #[.int .i64 0, .int .i64 0] 23 0 (by decide)) (yU wc #[.int .i64 0, .int .i64 0] 23 0 (by decide)); have q1 : wy.frozen? ⟨wc.heap.size, 1, none⟩ = false := qg _ hB (qC wc #[.int .i64 0, .int .i64 0] 23 1 (by decide)) (yU wc #[.int .i64 0, .int .i64 0] 23 1 (by decide))))))
    all_goals (go_wp2_with fail; go_meet; first | exact ⟨_, rfl, rfl, (h.call (RG.bel hX)).box2 _ _ _⟩ | exact ⟨_, rfl, rfl, KSt.set2 h (RG.bel hX) c0 c1 _ _⟩)
  case rest =>
   clear g1' g2' p0' p1' hS2 hS hK g1 g2 p0 p1 h n6
   obtain ⟨zy, rfl, rfl, h⟩ := hcut
   have ka := h.cell (⟨z, 0, none⟩, .int .i64 x1) (by simp)
   have kb := h.cell (⟨z, 1, none⟩, .int .i64 x2) (by simp)
   have kc := h.cell (⟨zy, 0, none⟩, .int .i64 y1) (by simp)
   have kd := h.cell (⟨zy, 1, none⟩, .int .i64 y2) (by simp)
   simp only at ka kb kc kd
   go_wp2_with (first | (go_at_call 7; (with_reducible refine (hfx _).mono ?_); rintro e w2 ⟨rfl, hB⟩; replace h := h.call hB; clear hB ka kb kc kd; have ka := h.cell (⟨z, 0, none⟩, .int .i64 x1) (by simp); have kb := h.cell (⟨z, 1, none⟩, .int .i64 x2) (by simp); have kc := h.cell (⟨zy, 0, none⟩, .int .i64 y1) (by simp); have kd := h.cell (⟨zy, 1, none⟩, .int .i64 y2) (by simp); simp only at ka kb kc kd) | (go_at_call 7; (with_reducible refine (hfy _).mono ?_); rintro e w2 ⟨rfl, hB⟩; replace h := h.call hB; clear hB ka kb kc kd; have ka := h.cell (⟨z, 0, none⟩, .int .i64 x1) (by simp); have kb := h.cell (⟨z, 1, none⟩, .int .i64 x2) (by simp); have kc := h.cell (⟨zy, 0, none⟩, .int .i64 y1) (by simp); have kd := h.cell (⟨zy, 1, none⟩, .int .i64 y2) (by simp); simp only at ka kb kc kd) | (go_at_call 11; (with_reducible refine (hle _).mono ?_); rintro e w2 ⟨rfl, hB⟩; replace h := h.call hB; clear hB ka kb kc kd; have ka := h.cell (⟨z, 0, none⟩, .int .i64 x1) (by simp); have kb := h.cell (⟨z, 1, none⟩, .int .i64 x2) (by simp); have kc := h.cell (⟨zy, 0, none⟩, .int .i64 y1) (by simp); have kd := h.cell (⟨zy, 1, none⟩, .int .i64 y2) (by simp); simp only at ka kb kc kd) | (go_at_call 36; (with_reducible refine (hmi _).mono ?_); rintro e w2 ⟨rfl, hB⟩; replace h := h.call hB; clear hB ka kb kc kd; have d0 := qb _ h.bw r0; have d1 := qb _ h.bw r1; have d2 := qg _ h.bw r0 r2; have d3 := qg _ h.bw r1 r3))
   have hp := Zb (.int .i64 u1) (.int .i64 u2) d0 d1
   refine bodyPost_ret (qU results10 rfl rfl (yG ze qP hp.1 hp.2)) rfl ⟨rfl, ?_⟩
   exact ((Below.call hBW h.bw (Nat.le_refl _)).setCell zz _).setCell zz _
set_option maxHeartbeats 8000000 in
set_option maxRecDepth 100000 in
theorem qcp (b o i h gl gc m tc : Nat) (ta : Option Addr) (lim : Int × Int) (gr hr : Int) (nm : ByteArray) (w : World)
 (c0 : w.cell? ⟨b, o + i * 3, none⟩ = some (.string nm)) (c1 : w.cell? ⟨b, o + i * 3 + 1, none⟩ = some (.int .i64 7)) (c2 : w.cell? ⟨b, o + i * 3 + 2, none⟩ = some (.slice ta m tc)) (hi : i < gl) (hgc : gl ≤ 20) :
 Calls qf 10 #[.agg #[.int .i64 lim.1, .int .i64 lim.2, .int .i64 gr, .int .i64 hr, .slice (some ⟨b, o, none⟩) gl gc], .int .i64 i, .int .i64 h] w fun e w' => e = .returned (.tuple #[fv (0, 1), .bool false]) ∧ Below w.heap.size w w' := by
 have l0 : b < w.heap.size := lt_of_cell c0
 have hof := fun W => Xy 0 1 W
 simp only [fv] at hof ⊢
 go_enter s10, ntmps10
 go_wp2_with (go_at_call 9; (with_reducible refine (hof _).mono ?_); rintro e w1 ⟨rfl, hB⟩; have z0 := hB.size; have d0 := qb ⟨w.heap.size + 1, 0, none⟩ hB (v := .int .i64 0) (by go_cell); have d1 := qb ⟨w.heap.size + 1, 1, none⟩ hB (v := .int .i64 0) (by go_cell); have f0 := qg ⟨w.heap.size + 1, 0, none⟩ hB (v := .int .i64 0) (by go_cell) (by go_cell); have f1 := qg ⟨w.heap.size + 1, 1, none⟩ hB (v := .int .i64 0) (by go_cell) (by go_cell))
 have hp := Zb (.int .i64 0) (.int .i64 1) d0 d1
 refine bodyPost_ret (qU results10 rfl rfl (yG ze qP hp.1 hp.2)) rfl ⟨rfl, ?_⟩
 exact ((Below.call (B := w.heap.size) (by go_grown) hB (Nat.le_refl _)).setCell (by simp <;> omega) _).setCell (by simp <;> omega) _
theorem qcD (B : Bk) (i h : Nat) (g : Grp) (hg : B.gs[i]? = some g) (hV : Valid B) (hh : (h : Int) < B.hours) (w : World) (hb : BookAt w B) (hGl : Globs w) :
 Calls qf 10 #[bv B, .int .i64 i, .int .i64 h] w fun e w' => e = .returned (jG g h) ∧ Below w.heap.size w w' := by
 have hm : g ∈ B.gs := List.mem_of_getElem? hg
 have hG := hV.grp g hm
 have hi : i < B.gs.length := (List.getElem?_eq_some_iff.1 hg).1
 obtain ⟨b, o, hga, hcs⟩ := hb.row hV.len1
 obtain ⟨c0, c1, c2⟩ := hcs i g hg
 have hlt : h < g.traffic.length := by have := hG.len; omega
 obtain ⟨tb, tq, hta, hps⟩ := hb.traf g hm (by omega)
 obtain ⟨x, hx⟩ : ∃ x, g.traffic[h]? = some x := ⟨g.traffic[h], List.getElem?_eq_getElem hlt⟩
 obtain ⟨p0, p1⟩ := hps h x hx
 have hT := hG.traf x (List.mem_of_getElem? hx)
 have hS : qI g h = jy (low x.1 x.2) g.trunks.toNat := by unfold qI; rw [List.getD_eq_getElem?_getD, hx]; rfl
 have t0 := hG.tr0
 have t7 := hG.tr7
 have hsm := hb.small
 unfold jG
 unfold bv
 rw [hga]
 by_cases h7 : g.trunks = 7
 ·rw [if_pos h7]
  rw [h7] at c1
  exact qcp b o i h B.gs.length B.gc g.traffic.length g.tc g.ta B.lim B.growth B.hours g.name w c0 c1 c2 hi hsm.1
 ·rw [if_neg h7, hS]
  obtain ⟨n, en⟩ := Int.eq_ofNat_of_zero_le t0
  obtain ⟨t, et⟩ := Int.eq_ofNat_of_zero_le hT.1.1
  obtain ⟨c, ec⟩ := Int.eq_ofNat_of_zero_le (show 0 ≤ x.2 by have := hT.2.1; omega)
  have hT1 := hT.1.2
  have hT2 := hT.2
  rw [en] at c1
  rw [et] at p0
  rw [ec] at p1
  rw [hta] at c2
  have hh := qeN b o i h tb tq n t c g.traffic.length B.gs.length B.gc g.tc B.lim B.growth B.hours g.name w hGl c0 c1 c2 p0 p1 hi hsm.1 hlt (hsm.2 g hm).1 (by omega) ⟨by omega, by omega⟩ (by omega)
  have hf := Zp (t := t) (b := c) (n := n) (by omega) ⟨by omega, by omega⟩ (by omega)
  unfold qdX at hf
  simp only [Bool.and_eq_true, decide_eq_true_eq, Bool.not_eq_true', beq_iff_eq] at hf
  rw [hf.1.2] at hh
  rw [en, et, ec]
  exact hh
def xh (g : Grp) (j k : Nat) : Int × Int := if j < k then (match g.traffic[j]? with | some x => qJ (low x.1 x.2) g.trunks.toNat | none => (0, 0)) else (0, 0)
theorem qcR (w : World) : (isAgg 106).run qf w = .ok true w := (zB _ _).trans (Tryz.isAgg106 w)
theorem qap (w : World) : (Go.sizeOf 106).run qf w = .ok 6 w := (zV _ _).trans (Tryz.sizeOf106 w)
theorem qar {g : Grp} {j k : Nat} (h : j ≠ k) : xh g j (k + 1) = xh g j k := by
 unfold xh
 by_cases a : j < k
 ·rw [if_pos a, if_pos (by omega)]
 ·rw [if_neg a, if_neg (by omega)]
theorem qcA {g : Grp} {k : Nat} {x : Int × Int} (h : g.traffic[k]? = some x) : xh g k (k + 1) = qJ (low x.1 x.2) g.trunks.toNat := by
 unfold xh; rw [if_pos (by omega), h]
theorem qey {g : Grp} {j : Nat} (h : g.traffic.length ≤ 3) : xh g j 3 = xh g j g.traffic.length := by
 unfold xh
 by_cases a : j < g.traffic.length
 ·rw [if_pos a, if_pos (by omega)]
 ·rw [if_neg a, List.getElem?_eq_none (by omega)]; split <;> rfl
def hv (f : Nat → Int × Int) : Value := .agg #[.int .i64 (f 0).1, .int .i64 (f 0).2, .int .i64 (f 1).1, .int .i64 (f 1).2, .int .i64 (f 2).1, .int .i64 (f 2).2]
def YX (W : World) (ab : Nat) (f : Nat → Int × Int) : Prop := ∀ j, j < 3 → W.cell? ⟨ab, j * 2, none⟩ = some (.int .i64 (f j).1) ∧ W.cell? ⟨ab, j * 2 + 1, none⟩ = some (.int .i64 (f j).2) ∧ W.frozen? ⟨ab, j * 2, none⟩ = false ∧ W.frozen? ⟨ab, j * 2 + 1, none⟩ = false
theorem YX.keep {W w1 : World} {ab : Nat} {f : Nat → Int × Int} (h : YX W ab f) (hB : Below W.heap.size W w1) : YX w1 ab f := fun j hj =>
 let ⟨a, b, c, d⟩ := h j hj
 ⟨qb _ hB a, qb _ hB b, qg _ hB a c, qg _ hB b d⟩
theorem YX.set {W : World} {ab k : Nat} {f g : Nat → Int × Int} (h : YX W ab f) (hk : k < 3) (hg : ∀ j, j ≠ k → g j = f j) :
 YX ((W.setCell ⟨ab, k * 2, none⟩ (.int .i64 (g k).1)).setCell ⟨ab, k * 2 + 1, none⟩ (.int .i64 (g k).2)) ab g := fun j hj => by
 obtain ⟨a, b, c, d⟩ := h j hj
 refine ⟨?_, ?_, by simpa using c, by simpa using d⟩
 ·by_cases e : j = k
  ·subst e; exact qc (by simp) (qM (qw a))
  ·rw [hg j e]; exact qc (by simp <;> omega) (qc (by simp <;> omega) a)
 ·by_cases e : j = k
  ·subst e; exact qM (qx (qw b))
  ·rw [hg j e]; exact qc (by simp <;> omega) (qc (by simp <;> omega) b)
structure But2 (W0 : World) (ab k : Nat) (W : World) : Prop where
 size : W0.heap.size ≤ W.heap.size
 cell : ∀ p v, W0.cell? p = some v → p ≠ ⟨ab, k * 2, none⟩ → p ≠ ⟨ab, k * 2 + 1, none⟩ → W.cell? p = some v
 fz : ∀ p v, W0.cell? p = some v → W0.frozen? p = false → W.frozen? p = false
 there : ∀ p v, W0.cell? p = some v → (W.cell? p).isSome = true
theorem But2.refl (W0 : World) (ab k : Nat) : But2 W0 ab k W0 := ⟨Nat.le_refl _, fun _ _ h _ _ => h, fun _ _ _ h => h, fun _ _ h => qw h⟩
theorem But2.call {W0 W w1 : World} {ab k : Nat} (h : But2 W0 ab k W) (hB : Below W.heap.size W w1) : But2 W0 ab k w1 :=
 ⟨Nat.le_trans h.size hB.size, fun p v a b c => qb _ hB (h.cell p v a b c), fun p v a b => by
   obtain ⟨u, hu⟩ := Option.isSome_iff_exists.1 (h.there p v a)
   exact qg _ hB hu (h.fz p v a b), fun p v a => by
   obtain ⟨u, hu⟩ := Option.isSome_iff_exists.1 (h.there p v a)
   exact qw (qb _ hB hu)⟩
theorem But2.put {W0 W : World} {ab k : Nat} (u v : Value) (h : But2 W0 ab k W) : But2 W0 ab k ((W.setCell ⟨ab, k * 2, none⟩ u).setCell ⟨ab, k * 2 + 1, none⟩ v) :=
 ⟨by simpa using h.size, fun p x a b c => qc (Ne.symm c) (qc (Ne.symm b) (h.cell p x a b c)), fun p x a b => by simpa using h.fz p x a b, fun p x a => qx (qx (h.there p x a))⟩
abbrev QO (w W0 : World) (hb xb ab T : Nat) (x : Int × Int) (k : Nat) (W : World) : Prop :=
 W.cell? ⟨xb, 0, none⟩ = some (.int .i64 x.1) ∧ W.cell? ⟨xb, 1, none⟩ = some (.int .i64 x.2) ∧ W.cell? ⟨hb, 1, none⟩ = some (.int .i64 T) ∧ W.cell? ⟨ab, k * 2, none⟩ = some (atD W ⟨ab, k * 2, none⟩) ∧ W.cell? ⟨ab, k * 2 + 1, none⟩ = some (atD W ⟨ab, k * 2 + 1, none⟩) ∧
  W.frozen? ⟨ab, k * 2, none⟩ = false ∧ W.frozen? ⟨ab, k * 2 + 1, none⟩ = false ∧ Below w.heap.size w W ∧ But2 W0 ab k W
theorem QO.call {w W0 W w1 : World} {hb xb ab T : Nat} {x : Int × Int} {k : Nat} (h : QO w W0 hb xb ab T x k W) (hB : Below W.heap.size W w1) : QO w W0 hb xb ab T x k w1 := by
 obtain ⟨a, b, c, d, e, f, g, i, j⟩ := h
 exact ⟨qb _ hB a, qb _ hB b, qb _ hB c, qL (qw (qb _ hB d)), qL (qw (qb _ hB e)), qg _ hB d f, qg _ hB e g, Below.call i hB (Nat.le_refl _), j.call hB⟩
theorem QO.put {w W0 W : World} {hb xb ab T : Nat} {x : Int × Int} {k : Nat} (u v : Value) (h : QO w W0 hb xb ab T x k W) (h1 : ab ≠ xb) (h2 : ab ≠ hb) (h3 : w.heap.size ≤ ab) : QO w W0 hb xb ab T x k ((W.setCell ⟨ab, k * 2, none⟩ u).setCell ⟨ab, k * 2 + 1, none⟩ v) := by
 obtain ⟨a, b, c, d, e, f, g, i, j⟩ := h
 have n1 : ∀ p q, (⟨ab, p, none⟩ : Addr) ≠ ⟨xb, q, none⟩ := fun p q h => h1 (congrArg Addr.block h)
 have n2 : ∀ p q, (⟨ab, p, none⟩ : Addr) ≠ ⟨hb, q, none⟩ := fun p q h => h2 (congrArg Addr.block h)
 exact ⟨qc (n1 _ _) (qc (n1 _ _) a), qc (n1 _ _) (qc (n1 _ _) b), qc (n2 _ _) (qc (n2 _ _) c), qL (qx (qx (qw d))), qL (qx (qx (qw e))), by simpa using f, by simpa using g, (i.setCell h3 _).setCell h3 _, j.put u v⟩
set_option maxHeartbeats 4000000 in
set_option maxRecDepth 100000 in
theorem qeO (B : Bk) (i : Nat) (g : Grp) (hg : B.gs[i]? = some g) (w : World) (h : BookAt w B) (hG : GoodGrp B.hours g) (hh : B.hours ≤ 3) :
 Calls qf 61 #[bv B, .int .i64 i] w fun e w' => e = .returned (hv fun j => xh g j 3) ∧ Below w.heap.size w w' := by
 obtain ⟨hi, rfl⟩ := List.getElem?_eq_some_iff.1 hg
 obtain ⟨b, o, hga, hc⟩ := h.row (by omega)
 obtain ⟨c0, c1, c2⟩ := hc i _ hg
 have hlen := hG.len
 generalize hgg : B.gs[i] = g at *
 have hm : g ∈ B.gs := List.mem_of_getElem? hg
 have HF := Lib.hid (h.traf g hm)
 have HT := Lib.hid hG.traf
 obtain ⟨T, hT⟩ := Int.eq_ofNat_of_zero_le hG.tr0
 have hT7 : T ≤ 7 := by have := hG.tr7; omega
 rw [hT] at c1
 have HTT := Lib.hid hT
 obtain ⟨lim, gr, hr, gs, ga, gc⟩ := B
 simp only at hga hlen hh hi
 subst hga
 simp only [bv]
 have hlb : b < w.heap.size := lt_of_cell c0
 have hlb2 : b < w.heap.size + 1 := by omega
 have hlb3 : b < w.heap.size + 1 + 1 := by omega
 have hl3 : g.traffic.length ≤ 3 := by omega
 have HO := Lib.hid fun (j k : Nat) (h : j ≠ k) => qar (g := g) h
 have HH := Lib.hid fun (k : Nat) (x : Int × Int) (h : g.traffic[k]? = some x) => qcA h
 have HE := Lib.hid fun (j : Nat) => qey (g := g) (j := j) hl3
 have HZ : Hid (∀ j, xh g j 0 = (0, 0)) := Lib.hid fun j => by simp [xh]
 rw [hT] at HH
 obtain ⟨N, hN⟩ : ∃ N, N = xh g := ⟨_, rfl⟩
 simp only [← hN] at HO HH HE HZ ⊢
 clear hN hT hG hc hg hgg hm h
 go_enter s61, ntmps61
 go_wp2
 obtain ⟨W, hW⟩ : ∃ W, (((w.alloc (Obj.cells #[.int .i64 lim.1, .int .i64 lim.2, .int .i64 gr, .int .i64 hr, .slice (some ⟨b, o, none⟩) gs.length gc] 67)).alloc (Obj.cells #[.int .i64 0, .int .i64 0, .int .i64 0, .int .i64 0, .int .i64 0, .int .i64 0] 106)).alloc (Obj.cells #[.int .i64 0, .int .i64 0, .int .i64 0, .int .i64 0, .int .i64 0, .int .i64 0] 106)).alloc (Obj.cells #[.string g.name, .int .i64 T, .slice g.ta g.traffic.length g.tc] 37) = W := ⟨_, rfl⟩
 have hRes : YX W (w.heap.size + 1) (fun _ => (0, 0)) := fun j hj => by
  subst hW
  rcases (show j = 0 ∨ j = 1 ∨ j = 2 by omega) with rfl | rfl | rfl
  ·exact ⟨by go_cell, by go_cell, by go_cell, by go_cell⟩
  ·exact ⟨by go_cell, by go_cell, by go_cell, by go_cell⟩
  ·exact ⟨by go_cell, by go_cell, by go_cell, by go_cell⟩
 have t1 : W.cell? ⟨w.heap.size + 1 + 1 + 1, 1, none⟩ = some (.int .i64 T) := by subst hW; go_cell
 have hArr : YX W (w.heap.size + 1 + 1) (fun j => N j 0) := fun j hj => by
  simp only [HZ.out]
  subst hW
  rcases (show j = 0 ∨ j = 1 ∨ j = 2 by omega) with rfl | rfl | rfl
  ·exact ⟨by go_cell, by go_cell, by go_cell, by go_cell⟩
  ·exact ⟨by go_cell, by go_cell, by go_cell, by go_cell⟩
  ·exact ⟨by go_cell, by go_cell, by go_cell, by go_cell⟩
 have hBW : Below w.heap.size w W := by subst hW; go_grown
 have hsW : W.heap.size = w.heap.size + 4 := by subst hW; simp
 rw [hW]
 clear hW
 go_loopw [18] (fun i wr => ∃ k : Nat, i = .int .i64 k ∧ k ≤ g.traffic.length ∧ Below w.heap.size w wr ∧ w.heap.size + 4 ≤ wr.heap.size ∧ wr.cell? ⟨w.heap.size + 1 + 1 + 1, 1, none⟩ = some (.int .i64 T) ∧ Hid (YX wr (w.heap.size + 1 + 1) (fun j => N j k)) ∧ Hid (YX wr (w.heap.size + 1) (fun _ => (0, 0)))) (fun i _ => g.traffic.length - (intOf i).toNat)
 case atStart => exact ⟨0, rfl, by omega, hBW, by omega, t1, Lib.hid hArr, Lib.hid hRes⟩
 case round =>
  clear t1 hArr hRes hBW hsW
  obtain ⟨k, rfl, hk, hBr, hsz, t1, HArr, HRes⟩ := hrel
  have s1 : w.heap.size + 1 < wr.heap.size := by omega
  have s2 : w.heap.size + 1 + 1 < wr.heap.size := by omega
  have s3 : w.heap.size + 1 + 1 + 1 < wr.heap.size := by omega
  by_cases hlt : k < g.traffic.length
  ·obtain ⟨x, hx⟩ : ∃ x, g.traffic[k]? = some x := ⟨g.traffic[k], by simp [hlt]⟩
   have hx2 := HT.out x (List.mem_of_getElem? hx)
   obtain ⟨tb, t0, hta, hpa⟩ := HF.out (by omega)
   have hta' := hta
   obtain ⟨e0, e1⟩ := hpa k x hx
   have e0 := qb _ hBr e0
   have e1 := qb _ hBr e1
   obtain ⟨a0, a1, a2, a3⟩ := HArr.out k (by omega)
   obtain ⟨k1, k2, k3, k4⟩ := xN hx2.1.1 hx2.1.2 hx2.2.1 hx2.2.2
   have hof := fun W => YJ x W hx2.1.1 (by have := hx2.2.1; omega) (by have := hx2.1.2; omega) (by have := hx2.2.2; omega)
   have hlo := fun W => Ql T (low x.1 x.2) k1 k2 k3 k4 hT7 W
   have hth := HH.out k x hx
   rw [Int.toNat_natCast] at hth
   generalize qJ (low x.1 x.2) T = r at *
   generalize low x.1 x.2 = y at *
   have HN := Lib.hid hth
   have hkk : (k : Int) < 3 := by omega
   have hk0 : (0 : Int) ≤ (k : Int) := Int.natCast_nonneg k
   simp only [fv] at hof hlo
   rw [hta]
   clear hth hx hx2 hpa k1 k2 k3 k4 hta
   have hX : QO w (wr.alloc (.cells #[.int .i64 x.1, .int .i64 x.2] 23)).drew (w.heap.size + 1 + 1 + 1) wr.heap.size (w.heap.size + 1 + 1) T x k (wr.alloc (.cells #[.int .i64 x.1, .int .i64 x.2] 23)).drew :=
    ⟨by go_cell, by go_cell, qi t1, qL (qw (qi a0)), qL (qw (qi a1)), qm a0 a2, qm a1 a3, (hBr.alloc (by omega) _).drew, .refl _ _ _⟩
   go_wp2
   go_region_held3 (fun w' => w'.cell? ⟨wr.heap.size, 0, none⟩ = some (.int .i64 x.1) ∧ w'.cell? ⟨wr.heap.size, 1, none⟩ = some (.int .i64 x.2) ∧ w'.cell? ⟨w.heap.size + 1 + 1 + 1, 1, none⟩ = some (.int .i64 T) ∧ w'.cell? ⟨w.heap.size + 1 + 1, k * 2, none⟩ = some (atD w' ⟨w.heap.size + 1 + 1, k * 2, none⟩) ∧ w'.cell? ⟨w.heap.size + 1 + 1, k * 2 + 1, none⟩ = some (atD w' ⟨w.heap.size + 1 + 1, k * 2 + 1, none⟩) ∧ w'.frozen? ⟨w.heap.size + 1 + 1, k * 2, none⟩ = false ∧ w'.frozen? ⟨w.heap.size + 1 + 1, k * 2 + 1, none⟩ = false ∧ Below w.heap.size w w' ∧ But2 (wr.alloc (.cells #[.int .i64 x.1, .int .i64 x.2] 23)).drew (w.heap.size + 1 + 1) k w')
    (first | exact hX | ((with_reducible refine QO.call ?_ hB); assumption) | ((with_reducible refine QO.put _ _ ?_ ?_ ?_ ?_); assumption; omega; omega; omega))
    (first | (go_at_call 70; refine (hof _).mono ?_; rintro e w1 ⟨rfl, hB⟩) | (go_at_call 44; refine (hlo _).mono ?_; rintro e w1 ⟨rfl, hB⟩))
   rename_i hH
   obtain ⟨_, _, _, q0, q1, q2, q3, q4, q5⟩ := hH
   go_wp2
   go_roundw
   case rel =>
    have hcells : ∀ p v, wr.cell? p = some v → p ≠ ⟨w.heap.size + 1 + 1, k * 2, none⟩ → p ≠ ⟨w.heap.size + 1 + 1, k * 2 + 1, none⟩ → _ := fun p v hp h1 h2 => q5.cell p v (qi hp) h1 h2
    refine ⟨k + 1, rfl, by omega, q4, ?_, hcells _ _ t1 (by simp) (by simp), Lib.hid fun j hj => ?_, Lib.hid fun j hj => ?_⟩
    ·have := q5.size; simp at this ⊢; omega
    ·obtain ⟨b0, b1, b2, b3⟩ := HArr.out j hj
     by_cases e : j = k
     ·subst e
      simp only [HN.out]
      refine ⟨qc (by simp) (qM (zb (zb (qw q0)))), qM (zb (qw q1)), q2, q3⟩
     ·simp only [HO.out j k e]
      exact ⟨hcells _ _ b0 (by simp <;> omega) (by simp <;> omega), hcells _ _ b1 (by simp <;> omega) (by simp <;> omega), q5.fz _ _ (qi b0) (qm b0 b2), q5.fz _ _ (qi b1) (qm b1 b3)⟩
    ·obtain ⟨b0, b1, b2, b3⟩ := HRes.out j hj
     exact ⟨hcells _ _ b0 (by simp) (by simp), hcells _ _ b1 (by simp) (by simp), q5.fz _ _ (qi b0) (qm b0 b2), q5.fz _ _ (qi b1) (qm b1 b3)⟩
   case measure => simp [intOf]; omega
  ·obtain rfl : k = g.traffic.length := by omega
   have e0 := (HArr.out 0 (by omega)).1
   have e1 := (HArr.out 0 (by omega)).2.1
   have e2 := (HArr.out 1 (by omega)).1
   have e3 := (HArr.out 1 (by omega)).2.1
   have e4 := (HArr.out 2 (by omega)).1
   have e5 := (HArr.out 2 (by omega)).2.1
   obtain ⟨r0, r1, f0, f1⟩ := HRes.out 0 (by omega)
   obtain ⟨r2, r3, f2, f3⟩ := HRes.out 1 (by omega)
   obtain ⟨r4, r5, f4, f5⟩ := HRes.out 2 (by omega)
   simp only [Nat.zero_mul, Nat.one_mul, Nat.reduceMul, Nat.reduceAdd, Nat.zero_add] at e0 e1 e2 e3 e4 e5 r0 r1 r2 r3 r4 r5 f0 f1 f2 f3 f4 f5
   have HR : Hid (hv (fun j => N j 3) = .agg #[.int .i64 (N 0 g.traffic.length).1, .int .i64 (N 0 g.traffic.length).2, .int .i64 (N 1 g.traffic.length).1, .int .i64 (N 1 g.traffic.length).2, .int .i64 (N 2 g.traffic.length).1, .int .i64 (N 2 g.traffic.length).2]) := Lib.hid (by simp only [hv, HE.out])
   go_wp2
   exact ret_c6 results61 qcR qap rfl r0 r1 r2 r3 r4 r5 ⟨by rw [HR.out], Below.set6 hBr (Nat.le_succ _)⟩
end Go.Proofs.Tryz
