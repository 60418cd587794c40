/-
  Lemmas about the program and the machine (B20 to B21), upon which the last text of this claim rests; no condition.
-/
import Derived.Deep.Cut
import Derived.Deep.CutRange
import Derived.Deep.Light
import Derived.Test.YtnnhaklgndahdaaGreatDoorM07
set_option linter.unusedSimpArgs false
set_option linter.unusedVariables false
namespace Go.Proofs.Tryz
open Go Go.Sim Go.Load Go.RowKit
theorem qcT {w : World} {g : Grp} (h : yD w g) : yE w (.slice g.ta g.traffic.length g.tc) g.traffic := ⟨g.ta, g.tc, rfl, h⟩
set_option maxHeartbeats 8000000 in
set_option maxRecDepth 100000 in
theorem Same_yes {A B : Bk} (w : World) (hA : BookAt w A) (hB : BookAt w B) (e1 : B.lim = A.lim) (e2 : B.growth = A.growth) (e3 : B.hours = A.hours) (hs : qN A.gs B.gs) : Calls qf 17 #[bv A, bv B] w fun e w' => e = .returned (.bool true) ∧ Below w.heap.size w w' := by
 obtain ⟨lim, gr, hr, gs, ga, gc⟩ := A
 obtain ⟨lim2, gr2, hr2, gs2, ga2, gc2⟩ := B
 simp only at e1 e2 e3 hs
 subst e1 e2 e3
 have hl := hs.1
 have hsm := hA.small
 have HA := Lib.hid hA
 have HB := Lib.hid hB
 have HS := Lib.hid hs
 have h20 : gs.length ≤ 20 := hsm.1
 simp only [bv]
 rw [hl]
 clear hA hB hs hsm
 go_enter s17, ntmps17
 go_upto_region 3 with fail
 obtain ⟨W, hW⟩ : ∃ W, W = (w.alloc (.cells #[.int .i64 lim2.1, .int .i64 lim2.2, .int .i64 gr2, .int .i64 hr2, .slice ga gs.length gc] 26)).alloc (.cells #[.int .i64 lim2.1, .int .i64 lim2.2, .int .i64 gr2, .int .i64 hr2, .slice ga2 gs.length gc2] 26) := ⟨_, rfl⟩
 have k4 : W.cell? ⟨w.heap.size, 4, none⟩ = some (.slice ga gs.length gc) := by rw [hW]; go_cell
 have m4 : W.cell? ⟨w.heap.size + 1, 4, none⟩ = some (.slice ga2 gs.length gc2) := by rw [hW]; go_cell
 have hBW : Below w.heap.size w W := by rw [hW]; go_grown
 have hWs : w.heap.size + 1 < W.heap.size := by rw [hW]; simp
 rw [← hW]
 clear hW
 go_wp2
 go_loopw [5] (fun i wr => ∃ k : Nat, i = .int .i64 k ∧ k ≤ gs.length ∧ Below W.heap.size W wr) (fun i _ => gs.length - (intOf i).toNat)
 case atStart => exact ⟨0, rfl, Nat.zero_le _, .refl _ _⟩
 case round =>
  obtain ⟨k, rfl, hk, hBr⟩ := hrel
  have k4 := qb _ hBr k4
  have m4 := qb _ hBr m4
  have hBt := Below.call hBW hBr (by omega)
  by_cases hlt : k < gs.length
  ·obtain ⟨b, o, rfl, hcs⟩ := HA.out.row (show 1 ≤ gs.length by omega)
   obtain ⟨b2, o2, e, hcs2⟩ := HB.out.row (show 1 ≤ gs2.length by omega)
   simp only at e
   subst e
   obtain ⟨g, hg⟩ : ∃ g, gs[k]? = some g := ⟨gs[k], List.getElem?_eq_getElem hlt⟩
   obtain ⟨g2, hg2⟩ : ∃ g, gs2[k]? = some g := ⟨gs2[k]'(by omega), List.getElem?_eq_getElem _⟩
   obtain ⟨s1, s2, s3⟩ := HS.out.2 k g g2 hg hg2
   obtain ⟨c0, c1, c2⟩ := hcs k g hg
   obtain ⟨d0, d1, d2⟩ := hcs2 k g2 hg2
   have c0 := qb _ hBt c0
   have c1 := qb _ hBt c1
   have c2 := qb _ hBt c2
   have d0 := qb _ hBt d0
   have d1 := qb _ hBt d1
   have d2 := qb _ hBt d2
   rw [s1] at d0
   rw [s2] at d1
   have hF1 := Lib.hid (qcT ((HA.out.traf g (List.mem_of_getElem? hg)).keep hBt))
   have hF2 := Lib.hid (qcT ((HB.out.traf g2 (List.mem_of_getElem? hg2)).keep hBt))
   have hg20 : g.traffic.length ≤ 20 := (HA.out.small.2 g (List.mem_of_getElem? hg)).1
   have hS3 := Lib.hid s3
   have k1 : (k : Int) < (gs.length : Int) := by omega
   have k0 : (0 : Int) ≤ (k : Int) := Int.natCast_nonneg k
   clear hcs hcs2 hg hg2 s1 s2 s3
   go_upto_region 6 with fail
   go_cut [6, 7] from 43 to 52 (fun p6 p7 wx => ∃ x y : Nat, p6 = .pointer (some ⟨x, 0, none⟩) ∧ p7 = .pointer (some ⟨y, 0, none⟩) ∧ wx.cell? ⟨x, 0, none⟩ = some (.string g.name) ∧ wx.cell? ⟨x, 1, none⟩ = some (.int .i64 g.trunks) ∧ wx.cell? ⟨x, 2, none⟩ = some (.slice g.ta g.traffic.length g.tc) ∧ wx.cell? ⟨y, 0, none⟩ = some (.string g.name) ∧ wx.cell? ⟨y, 1, none⟩ = some (.int .i64 g.trunks) ∧ wx.cell? ⟨y, 2, none⟩ = some (.slice g2.ta g2.traffic.length g2.tc) ∧ Below wr.heap.size wr wx)
   case first =>
    have l1 : w.heap.size < wr.heap.size := lt_of_cell k4
    have l2 : w.heap.size + 1 < wr.heap.size := lt_of_cell m4
    have l3 : b < wr.heap.size := lt_of_cell c0
    have l4 : b2 < wr.heap.size := lt_of_cell d0
    have l5 : w.heap.size < wr.heap.size + 1 := by omega
    have l6 : w.heap.size + 1 < wr.heap.size + 1 := by omega
    have l7 : b < wr.heap.size + 1 := by omega
    have l8 : b2 < wr.heap.size + 1 := by omega
    clear HA HB HS hBt hBr hBW
    go_region
    all_goals
     go_wp2_with fail
     go_meet
     exact ⟨_, _, rfl, rfl, by go_cell, by go_cell, by go_cell, by go_cell, by go_cell, by go_cell, by go_grown⟩
   case rest =>
    obtain ⟨x, y, rfl, rfl, x0, x1, x2, y0, y1, y2, hB⟩ := hcut
    obtain ⟨WC, rfl⟩ : ∃ W, W = wc := ⟨_, rfl⟩
    have hF1 : yE WC (.slice g.ta g.traffic.length g.tc) g.traffic := by
     obtain ⟨a, c, e, h⟩ := hF1.out
     exact ⟨a, c, e, fun h1 => let ⟨b, o, e1, hp⟩ := h h1; ⟨b, o, e1, hp.keep hB⟩⟩
    have hF2 : yE WC (.slice g2.ta g2.traffic.length g2.tc) g2.traffic := by
     obtain ⟨a, c, e, h⟩ := hF2.out
     exact ⟨a, c, e, fun h1 => let ⟨b, o, e1, hp⟩ := h h1; ⟨b, o, e1, hp.keep hB⟩⟩
    have hst := xE _ _ _ _ WC hF1 hF2 (by omega) (by rw [hS3.out]; omega)
    rw [decide_eq_true hS3.out.symm] at hst
    have hBc := bcl hBr hB
    clear hF1 hF2 c0 c1 c2 d0 d1 d2 k4 m4 hB
    go_wp2_with (go_at_call 32; (with_reducible refine hst.mono ?_); rintro e w1 ⟨rfl, hB⟩)
    go_roundw
    case rel => exact ⟨k + 1, rfl, by omega, bcl hBc hB⟩
    case measure => simp [intOf]; omega
  ·obtain rfl : k = gs.length := by omega
   go_wp2
   go_ret
   exact ⟨rfl, hBt⟩
end Go.Proofs.Tryz
namespace Go.Proofs.Tryz
open Go Go.Load Go.RowKit
theorem QQ {B : Bk} {n : Nat} {l : List Grp} (hs : qN (qo B n).gs l) (ga : Option Addr) (gc : Nat) : ∀ m, qN (qo B (n + m)).gs (qo { B with gs := l, ga := ga, gc := gc } m).gs
 | 0 => hs
 | m + 1 => by
   have ih := QQ hs ga gc m
   have e1 := (za B (n + m)).2.1
   have e2 := (za { B with gs := l, ga := ga, gc := gc } m).2.1
   show qN ((qo B (n + m)).gs.map (jC (qo B (n + m)).growth)) ((qo { B with gs := l, ga := ga, gc := gc } m).gs.map (jC (qo { B with gs := l, ga := ga, gc := gc } m).growth))
   rw [e1, e2]
   exact Zu ih
theorem qdx {B : Bk} {n : Nat} {l : List Grp} (hs : qN (qo B n).gs l) (ga : Option Addr) (gc m : Nat) : checkN (qo { B with gs := l, ga := ga, gc := gc } m) = checkN (qo B (n + m)) := by
 have h := QQ hs ga gc m
 have a := za B (n + m)
 have b := za { B with gs := l, ga := ga, gc := gc } m
 generalize qo B (n + m) = P at *
 generalize qo { B with gs := l, ga := ga, gc := gc } m = Q at *
 obtain ⟨p1, p2, p3, p4, p5, p6⟩ := P
 obtain ⟨q1, q2, q3, q4, q5, q6⟩ := Q
 obtain ⟨a1, a2, a3, _⟩ := a
 obtain ⟨b1, b2, b3, _⟩ := b
 simp only at a1 a2 a3 b1 b2 b3 h
 subst a1 a2 a3 b1 b2 b3
 exact xH (B := ⟨_, _, _, p4, p5, p6⟩) h q5 q6
theorem qaO {r : Int} {x : Int × Int} {n : Nat} (h : ¬ zP (qfn r n x)) : ∀ m, qfn r (n + m) x = qfn r n x
 | 0 => rfl
 | m + 1 => by
   show grw r (qfn r (n + m) x) = _
   rw [qaO h m]
   unfold grw
   rw [if_neg h]
theorem qbC {B : Bk} (hc : checkN B = 0) {n : Nat} (h : checkN (qo B n) ≠ 0) (m : Nat) : checkN (qo B n) = 1 ∧ checkN (qo B (n + m)) = 1 := by
 rcases jX hc n with h0 | ⟨h1, g, hg, x, hx, hb⟩
 ·exact absurd h0 h
 ·refine ⟨h1, ?_⟩
  rcases jX hc (n + m) with h0 | ⟨h2, _⟩
  ·exfalso
   have hV := qB h0
   have hm : yrG B.growth (n + m) g ∈ (qo B (n + m)).gs := by rw [Xe]; exact List.mem_map_of_mem hg
   have := (hV.grp _ hm).traf (qfn B.growth (n + m) x) (List.mem_map_of_mem hx)
   rw [qaO hb m] at this
   exact hb this
  ·exact h2
theorem qeH {B : Bk} (hc : checkN B = 0) (n : Nat) : checkN (qo B n) = 0 ∨ checkN (qo B n) = 1 := (jX hc n).imp id fun h => h.1
theorem qfo {r : Int} (h0 : 0 ≤ r) {x : Int × Int} (hx : zP x) : (grw r x).2 = x.2 ∧ x.1 * (100 + r) ≤ 100 * (grw r x).1 ∧ 100 * ((grw r x).1 - 1) < x.1 * (100 + r) ∧ 0 ≤ (grw r x).1 := by
 unfold grw
 rw [if_pos hx]
 have := Int.mul_nonneg hx.1.1 (show 0 ≤ 100 + r by omega)
 refine ⟨rfl, ?_, ?_, ?_⟩
 ·show x.1 * (100 + r) ≤ 100 * ((x.1 * (100 + r) + 99) / 100)
  omega
 ·show 100 * ((x.1 * (100 + r) + 99) / 100 - 1) < x.1 * (100 + r)
  omega
 ·show 0 ≤ (x.1 * (100 + r) + 99) / 100
  omega
end Go.Proofs.Tryz
