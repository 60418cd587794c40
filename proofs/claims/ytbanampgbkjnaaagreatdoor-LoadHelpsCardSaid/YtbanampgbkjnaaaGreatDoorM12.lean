/-
  A part of the proof (C11 C35): lemmas about the program and about the machine that the last text of this claim rests upon; no condition.
-/
import Derived.IntWalk
import Derived.Test.YtbanampgbkjnaaaGreatDoorM03
import Derived.Test.YtbanampgbkjnaaaGreatDoorM02
import Derived.Test.YtbanampgbkjnaaaGreatDoorM06
set_option linter.unusedSimpArgs false
set_option linter.unusedVariables false
namespace Go.Proofs.Tryz
open Go Go.Load Go.RowKit
theorem jF (w : World) : (isAgg 60).run qf w = .ok true w := (zB _ _).trans (Tryz.isAgg60 w)
theorem xV (w : World) : (Go.sizeOf 60).run qf w = .ok 2 w := (zV _ _).trans (Tryz.sizeOf60 w)
set_option maxHeartbeats 1000000 in
theorem sums_any (l : List (Int × Int)) (b o c : Nat) (hl : l.length ≤ 4) (h1 : ∀ x ∈ l, 0 ≤ x.1 ∧ x.1 ≤ 9) (h2 : ∀ x ∈ l, 0 ≤ x.2 ∧ x.2 ≤ 9) (w : World) (hP : qO w b o l) :
 Calls qf 66 #[.slice (some ⟨b, o, none⟩) l.length c] w fun e w' => e = .returned (.tuple #[.int .i64 (qaH l), .int .i64 (qaT l)]) ∧ Below w.heap.size w w' := by
 go_enter s66, ntmps66
 go_wp2
 go_loopw [2, 3, 8] (fun x y i wr => ∃ k : Nat, i = .int .i64 k ∧ k ≤ l.length ∧ x = .int .i64 (qaH (l.take k)) ∧ y = .int .i64 (qaT (l.take k)) ∧ Below w.heap.size w wr) (fun _ _ i _ => l.length - (intOf i).toNat)
 case atStart => exact ⟨0, rfl, Nat.zero_le _, rfl, rfl, by go_grown⟩
 case round =>
  obtain ⟨k, rfl, hk, rfl, rfl, hB⟩ := hrel
  by_cases hlt : k < l.length
  ·obtain ⟨x, hx⟩ : ∃ x, l[k]? = some x := ⟨l[k], by simp [hlt]⟩
   have n1 := qeX hx
   have n2 := qel hx
   have b1 := qdD (l := l.take k) (m := 9) fun y hy => h1 y (List.mem_of_mem_take hy)
   have b2 := qec (l := l.take k) (m := 9) fun y hy => h2 y (List.mem_of_mem_take hy)
   have hm : x ∈ l := List.mem_of_getElem? hx
   have x1 := h1 x hm
   have x2 := h2 x hm
   obtain ⟨c0, c1⟩ := hP k x hx
   have c0 := qb _ hB c0
   have c1 := qb _ hB c1
   rw [List.length_take, Nat.min_eq_left hk] at b1 b2
   have N1 := Lib.hid n1
   have N2 := Lib.hid n2
   clear n1 n2 hP h1 h2
   generalize qaH (l.take k) = s1 at *
   generalize qaT (l.take k) = s2 at *
   obtain ⟨x1', x2'⟩ := x
   simp only at x1 x2 c0 c1 N1 N2
   have e1 : IntKind.i64.wrap (s1 + x1') = s1 + x1' := IntWalk.i64_in _ (by omega)
   have e2 : IntKind.i64.wrap (s2 + x2') = s2 + x2' := IntWalk.i64_in _ (by omega)
   go_wp2
   go_quiet (fail)
   clear e1 e2
   go_wp2
   go_roundw
   case rel => exact ⟨k + 1, rfl, by omega, by rw [N1.out], by rw [N2.out], below_drewN (hB.alloc (by have := hB.size; omega) _) _⟩
   case measure => simp [intOf]; omega
  ·obtain rfl : k = l.length := by omega
   go_wp2
   go_ret2
   exact ⟨by rw [List.take_length]; rfl, hB⟩
def Cnt (x : Int × Int) : Prop := 0 ≤ x.1 ∧ x.1 ≤ x.2 ∧ x.2 ≤ 9
instance (x : Int × Int) : Decidable (Cnt x) := by unfold Cnt; infer_instance
def fitsV (l : List (Int × Int)) (p : Int) : Value :=
 if 1 ≤ l.length ∧ l.length ≤ 4 then (if (∀ x ∈ l, Cnt x) ∧ 1 ≤ p ∧ p ≤ 4 then tv (p * qaH l / l.length, p * qaT l / l.length) 0 else tv (0, 0) 1) else tv (0, 0) 2
theorem qcB (a : Option Addr) (n c : Nat) (p : Int) (h : ¬ (1 ≤ n ∧ n ≤ 4)) (w : World) : Calls qf 27 #[.slice a n c, .int .i64 p] w fun e w' => e = .returned (tv (0, 0) 2) ∧ Below w.heap.size w w' := by
 simp only [tv, fv] at *
 go_enter s27, ntmps27
 go_wp2_with (go_at_call 51; (with_reducible refine (qZ _ _ _ _ (by omega)).mono ?_); rintro e w1 ⟨rfl, rfl⟩)
 go_returns
 exact ⟨rfl, by go_grown⟩
def qbs (w wr : World) : Prop := Below w.heap.size w wr ∧ w.heap.size + 1 ≤ wr.heap.size ∧ wr.cell? ⟨w.heap.size, 0, none⟩ = some (.int .i64 0) ∧ wr.cell? ⟨w.heap.size, 1, none⟩ = some (.int .i64 0) ∧ wr.frozen? ⟨w.heap.size, 0, none⟩ = false ∧ wr.frozen? ⟨w.heap.size, 1, none⟩ = false
theorem qbs.alloc {w wr : World} {o : Obj} (h : qbs w wr) : qbs w (wr.alloc o) := by
 obtain ⟨a, b, c, d, e, f⟩ := h
 exact ⟨a.alloc (by omega) _, by simp; omega, qi c, qi d, qm c e, qm d f⟩
theorem qbs.call {w wr w1 : World} (h : qbs w wr) (hB : Below wr.heap.size wr w1) : qbs w w1 := by
 obtain ⟨a, b, c, d, e, f⟩ := h
 exact ⟨Below.call a hB (Nat.le_refl _), Nat.le_trans b hB.size, qb _ hB c, qb _ hB d, qg _ hB c e, qg _ hB d f⟩
set_option maxHeartbeats 2000000 in
theorem qeq (l : List (Int × Int)) (b o c : Nat) (p : Int) (hl1 : 1 ≤ l.length) (hl : l.length ≤ 4) (w : World) (hP : qO w b o l) :
 Calls qf 27 #[.slice (some ⟨b, o, none⟩) l.length c, .int .i64 p] w fun e w' => e = .returned (if (∀ x ∈ l, Cnt x) ∧ 1 ≤ p ∧ p ≤ 4 then tv (p * qaH l / l.length, p * qaT l / l.length) 0 else tv (0, 0) 1) ∧ Below w.heap.size w w' := by
 obtain ⟨V, hV⟩ : ∃ V, (if (∀ x ∈ l, Cnt x) ∧ 1 ≤ p ∧ p ≤ 4 then tv (p * qaH l / l.length, p * qaT l / l.length) 0 else tv (0, 0) 1) = V := ⟨_, rfl⟩
 rw [hV]
 have HV := Lib.hid hV
 clear hV
 go_enter s27, ntmps27
 go_wp2_with (go_at_call 51; (with_reducible refine (qB _ _ _ _ (by omega)).mono ?_); rintro e w1 ⟨rfl, rfl⟩)
 go_loopw [17] (fun i wr => ∃ k : Nat, i = .int .i64 k ∧ k ≤ l.length ∧ qbs w wr ∧ Hid (∀ x ∈ l.take k, Cnt x)) (fun i _ => l.length - (intOf i).toNat)
 case atStart => exact ⟨0, rfl, Nat.zero_le _, ⟨by go_grown, by simp, by go_cell, by go_cell, by go_cell, by go_cell⟩, Lib.hid (by simp)⟩
 case round =>
  obtain ⟨k, rfl, hk, hF, HT⟩ := hrel
  by_cases hlt : k < l.length
  ·obtain ⟨x, hx⟩ : ∃ x, l[k]? = some x := ⟨l[k], by simp [hlt]⟩
   have hm : x ∈ l := List.mem_of_getElem? hx
   obtain ⟨c0, c1⟩ := hP k x hx
   have c0 := qb _ hF.1 c0
   have c1 := qb _ hF.1 c1
   have HX := Lib.hid hx
   have HM := Lib.hid hm
   clear hx hm hP
   by_cases hg : Cnt x
   ·have HG := Lib.hid hg
    obtain ⟨g1, g2, g3⟩ := hg
    obtain ⟨x1, x2⟩ := x
    simp only at g1 g2 g3 c0 c1
    go_wp2
    go_roundw
    case rel =>
     refine ⟨k + 1, rfl, by omega, hF.alloc, Lib.hid ?_⟩
     rw [List.take_succ_eq_append_getElem hlt]
     intro y hy
     rcases List.mem_append.1 hy with h | h
     ·exact HT.out y h
     ·obtain rfl := List.mem_singleton.1 h
      have := (List.getElem?_eq_some_iff.1 HX.out).2
      rw [this]; exact HG.out
    case measure => simp [intOf]; omega
   ·obtain ⟨e1, e2, e3, e4, e5, e6⟩ := hF.alloc (o := .cells #[.int .i64 x.1, .int .i64 x.2] 60)
    have hv : V = tv (0, 0) 1 := by rw [← HV.out, if_neg (fun h => hg (h.1 x HM.out))]
    obtain ⟨x1, x2⟩ := x
    simp only [tv, fv] at hv
    simp only at c0 c1 e1 e2 e3 e4 e5 e6
    have HW := Lib.hid hv
    clear hv
    by_cases g1 : x1 < 0
    ·go_wp2
     exact Ja results27 jF xV rfl rfl e3 e4 ⟨by rw [HW.out]; rfl, (e1.setCell (Nat.le_refl _) _).setCell (Nat.le_refl _) _⟩
    ·by_cases g2 : x2 < x1
     ·go_wp2
      exact Ja results27 jF xV rfl rfl e3 e4 ⟨by rw [HW.out]; rfl, (e1.setCell (Nat.le_refl _) _).setCell (Nat.le_refl _) _⟩
     ·have g3 : 9 < x2 := by
       have : ¬ (0 ≤ x1 ∧ x1 ≤ x2 ∧ x2 ≤ 9) := hg
       omega
      go_wp2
      exact Ja results27 jF xV rfl rfl e3 e4 ⟨by rw [HW.out]; rfl, (e1.setCell (Nat.le_refl _) _).setCell (Nat.le_refl _) _⟩
  ·obtain rfl : k = l.length := by omega
   have hall : ∀ x ∈ l, Cnt x := by have := HT.out; rwa [List.take_length] at this
   by_cases hp : 1 ≤ p ∧ p ≤ 4
   ·have hv : V = tv (p * qaH l / l.length, p * qaT l / l.length) 0 := by rw [← HV.out, if_pos ⟨hall, hp⟩]
    have hs := fun W hP => sums_any l b o c hl (fun x hx => ⟨(hall x hx).1, by have := hall x hx; have a := this.2.1; have b := this.2.2; omega⟩) (fun x hx => ⟨by have := hall x hx; have a := this.1; have b := this.2.1; omega, (hall x hx).2.2⟩) W hP
    have b1 := qdD (l := l) (m := 9) fun x hx => ⟨(hall x hx).1, by have := hall x hx; have a := this.2.1; have b := this.2.2; omega⟩
    have b2 := qec (l := l) (m := 9) fun x hx => ⟨by have := hall x hx; have a := this.1; have b := this.2.1; omega, (hall x hx).2.2⟩
    have HS := Lib.hid (hs wr (fun i x hx => ⟨qb _ hF.1 (hP i x hx).1, qb _ hF.1 (hP i x hx).2⟩))
    have HW := Lib.hid hv
    clear hs hv hall HT
    generalize qaH l = s1 at *
    generalize qaT l = s2 at *
    go_wp2_with (first | (go_at_call 51; (with_reducible refine (qB _ _ _ _ hp).mono ?_); rintro e w1 ⟨rfl, rfl⟩) | (go_at_call 66; refine HS.out.mono ?_; rintro e w1 ⟨rfl, hB1⟩; obtain ⟨f1, f2, f3, f4, f5, f6⟩ := hF.call hB1))
    have m1 := Int.mul_nonneg (show 0 ≤ p by omega) b1.1
    have m2 := Int.mul_nonneg (show 0 ≤ p by omega) b2.1
    have m3 := Int.mul_le_mul hp.2 (show s1 ≤ 36 by omega) b1.1 (by omega)
    have m4 := Int.mul_le_mul hp.2 (show s2 ≤ 36 by omega) b2.1 (by omega)
    have q1 : IntKind.i64.wrap (p * s1) = p * s1 := IntWalk.i64_in _ (by omega)
    have q2 : IntKind.i64.wrap (p * s2) = p * s2 := IntWalk.i64_in _ (by omega)
    go_region
    clear q1 q2
    have d1 := Int.ediv_nonneg m1 (Int.natCast_nonneg l.length)
    have d2 := Int.ediv_nonneg m2 (Int.natCast_nonneg l.length)
    have d3 := Int.ediv_le_self (l.length : Int) m1
    have d4 := Int.ediv_le_self (l.length : Int) m2
    go_wp2
    have hpp := Zb (.int .i64 (p * s1 / l.length)) (.int .i64 (p * s2 / l.length)) f3 f4
    refine bodyPost_ret (qU results27 rfl rfl (yG jF xV hpp.1 hpp.2)) rfl ⟨by rw [HW.out]; rfl, ?_⟩
    exact ((f1.setCell (Nat.le_refl _) _).setCell (Nat.le_refl _) _).drew
   ·have hv : V = tv (0, 0) 1 := by rw [← HV.out, if_neg (fun h => hp h.2)]
    simp only [tv, fv] at hv
    have HW := Lib.hid hv
    clear hv hall
    obtain ⟨e1, e2, e3, e4, e5, e6⟩ := hF
    go_wp2_with (go_at_call 51; (with_reducible refine (qZ _ _ _ _ hp).mono ?_); rintro e w1 ⟨rfl, rfl⟩)
    exact Ja results27 jF xV rfl rfl e3 e4 ⟨by rw [HW.out]; rfl, (e1.setCell (Nat.le_refl _) _).setCell (Nat.le_refl _) _⟩
theorem Fits_any (l : List (Int × Int)) (a : Option Addr) (c : Nat) (p : Int) (w : World) (hP : 1 ≤ l.length → ∃ b o, a = some ⟨b, o, none⟩ ∧ qO w b o l) :
 Calls qf 27 #[.slice a l.length c, .int .i64 p] w fun e w' => e = .returned (fitsV l p) ∧ Below w.heap.size w w' := by
 unfold fitsV
 by_cases h : 1 ≤ l.length ∧ l.length ≤ 4
 ·rw [if_pos h]
  obtain ⟨b, o, rfl, hp⟩ := hP h.1
  exact qeq l b o c p h.1 h.2 w hp
 ·rw [if_neg h]; exact qcB a l.length c p h w
theorem qbV {P : Program} {fn : Func} {R : Ending → World → Prop} {ts : Array Value} {p q r s : Tmp} {w : World} {a b c d : Value} (h : fn.results = #[.tmp p, .tmp q, .tmp r, .tmp s]) (hp : ts.getD p undef = a) (hq : ts.getD q undef = b) (hr : ts.getD r undef = c) (hs : ts.getD s undef = d)
 (hR : R (.returned (.tuple #[a, b, c, d])) w) : bodyPost P fn R .ret ⟨ts, []⟩ w := by
 refine bodyPost_ret (v := .tuple #[a, b, c, d]) ?_ rfl hR
 unfold results
 rw [h]
 simp only [List.mapM_toArray, List.mapM_cons, List.mapM_nil, hp, hq, hr, hs, bind_assoc, pure_bind, map_eq_pure_bind, Sem.run_pure]
 rfl
def jH (B : Bk) (g : Grp) : Bool := (g.traffic.any fun x => !decide (yu x)) || !Qu B g g.trunks.toNat
def zT (B : Bk) : Nat → List Grp → Option Nat
 | _, [] => none
 | i, g :: l => if jH B g then some i else zT B (i + 1) l
def yQ (B : Bk) : Nat → Nat → Option (Nat × Nat)
 | 0, _ => none
 | f + 1, y => match zT (qY B y) 0 (qY B y).gs with
   | some i => some (y, i)
   | none => yQ B f (y + 1)
def yearR : Option (Nat × Nat) → Value
 | some p => .tuple #[.int .i64 p.1, .int .i64 p.2, .bool true, .int .i64 0]
 | none => .tuple #[.int .i64 0, .int .i64 0, .bool false, .int .i64 0]
def yearV (B : Bk) : Value := if checkN B = 0 then yearR (yQ B 7 0) else .tuple #[.int .i64 0, .int .i64 0, .bool false, .int .i64 (checkN B)]
theorem Jy {B : Bk} {l : List Grp} {k : Nat} {g : Grp} (h : l[k]? = some g) : zT B k (l.drop k) = if jH B g then some k else zT B (k + 1) (l.drop (k + 1)) := by
 obtain ⟨hk, rfl⟩ := List.getElem?_eq_some_iff.1 h
 rw [List.drop_eq_getElem_cons hk]
 rfl
theorem XL (B B' : Bk) (g : Grp) (h : B'.lim = B.lim) : jH B' (blank g) = jH B g := by
 unfold jH Qu
 rw [h]; rfl
theorem ja (B B' : Bk) (h : B'.lim = B.lim) : ∀ (l : List Grp) (i : Nat), zT B' i (l.map blank) = zT B i l
 | [], _ => rfl
 | g :: l, i => by simp only [List.map_cons, zT, XL B B' g h, ja B B' h l]
theorem qaf {B B' : Bk} {l l' : List Grp} (h : B'.lim = B.lim) (hs : zX l l') : zT B' 0 l' = zT B 0 l := by
 rw [← ja B' { B' with gs := [] } rfl l', ← ja B { B' with gs := [] } h l, Zc hs]
set_option maxHeartbeats 2000000 in
set_option maxRecDepth 100000 in
theorem Year_bad (B : Bk) (w : World) (h : BookAt w B) (hG : Globs w) (hc : checkN B ≠ 0) : Calls qf 25 #[bv B] w fun e w' => e = .returned (.tuple #[.int .i64 0, .int .i64 0, .bool false, .int .i64 (checkN B)]) ∧ Below w.heap.size w w' := by
 have hop := fun W (hB : Below w.heap.size w W) => ym B true W (h.keep hB) (hG.keep hB)
 simp only [Qo, if_neg hc] at hop
 generalize checkN B = r at *
 have hrb : (r != 0) = true := by simp [hc]
 obtain ⟨lim, gr, hr, gs, ga, gc⟩ := B
 simp only [bv, bz] at *
 clear h hG hc
 go_enter s25, ntmps25
 go_wp2_with (go_at_call 31; (with_reducible refine (hop _ (by go_grown)).mono ?_); rintro e w1 ⟨rfl, hB1⟩; (first | (replace hB := Below.call (by with_reducible assumption) hB1 (Nat.le_refl _)) | (replace hB := Below.call (by go_grown) hB1 (Nat.le_refl _)) | (have hB := hB1)); (try clear hc hg hz); obtain ⟨hc, hg⟩ := qy hB; have hz := hB.size; clear hB1; (try simp at hz); (try have hlt0 : w.heap.size < w1.heap.size := by omega))
 have hBw := Below.call (B := w.heap.size) (by go_grown) hB (Nat.le_refl _)
 exact qbV results25 rfl rfl rfl rfl ⟨rfl, hBw.alloc hBw.size _⟩
def qal (B : Bk) (y : Nat) (W : World) (l : List Grp) (ga : Option Addr) (gc : Nat) : Prop := zX (qY B y).gs l ∧ BookAt W { B with gs := l, ga := ga, gc := gc }
theorem qal.keep {B : Bk} {y : Nat} {W W1 : World} {l : List Grp} {ga : Option Addr} {gc : Nat} (h : qal B y W l ga gc) (hB : Below W.heap.size W W1) : qal B y W1 l ga gc := ⟨h.1, h.2.keep hB⟩
set_option maxHeartbeats 4000000 in
set_option maxRecDepth 100000 in
theorem Year_ok (B : Bk) (w : World) (h : BookAt w B) (hG : Globs w) (hc : checkN B = 0) : Calls qf 25 #[bv B] w fun e w' => e = .returned (yearR (yQ B 7 0)) ∧ Below w.heap.size w w' := by
 have hop := fun W (hB : Below w.heap.size w W) => ym B true W (h.keep hB) (hG.keep hB)
 simp only [Qo, if_pos hc] at hop
 have hV := qW hc
 have HS := Lib.hid h.small
 have HV := Lib.hid hV
 have H := Lib.hid h
 have hfl : ∀ g ∈ B.gs, 1 ≤ g.traffic.length := fun g hg => by have := (hV.grp g hg).len; have := hV.num.2.2.1; omega
 have HF := Lib.hid hfl
 obtain ⟨R, hR⟩ : ∃ R, yQ B 7 0 = R := ⟨_, rfl⟩
 rw [hR]
 have HR := Lib.hid hR
 have hsm := h.small
 clear hfl hV hR
 obtain ⟨lim, gr, hr, gs, ga, gc⟩ := B
 simp only [bv, bz] at *
 clear h hG hc
 go_enter s25, ntmps25
 go_upto_region 4 with ((go_at_call 31; (with_reducible refine (hop _ (by go_grown)).mono ?_); rintro e w1 ⟨rfl, hB1⟩; (first | (replace hB := Below.call (by with_reducible assumption) hB1 (Nat.le_refl _)) | (replace hB := Below.call (by go_grown) hB1 (Nat.le_refl _)) | (have hB := hB1)); (try clear hc hg hz); obtain ⟨hc, hg⟩ := qy hB; have hz := hB.size; clear hB1; (try simp at hz); (try have hlt0 : w.heap.size < w1.heap.size := by omega)))
 have hF6 := Five.new w1 (.int .i64 lim.1) (.int .i64 lim.2) (.int .i64 gr) (.int .i64 hr) (.slice ga gs.length gc) 67
 have hBw := (Below.call (B := w.heap.size) (by go_grown) hB (Nat.le_refl _)).alloc (w := w1) (by omega) (.cells #[.int .i64 lim.1, .int .i64 lim.2, .int .i64 gr, .int .i64 hr, .slice ga gs.length gc] 67)
 obtain ⟨W, hW⟩ : ∃ W, w1.alloc (.cells #[.int .i64 lim.1, .int .i64 lim.2, .int .i64 gr, .int .i64 hr, .slice ga gs.length gc] 67) = W := ⟨_, rfl⟩
 obtain ⟨q, hq⟩ : ∃ q, w1.heap.size = q := ⟨_, rfl⟩
 have hwq : w.heap.size < q := by omega
 rw [hq] at hF6
 rw [hW] at hF6 hBw ⊢
 rw [hq]
 clear hW hc hg hB hz hq
 go_wp2
 have hY : qal ⟨lim, gr, hr, gs, ga, gc⟩ 0 W gs ga gc := ⟨.refl _, H.out.keep hBw⟩
 go_loopw [18] (fun i wr => ∃ y : Nat, i = .int .i64 y ∧ y ≤ 7 ∧ Below w.heap.size w wr ∧ Hid (yQ ⟨lim, gr, hr, gs, ga, gc⟩ (7 - y) y = R) ∧ ∃ l a c, Hid (qal ⟨lim, gr, hr, gs, ga, gc⟩ y wr l a c) ∧ Hid (Five wr q (.int .i64 lim.1) (.int .i64 lim.2) (.int .i64 gr) (.int .i64 hr) (.slice a l.length c))) (fun i _ => 7 - (intOf i).toNat)
 case atStart => exact ⟨0, rfl, by omega, hBw, HR, gs, ga, gc, Lib.hid hY, Lib.hid hF6⟩
 case round =>
  clear hF6 hBw hY hop
  obtain ⟨y, rfl, hy, hBr, HY, l, a, c, hA, hF⟩ := hrel
  obtain ⟨⟨e0, e1, e2, e3, e4⟩, ⟨k0, k1, k2, k3, k4⟩⟩ := id hF.out
  have hll : l.length = gs.length := by rw [hA.out.1.1, Qd]
  obtain ⟨b, o, hla, hcs⟩ := hA.out.2.row (by rw [hll]; exact HV.out.len1)
  simp only at hla
  subst hla
  have hl20 : l.length ≤ 20 := by rw [hll]; exact HS.out.1
  have HLL := Lib.hid hll
  clear hll
  by_cases hlt : y < 7
  ·have hy1 : (y : Int) < 7 := by omega
   have hy0 : (0 : Int) ≤ (y : Int) := Int.natCast_nonneg y
   have HYs : Hid (yQ ⟨lim, gr, hr, gs, ga, gc⟩ (7 - y) y = match zT ⟨lim, gr, hr, l, some ⟨b, o, none⟩, c⟩ 0 l with | some i => some (y, i) | none => yQ ⟨lim, gr, hr, gs, ga, gc⟩ (7 - (y + 1)) (y + 1)) := Lib.hid (by
    rw [show 7 - y = (7 - (y + 1)) + 1 by omega]
    show (match zT (qY ⟨lim, gr, hr, gs, ga, gc⟩ y) 0 (qY ⟨lim, gr, hr, gs, ga, gc⟩ y).gs with | some i => some (y, i) | none => yQ ⟨lim, gr, hr, gs, ga, gc⟩ (7 - (y + 1)) (y + 1)) = _
    rw [← qaf (B' := ⟨lim, gr, hr, l, some ⟨b, o, none⟩, c⟩) (by rw [(xM _ y).1]) hA.out.1])
   have HC := Lib.hid hcs
   have hlb : b < wr.heap.size := lt_of_cell (hcs 0 _ (List.getElem?_eq_getElem (show 0 < l.length by rw [HLL.out]; exact HV.out.len1))).1
   clear hcs
   go_wp2
   obtain ⟨V, hV⟩ : ∃ V, V = wr := ⟨_, rfl⟩
   subst hV
   go_loopw [25] (fun i w3 => ∃ j : Nat, i = .int .i64 j ∧ j ≤ l.length ∧ Below V.heap.size V w3 ∧ Hid (zT ⟨lim, gr, hr, l, some ⟨b, o, none⟩, c⟩ 0 l = zT ⟨lim, gr, hr, l, some ⟨b, o, none⟩, c⟩ j (l.drop j))) (fun i _ => l.length - (intOf i).toNat)
   case atStart => exact ⟨0, rfl, by omega, .refl _ _, Lib.hid rfl⟩
   case round =>
    obtain ⟨j, rfl, hj, hB3, HJ⟩ := hrel
    have hBr3 := Below.call hBr hB3 (Nat.le_refl _)
    have e0 := qb _ hB3 e0
    have e1 := qb _ hB3 e1
    have e2 := qb _ hB3 e2
    have e3 := qb _ hB3 e3
    have e4 := qb _ hB3 e4
    have k0 := qg _ hB3 (hF.out.c.1) k0
    have k1 := qg _ hB3 (hF.out.c.2.1) k1
    have k2 := qg _ hB3 (hF.out.c.2.2.1) k2
    have k3 := qg _ hB3 (hF.out.c.2.2.2.1) k3
    have k4 := qg _ hB3 (hF.out.c.2.2.2.2) k4
    have hq3 : q < wr.heap.size := lt_of_cell e0
    have hVs := hB3.size
    by_cases hjl : j < l.length
    ·obtain ⟨x, hx⟩ : ∃ x, l[j]? = some x := ⟨l[j], by simp [hjl]⟩
     obtain ⟨c0, c1, c2⟩ := HC.out j x hx
     have c0 := qb _ hB3 c0
     have c1 := qb _ hB3 c1
     have c2 := qb _ hB3 c2
     have hm : x ∈ l := List.mem_of_getElem? hx
     have hsx := (hA.out.2.small.2 x hm).1
     have htf := fun (W : World) (hB : Below V.heap.size V W) => yK 63 #[] (fun args w => c63 args w) (fun x => !decide (yu x)) x.traffic x.ta x.tc (by omega) W ((hA.out.2.traf x hm).keep hB) (fun x _ W' _ => qeg x W')
     have hT7 : 0 ≤ x.trunks ∧ x.trunks ≤ 7 := by
      have hi := (List.getElem?_eq_some_iff.1 hx).1
      obtain ⟨z, hz⟩ : ∃ z, (qY ⟨lim, gr, hr, gs, ga, gc⟩ y).gs[j]? = some z := ⟨(qY ⟨lim, gr, hr, gs, ga, gc⟩ y).gs[j]'(by rw [← hA.out.1.1]; exact hi), by simp⟩
      obtain ⟨u, hu, _, hu2, _⟩ := xL _ y j z hz
      have hgu := HV.out.grp u (List.mem_of_getElem? hu)
      rw [(hA.out.1.2 j z x hz hx).2.1, hu2]
      exact ⟨hgu.tr0, hgu.tr7⟩
     obtain ⟨T, hT⟩ := Int.eq_ofNat_of_zero_le hT7.1
     have hT8 : T ≤ 7 := by omega
     have hfi := fun (W : World) (hB : Below V.heap.size V W) (htr : ∀ z ∈ x.traffic, yu z) => XT ⟨lim, gr, hr, l, some ⟨b, o, none⟩, c⟩ j T x hx hT8 W ⟨hA.out.2.keep hB, HV.out.num.1⟩ htr
     have hbd : Hid (zT ⟨lim, gr, hr, l, some ⟨b, o, none⟩, c⟩ j (l.drop j) = if jH ⟨lim, gr, hr, l, some ⟨b, o, none⟩, c⟩ x then some j else zT ⟨lim, gr, hr, l, some ⟨b, o, none⟩, c⟩ (j + 1) (l.drop (j + 1))) := Lib.hid (Jy hx)
     rw [hT] at c1
     have hYB : Hid (jH ⟨lim, gr, hr, l, some ⟨b, o, none⟩, c⟩ x = ((x.traffic.any fun x => !decide (yu x)) || !Qu ⟨lim, gr, hr, l, some ⟨b, o, none⟩, c⟩ x T)) := Lib.hid (by unfold jH; rw [hT]; rfl)
     have hj20 : (j : Int) < (l.length : Int) := by omega
     have hj0 : (0 : Int) ≤ (j : Int) := Int.natCast_nonneg j
     clear hx hm hT7 hT hT8 hsx
     simp only [bv] at hfi
     by_cases ha : (x.traffic.any fun x => !decide (yu x)) = true
     ·rw [ha] at htf
      have HA := Lib.hid ha
      have htr : True := trivial
      clear ha hfi
      go_wp2_with (first | (go_at_call 62; (with_reducible refine (htf _ (by go_grown)).mono ?_); rintro e w1 ⟨rfl, hB1⟩; have hBx := Below.call (B := V.heap.size) (w := V) (by go_grown) hB1 (Nat.le_refl _); obtain ⟨hc, hg⟩ := qy hB1; have hs1 := hB1.size; (simp at hs1); have hq4 : q < wr.heap.size + 1 := (by omega)) | (go_at_call 52; (with_reducible refine (hfi _ (by first | exact hBx | go_grown) htr).mono ?_); rintro e w2 ⟨rfl, hB2⟩; have hBy := Below.call (B := V.heap.size) (w := V) (by first | exact hBx | go_grown) hB2 (Nat.le_refl _)))
      have hRR : R = some (y, j) := by rw [← HY.out, HYs.out, HJ.out, hbd.out, hYB.out, HA.out]; rfl
      exact qbV results25 rfl rfl rfl rfl ⟨by rw [hRR]; rfl, Below.call hBr hBx (Nat.le_refl _)⟩
     ·have ha : (x.traffic.any fun x => !decide (yu x)) = false := by simpa using ha
      have htr : ∀ z ∈ x.traffic, yu z := fun z hz => by
       have := List.any_eq_false.1 ha z hz
       simpa using this
      rw [ha] at htf
      have HA := Lib.hid ha
      clear ha
      cases hb : Qu ⟨lim, gr, hr, l, some ⟨b, o, none⟩, c⟩ x T with
      | false =>
        rw [hb] at hfi
        have HB := Lib.hid hb
        clear hb
        go_wp2_with (first | (go_at_call 62; (with_reducible refine (htf _ (by go_grown)).mono ?_); rintro e w1 ⟨rfl, hB1⟩; have hBx := Below.call (B := V.heap.size) (w := V) (by go_grown) hB1 (Nat.le_refl _); obtain ⟨hc, hg⟩ := qy hB1; have hs1 := hB1.size; (simp at hs1); have hq4 : q < wr.heap.size + 1 := (by omega)) | (go_at_call 52; (with_reducible refine (hfi _ (by first | exact hBx | go_grown) htr).mono ?_); rintro e w2 ⟨rfl, hB2⟩; have hBy := Below.call (B := V.heap.size) (w := V) (by first | exact hBx | go_grown) hB2 (Nat.le_refl _)))
        have hRR : R = some (y, j) := by rw [← HY.out, HYs.out, HJ.out, hbd.out, hYB.out, HA.out, HB.out]; rfl
        exact qbV results25 rfl rfl rfl rfl ⟨by rw [hRR]; rfl, Below.call hBr hBy (Nat.le_refl _)⟩
      | true =>
        rw [hb] at hfi
        have HB := Lib.hid hb
        clear hb
        go_wp2_with (first | (go_at_call 62; (with_reducible refine (htf _ (by go_grown)).mono ?_); rintro e w1 ⟨rfl, hB1⟩; have hBx := Below.call (B := V.heap.size) (w := V) (by go_grown) hB1 (Nat.le_refl _); obtain ⟨hc, hg⟩ := qy hB1; have hs1 := hB1.size; (simp at hs1); have hq4 : q < wr.heap.size + 1 := (by omega)) | (go_at_call 52; (with_reducible refine (hfi _ (by first | exact hBx | go_grown) htr).mono ?_); rintro e w2 ⟨rfl, hB2⟩; have hBy := Below.call (B := V.heap.size) (w := V) (by first | exact hBx | go_grown) hB2 (Nat.le_refl _)))
        go_roundw
        case rel => exact ⟨j + 1, rfl, by omega, hBy, Lib.hid (HJ.out.trans (by rw [hbd.out, hYB.out, HA.out, HB.out]; rfl))⟩
        case measure => simp [intOf]; omega
    ·obtain rfl : j = l.length := by omega
     have hgr := Jv ⟨lim, gr, hr, l, some ⟨b, o, none⟩, c⟩ wr (hA.out.2.keep hB3) (by rw [HLL.out]; exact HV.out.len1) (fun x hx => by
      obtain ⟨i, hi, rfl⟩ := List.getElem_of_mem hx
      obtain ⟨z, hz⟩ : ∃ z, (qY ⟨lim, gr, hr, gs, ga, gc⟩ y).gs[i]? = some z := ⟨(qY ⟨lim, gr, hr, gs, ga, gc⟩ y).gs[i]'(by rw [← hA.out.1.1]; exact hi), by simp⟩
      obtain ⟨u, hu, _, _, hu3⟩ := xL _ y i z hz
      have hs := (hA.out.1.2 i z l[i] hz (by simp)).2.2
      rw [hs, hu3]
      exact HF.out u (List.mem_of_getElem? hu)) HV.out.num.2.1.1 (by have := HV.out.num.2.1.2; simp only at this ⊢; omega)
     simp only [bv] at hgr
     have HNo : Hid (yQ ⟨lim, gr, hr, gs, ga, gc⟩ (7 - (y + 1)) (y + 1) = R) := Lib.hid (by
      rw [← HY.out, HYs.out, HJ.out, List.drop_length]; rfl)
     go_wp2
     go_at_call 64
     refine hgr.mono ?_
     rintro e w4 ⟨⟨g1, gc1, l1, tb1, rfl, hS1, hO1, hc1⟩, hB4⟩
     have hF4 := (hF.out.keep hB3).keep hB4
     have hBx := Below.call hBr3 hB4 (Nat.le_refl _)
     clear e0 e1 e2 e3 e4 k0 k1 k2 k3 k4 hgr hB4
     obtain ⟨⟨e0, e1, e2, e3, e4⟩, ⟨k0, k1, k2, k3, k4⟩⟩ := id hF4
     simp only [bv, ZW]
     go_wp2
     go_roundw
     case rel =>
      refine ⟨y + 1, rfl, by omega, Below.set5 hBx (by omega), HNo, l1, some ⟨g1, 0, none⟩, gc1, Lib.hid ⟨?_, ?_⟩, Lib.hid (hF4.put _ _ _ _ _)⟩
      ·have h2 := (Yt (r := gr) hA.out.1).trans hS1
       have e := (xM ⟨lim, gr, hr, gs, ga, gc⟩ y).2.1
       simp only [qY, ZW, e]
       exact h2
      ·refine Ye (B := ZW ⟨lim, gr, hr, l, some ⟨b, o, none⟩, c⟩) hS1 (hO1.five' rfl hq3) hc1 ⟨by simpa [ZW] using hl20, fun z hz => ?_⟩
       obtain ⟨u, hu, rfl⟩ := List.mem_map.1 hz
       have := hA.out.2.small.2 u hu
       simpa [ZE] using this
     case measure => simp [intOf]; omega
  ·obtain rfl : y = 7 := by omega
   have hRR : R = none := by rw [← HY.out]; rfl
   subst hRR
   go_wp2
   exact qbV results25 rfl rfl rfl rfl ⟨rfl, hBr⟩
theorem Year_any (B : Bk) (w : World) (h : BookAt w B) (hG : Globs w) : Calls qf 25 #[bv B] w fun e w' => e = .returned (yearV B) ∧ Below w.heap.size w w' := by
 unfold yearV
 by_cases hc : checkN B = 0
 ·rw [if_pos hc]; exact Year_ok B w h hG hc
 ·rw [if_neg hc]; exact Year_bad B w h hG hc
end Go.Proofs.Tryz
