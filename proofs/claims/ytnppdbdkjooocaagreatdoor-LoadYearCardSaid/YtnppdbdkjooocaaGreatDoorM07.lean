/-
  A part of the proof (C41 C35 B12 C24): lemmas about the program and about the machine that the last text of this claim rests upon; no condition.
-/
import Derived.Deep.DeepCutAuto
import Derived.Test.YtnppdbdkjooocaaGreatDoorM04
import Derived.Test.YtnppdbdkjooocaaGreatDoorM06
import Derived.Test.YtnppdbdkjooocaaGreatDoorM03
import Derived.Test.YtnppdbdkjooocaaGreatDoorM02
set_option linter.unusedSimpArgs false
set_option linter.unusedVariables false
namespace Go.Proofs.Tryz
open Go Go.Load Go.RowKit
def yf (w : World) (v : Value) (L : List Int) : Prop := ∃ a c, v = .slice a L.length c ∧ (1 ≤ L.length → ∃ b, a = some ⟨b, 0, none⟩ ∧ ∀ i x, L[i]? = some x → w.cell? ⟨b, i, none⟩ = some (.int .i64 x))
theorem yf.keep {w w1 : World} {v : Value} {L : List Int} (h : yf w v L) (hB : Below w.heap.size w w1) : yf w1 v L := by
 obtain ⟨a, c, e, f⟩ := h
 exact ⟨a, c, e, fun hl => let ⟨b, e1, e2⟩ := f hl; ⟨b, e1, fun i x hx => qb _ hB (e2 i x hx)⟩⟩
def qcH : List Int → List Int → Bool
 | [], [] => false
 | [], _ :: _ => true
 | _ :: _, [] => false
 | a :: A, b :: B => if a ≠ b then decide (a < b) else qcH A B
theorem qaw : ∀ A B : List Int, (!qcH A B && !qcH B A) = decide (A = B)
 | [], [] => rfl
 | [], _ :: _ => rfl
 | _ :: _, [] => rfl
 | a :: A, b :: B => by
   simp only [qcH]
   by_cases e : a = b
   ·subst e
    simp only [ne_eq, not_true_eq_false, if_false, qaw A B]
    simp
   ·have e' : b ≠ a := Ne.symm e
    simp only [ne_eq, e, e', not_false_eq_true, if_true]
    have h1 : (a :: A = b :: B) ↔ False := by simp [e]
    rw [decide_eq_false (by simp [e] : ¬ (a :: A = b :: B))]
    rcases Int.lt_or_gt_of_ne e with h | h
    ·rw [decide_eq_true h]; rfl
    ·rw [decide_eq_true (show b < a from h)]; simp
theorem qfm {A B : List Int} {k : Nat} {a b : Int} (ha : A[k]? = some a) (hb : B[k]? = some b) : qcH (A.drop k) (B.drop k) = if a ≠ b then decide (a < b) else qcH (A.drop (k + 1)) (B.drop (k + 1)) := by
 obtain ⟨h1, rfl⟩ := List.getElem?_eq_some_iff.1 ha
 obtain ⟨h2, rfl⟩ := List.getElem?_eq_some_iff.1 hb
 rw [List.drop_eq_getElem_cons h1, List.drop_eq_getElem_cons h2]
 rfl
theorem lexN_end {A B : List Int} {k : Nat} (h : A.length ≤ k ∨ B.length ≤ k) (hk1 : k ≤ A.length) (hk2 : k ≤ B.length) : qcH (A.drop k) (B.drop k) = decide (A.length < B.length) := by
 by_cases h1 : A.length ≤ k
 ·rw [List.drop_eq_nil_of_le h1]
  by_cases h2 : B.length ≤ k
  ·rw [List.drop_eq_nil_of_le h2, decide_eq_false (by omega)]; rfl
  ·rw [List.drop_eq_getElem_cons (show k < B.length by omega), decide_eq_true (by omega)]; rfl
 ·rw [List.drop_eq_getElem_cons (show k < A.length by omega), List.drop_eq_nil_of_le (show B.length ≤ k by omega), decide_eq_false (by omega)]; rfl
set_option maxHeartbeats 2000000 in
set_option maxRecDepth 100000 in
theorem Xw (va vb : Value) (A B : List Int) (w : World) (hA : yf w va A) (hB : yf w vb B) (h1 : A.length ≤ 100) (h2 : B.length ≤ 100) : Calls qf 99 #[va, vb] w fun e w' => e = .returned (.bool (qcH A B)) ∧ Below w.heap.size w w' := by
 obtain ⟨aa, ca, rfl, ha⟩ := hA
 obtain ⟨ab, cb, rfl, hb⟩ := hB
 have HA := Lib.hid ha
 have HB := Lib.hid hb
 have HD := Lib.hid fun (k : Nat) (a b : Int) (ha : A[k]? = some a) (hb : B[k]? = some b) => qfm ha hb
 have HE := Lib.hid fun (k : Nat) (h : A.length ≤ k ∨ B.length ≤ k) (hk1 : k ≤ A.length) (hk2 : k ≤ B.length) => lexN_end h hk1 hk2
 have H0 : Hid (qcH A B = qcH (A.drop 0) (B.drop 0)) := Lib.hid rfl
 clear ha hb
 go_enter s99, ntmps99
 go_wp2
 go_loopw [5] (fun i wr => ∃ k : Nat, i = .int .i64 k ∧ k ≤ A.length ∧ k ≤ B.length ∧ Below w.heap.size w wr ∧ Hid (qcH A B = qcH (A.drop k) (B.drop k))) (fun i _ => A.length - (intOf i).toNat)
 case atStart => exact ⟨0, rfl, by omega, by omega, .refl _ _, H0⟩
 case round =>
  obtain ⟨k, rfl, hk1, hk2, hBr, HL⟩ := hrel
  have hk0 : (0 : Int) ≤ (k : Int) := Int.natCast_nonneg k
  by_cases hlt : k < A.length ∧ k < B.length
  ·obtain ⟨l1, l2⟩ := hlt
   obtain ⟨a, ha⟩ : ∃ a, A[k]? = some a := ⟨A[k], by simp [l1]⟩
   obtain ⟨b, hb⟩ : ∃ b, B[k]? = some b := ⟨B[k], by simp [l2]⟩
   obtain ⟨ba, rfl, ra⟩ := HA.out (by omega)
   obtain ⟨bb, rfl, rb⟩ := HB.out (by omega)
   have c0 := qb _ hBr (ra k a ha)
   have c1 := qb _ hBr (rb k b hb)
   have hd := Lib.hid (HD.out k a b ha hb)
   have i1 : (k : Int) < (A.length : Int) := by omega
   have i2 : (k : Int) < (B.length : Int) := by omega
   clear ra rb ha hb
   by_cases e : a = b
   ·subst e
    go_wp2
    go_quiet (fail)
    go_wp2
    go_roundw
    case rel => exact ⟨k + 1, rfl, by omega, by omega, below_drewN hBr _, Lib.hid (HL.out.trans (by rw [hd.out, if_neg (by simp)]))⟩
    case measure => simp [intOf]; omega
   ·have hab : (a == b) = false := by simp [e]
    have hab' : (a != b) = true := by simp [e]
    have hL : Hid (qcH A B = decide (a < b)) := Lib.hid (HL.out.trans (by rw [hd.out, if_pos e]))
    clear e
    go_wp2
    go_quiet (fail)
    go_wp2
    go_quiet (fail)
    go_wp2
    go_ret
    exact ⟨by rw [hL.out]; rfl, below_drewN (below_drewN hBr _) _⟩
  ·have hE := Lib.hid (HL.out.trans (HE.out k (by omega) hk1 hk2))
   by_cases l1 : k < A.length
   ·have i1 : (k : Int) < (A.length : Int) := by omega
    have i2 : ¬ (k : Int) < (B.length : Int) := by omega
    go_wp2
    go_ret
    refine ⟨?_, hBr⟩
    rw [hE.out]; simp
   ·have i1 : ¬ (k : Int) < (A.length : Int) := by omega
    go_wp2
    go_ret
    refine ⟨?_, hBr⟩
    rw [hE.out]; simp
set_option maxHeartbeats 1000000 in
theorem JQ (va vb : Value) (A B : List Int) (w : World) (hA : yf w va A) (hB : yf w vb B) (h1 : A.length ≤ 100) (h2 : B.length ≤ 100) : Calls qf 70 #[va, vb] w fun e w' => e = .returned (.bool (decide (A = B))) ∧ Below w.heap.size w w' := by
 have hl1 := fun W (h : Below w.heap.size w W) => Xw va vb A B W (hA.keep h) (hB.keep h) h1 h2
 have hl2 := fun W (h : Below w.heap.size w W) => Xw vb va B A W (hB.keep h) (hA.keep h) h2 h1
 have hb := Lib.hid (qaw A B)
 obtain ⟨aa, ca, rfl, _⟩ := hA
 obtain ⟨ab, cb, rfl, _⟩ := hB
 cases h3 : qcH A B with
 | true =>
   simp only [h3] at hl1 hb
   go_enter s70, ntmps70
   go_wp2_with (go_at_call 99; refine (hl1 _ (by go_grown)).mono ?_; rintro e w1 ⟨rfl, hB1⟩)
   go_ret
   exact ⟨by rw [← hb.out]; rfl, hB1⟩
 | false =>
   simp only [h3] at hl1 hb
   go_enter s70, ntmps70
   go_wp2_with (first | (go_at_call 99; (with_reducible refine (hl1 _ (.refl _ _)).mono ?_); rintro e w1 ⟨rfl, hB1⟩) | (go_at_call 99; (with_reducible refine (hl2 _ (by assumption)).mono ?_); rintro e w2 ⟨rfl, hB2⟩))
   go_ret
   exact ⟨by rw [← hb.out]; rfl, Below.call hB1 hB2 (Nat.le_refl _)⟩
theorem Jt (va vb : Value) (A B : List Int) (w : World) (hA : yf w va A) (hB : yf w vb B) (h1 : A.length ≤ 100) (h2 : B.length ≤ 100) : Calls qf 29 #[va, vb] w fun e w' => e = .returned (.bool (decide (A = B))) ∧ Below w.heap.size w w' := by
 have hs := JQ va vb A B w hA hB h1 h2
 obtain ⟨aa, ca, rfl, _⟩ := hA
 obtain ⟨ab, cb, rfl, _⟩ := hB
 go_enter s29, ntmps29
 go_wp2_with (go_at_call 70; refine hs.mono ?_; rintro e w1 ⟨rfl, hB1⟩)
 go_ret
 exact ⟨rfl, hB1⟩
theorem yU {base : Nat} {W : World} {v : Value} {L : List Int} (h : SliceOf base W v L) : yf W v L := by
 have hform : ∃ a c, v = .slice a L.length c := by
  obtain ⟨_, ⟨h1, h2⟩ | ⟨g, cap, cur, rfl, _⟩⟩ := h
  ·exact ⟨none, 0, by rw [h1]; simp_all⟩
  ·exact ⟨_, _, rfl⟩
 obtain ⟨a, c, rfl⟩ := hform
 refine ⟨a, c, rfl, fun hl => ?_⟩
 cases a with
 | none =>
   obtain ⟨_, ⟨h1, h2⟩ | ⟨g, cap, cur, e, _⟩⟩ := h
   ·exact absurd h2 (by omega)
   ·cases e
 | some ad =>
   obtain ⟨_, ⟨h1, h2⟩ | ⟨g, cap, cur, e, hb, hg, hn, _, hs, ht⟩⟩ := h
   ·cases h1
   ·obtain rfl : ad = ⟨g, 0, none⟩ := by injection e with e1; exact Option.some.inj e1
    refine ⟨g, rfl, fun i x hx => ?_⟩
    have hx' : (L.map (Value.int .i64))[i]? = some (.int .i64 x) := by rw [List.getElem?_map, hx]; rfl
    rw [← ht, List.getElem?_take] at hx'
    split at hx'
    ·have hu : cur[i]? = some (.int .i64 x) := by simpa using hx'
     unfold World.cell?; rw [hg]; simp [hu]
    ·cases hx'
theorem qcP {P : Program} {fn : Func} {R : Ending → World → Prop} {ts : Array Value} {p q r s : Tmp} {w : World} {a b c d : Value} (h : fn.results = #[.tmp p, .tmp q, .tmp r, .tmp s]) (hp : ts.getD p undef = a) (hq : ts.getD q undef = b) (hr : ts.getD r undef = c) (hs : ts.getD s undef = d)
 (hR : R (.returned (.tuple #[a, b, c, d])) w) : bodyPost P fn R .ret ⟨ts, []⟩ w := by
 refine bodyPost_ret (v := .tuple #[a, b, c, d]) ?_ rfl hR
 unfold results
 rw [h]
 simp only [List.mapM_toArray, List.mapM_cons, List.mapM_nil, hp, hq, hr, hs, bind_assoc, pure_bind, map_eq_pure_bind, Sem.run_pure]
 rfl
def zQ (B : Bk) (g : Grp) : Bool := (g.traffic.any fun x => !decide (zU x)) || !yS B g g.trunks.toNat
def qZ (B : Bk) : Nat → List Grp → Option Nat
 | _, [] => none
 | i, g :: l => if zQ B g then some i else qZ B (i + 1) l
def qB (B : Bk) : Nat → Nat → Option (Nat × Nat)
 | 0, _ => none
 | f + 1, y => match qZ (qo B y) 0 (qo B y).gs with
   | some i => some (y, i)
   | none => qB B f (y + 1)
def qch : Option (Nat × Nat) → Value
 | some p => .tuple #[.int .i64 p.1, .int .i64 p.2, .bool true, .int .i64 0]
 | none => .tuple #[.int .i64 0, .int .i64 0, .bool false, .int .i64 0]
def qgK (B : Bk) : Value := if checkN B = 0 then qch (qB B 7 0) else .tuple #[.int .i64 0, .int .i64 0, .bool false, .int .i64 (checkN B)]
theorem JV {B : Bk} {l : List Grp} {k : Nat} {g : Grp} (h : l[k]? = some g) : qZ B k (l.drop k) = if zQ B g then some k else qZ B (k + 1) (l.drop (k + 1)) := by
 obtain ⟨hk, rfl⟩ := List.getElem?_eq_some_iff.1 h
 rw [List.drop_eq_getElem_cons hk]
 rfl
theorem JI (B B' : Bk) (g : Grp) (h : B'.lim = B.lim) : zQ B' (blank g) = zQ B g := by
 unfold zQ yS
 rw [h]; rfl
theorem jh (B B' : Bk) (h : B'.lim = B.lim) : ∀ (l : List Grp) (i : Nat), qZ B' i (l.map blank) = qZ B i l
 | [], _ => rfl
 | g :: l, i => by simp only [List.map_cons, qZ, JI B B' g h, jh B B' h l]
theorem JW {B B' : Bk} {l l' : List Grp} (h : B'.lim = B.lim) (hs : zL l l') : qZ B' 0 l' = qZ B 0 l := by
 rw [← jh B' { B' with gs := [] } rfl l', ← jh B { B' with gs := [] } h l, Qn hs]
set_option maxHeartbeats 2000000 in
set_option maxRecDepth 100000 in
theorem Year_bad (B : Bk) (w : World) (h : BookAt w B) (hG : Globs w) (hc : checkN B ≠ 0) : Calls qf 7 #[bv B] w fun e w' => e = .returned (.tuple #[.int .i64 0, .int .i64 0, .bool false, .int .i64 (checkN B)]) ∧ Below w.heap.size w w' := by
 have hop := fun W (hB : Below w.heap.size w W) => yw B true W (h.keep hB) (hG.keep hB)
 simp only [Qv, if_neg hc] at hop
 generalize checkN B = r at *
 have hrb : (r != 0) = true := by simp [hc]
 obtain ⟨lim, gr, hr, gs, ga, gc⟩ := B
 simp only [bv, bz] at *
 clear h hG hc
 go_enter s7, ntmps7
 go_wp2_with (go_at_call 31; (with_reducible refine (hop _ (by go_grown)).mono ?_); rintro e w1 ⟨rfl, hB1⟩; (first | (replace hB := Below.call (by with_reducible assumption) hB1 (Nat.le_refl _)) | (replace hB := Below.call (by go_grown) hB1 (Nat.le_refl _)) | (have hB := hB1)); (try clear hc hg hz); obtain ⟨hc, hg⟩ := qC hB; have hz := hB.size; clear hB1; (try simp at hz); (try have hlt0 : w.heap.size < w1.heap.size := by omega))
 have hBw := Below.call (B := w.heap.size) (by go_grown) hB (Nat.le_refl _)
 exact qcP results7 rfl rfl rfl rfl ⟨rfl, hBw.alloc hBw.size _⟩
def JR (B : Bk) (y : Nat) (W : World) (l : List Grp) (ga : Option Addr) (gc : Nat) : Prop := zL (qo B y).gs l ∧ BookAt W { B with gs := l, ga := ga, gc := gc }
theorem JR.keep {B : Bk} {y : Nat} {W W1 : World} {l : List Grp} {ga : Option Addr} {gc : Nat} (h : JR B y W l ga gc) (hB : Below W.heap.size W W1) : JR B y W1 l ga gc := ⟨h.1, h.2.keep hB⟩
set_option maxHeartbeats 4000000 in
set_option maxRecDepth 100000 in
theorem Year_ok (B : Bk) (w : World) (h : BookAt w B) (hG : Globs w) (hc : checkN B = 0) : Calls qf 7 #[bv B] w fun e w' => e = .returned (qch (qB B 7 0)) ∧ Below w.heap.size w w' := by
 have hop := fun W (hB : Below w.heap.size w W) => yw B true W (h.keep hB) (hG.keep hB)
 simp only [Qv, if_pos hc] at hop
 have hV := qp hc
 have HS := Lib.hid h.small
 have HV := Lib.hid hV
 have H := Lib.hid h
 have hfl : ∀ g ∈ B.gs, 1 ≤ g.traffic.length := fun g hg => by have := (hV.grp g hg).len; have := hV.num.2.2.1; omega
 have HF := Lib.hid hfl
 obtain ⟨R, hR⟩ : ∃ R, qB B 7 0 = R := ⟨_, rfl⟩
 rw [hR]
 have HR := Lib.hid hR
 have hsm := h.small
 clear hfl hV hR
 obtain ⟨lim, gr, hr, gs, ga, gc⟩ := B
 simp only [bv, bz] at *
 clear h hG hc
 go_enter s7, ntmps7
 go_upto_region 4 with ((go_at_call 31; (with_reducible refine (hop _ (by go_grown)).mono ?_); rintro e w1 ⟨rfl, hB1⟩; (first | (replace hB := Below.call (by with_reducible assumption) hB1 (Nat.le_refl _)) | (replace hB := Below.call (by go_grown) hB1 (Nat.le_refl _)) | (have hB := hB1)); (try clear hc hg hz); obtain ⟨hc, hg⟩ := qC hB; have hz := hB.size; clear hB1; (try simp at hz); (try have hlt0 : w.heap.size < w1.heap.size := by omega)))
 have hF6 := Five.new w1 (.int .i64 lim.1) (.int .i64 lim.2) (.int .i64 gr) (.int .i64 hr) (.slice ga gs.length gc) 66
 have hBw := (Below.call (B := w.heap.size) (by go_grown) hB (Nat.le_refl _)).alloc (w := w1) (by omega) (.cells #[.int .i64 lim.1, .int .i64 lim.2, .int .i64 gr, .int .i64 hr, .slice ga gs.length gc] 66)
 obtain ⟨W, hW⟩ : ∃ W, w1.alloc (.cells #[.int .i64 lim.1, .int .i64 lim.2, .int .i64 gr, .int .i64 hr, .slice ga gs.length gc] 66) = W := ⟨_, rfl⟩
 obtain ⟨q, hq⟩ : ∃ q, w1.heap.size = q := ⟨_, rfl⟩
 have hwq : w.heap.size < q := by omega
 rw [hq] at hF6
 rw [hW] at hF6 hBw ⊢
 rw [hq]
 clear hW hc hg hB hz hq
 go_wp2
 have hY : JR ⟨lim, gr, hr, gs, ga, gc⟩ 0 W gs ga gc := ⟨.refl _, H.out.keep hBw⟩
 go_loopw [18] (fun i wr => ∃ y : Nat, i = .int .i64 y ∧ y ≤ 7 ∧ Below w.heap.size w wr ∧ Hid (qB ⟨lim, gr, hr, gs, ga, gc⟩ (7 - y) y = R) ∧ ∃ l a c, Hid (JR ⟨lim, gr, hr, gs, ga, gc⟩ y wr l a c) ∧ Hid (Five wr q (.int .i64 lim.1) (.int .i64 lim.2) (.int .i64 gr) (.int .i64 hr) (.slice a l.length c))) (fun i _ => 7 - (intOf i).toNat)
 case atStart => exact ⟨0, rfl, by omega, hBw, HR, gs, ga, gc, Lib.hid hY, Lib.hid hF6⟩
 case round =>
  clear hF6 hBw hY hop
  obtain ⟨y, rfl, hy, hBr, HY, l, a, c, hA, hF⟩ := hrel
  obtain ⟨⟨e0, e1, e2, e3, e4⟩, ⟨k0, k1, k2, k3, k4⟩⟩ := id hF.out
  have hll : l.length = gs.length := by rw [hA.out.1.1, yg]
  obtain ⟨b, o, hla, hcs⟩ := hA.out.2.row (by rw [hll]; exact HV.out.len1)
  simp only at hla
  subst hla
  have hl20 : l.length ≤ 20 := by rw [hll]; exact HS.out.1
  have HLL := Lib.hid hll
  clear hll
  by_cases hlt : y < 7
  ·have hy1 : (y : Int) < 7 := by omega
   have hy0 : (0 : Int) ≤ (y : Int) := Int.natCast_nonneg y
   have HYs : Hid (qB ⟨lim, gr, hr, gs, ga, gc⟩ (7 - y) y = match qZ ⟨lim, gr, hr, l, some ⟨b, o, none⟩, c⟩ 0 l with | some i => some (y, i) | none => qB ⟨lim, gr, hr, gs, ga, gc⟩ (7 - (y + 1)) (y + 1)) := Lib.hid (by
    rw [show 7 - y = (7 - (y + 1)) + 1 by omega]
    show (match qZ (qo ⟨lim, gr, hr, gs, ga, gc⟩ y) 0 (qo ⟨lim, gr, hr, gs, ga, gc⟩ y).gs with | some i => some (y, i) | none => qB ⟨lim, gr, hr, gs, ga, gc⟩ (7 - (y + 1)) (y + 1)) = _
    rw [← JW (B' := ⟨lim, gr, hr, l, some ⟨b, o, none⟩, c⟩) (by rw [(zq _ y).1]) hA.out.1])
   have HC := Lib.hid hcs
   have hlb : b < wr.heap.size := lt_of_cell (hcs 0 _ (List.getElem?_eq_getElem (show 0 < l.length by rw [HLL.out]; exact HV.out.len1))).1
   clear hcs
   go_wp2
   obtain ⟨V, hV⟩ : ∃ V, V = wr := ⟨_, rfl⟩
   subst hV
   go_loopw [25] (fun i w3 => ∃ j : Nat, i = .int .i64 j ∧ j ≤ l.length ∧ Below V.heap.size V w3 ∧ Hid (qZ ⟨lim, gr, hr, l, some ⟨b, o, none⟩, c⟩ 0 l = qZ ⟨lim, gr, hr, l, some ⟨b, o, none⟩, c⟩ j (l.drop j))) (fun i _ => l.length - (intOf i).toNat)
   case atStart => exact ⟨0, rfl, by omega, .refl _ _, Lib.hid rfl⟩
   case round =>
    obtain ⟨j, rfl, hj, hB3, HJ⟩ := hrel
    have hBr3 := Below.call hBr hB3 (Nat.le_refl _)
    have e0 := qb _ hB3 e0
    have e1 := qb _ hB3 e1
    have e2 := qb _ hB3 e2
    have e3 := qb _ hB3 e3
    have e4 := qb _ hB3 e4
    have k0 := qg _ hB3 (hF.out.c.1) k0
    have k1 := qg _ hB3 (hF.out.c.2.1) k1
    have k2 := qg _ hB3 (hF.out.c.2.2.1) k2
    have k3 := qg _ hB3 (hF.out.c.2.2.2.1) k3
    have k4 := qg _ hB3 (hF.out.c.2.2.2.2) k4
    have hq3 : q < wr.heap.size := lt_of_cell e0
    have hVs := hB3.size
    by_cases hjl : j < l.length
    ·obtain ⟨x, hx⟩ : ∃ x, l[j]? = some x := ⟨l[j], by simp [hjl]⟩
     obtain ⟨c0, c1, c2⟩ := HC.out j x hx
     have c0 := qb _ hB3 c0
     have c1 := qb _ hB3 c1
     have c2 := qb _ hB3 c2
     have hm : x ∈ l := List.mem_of_getElem? hx
     have hsx := (hA.out.2.small.2 x hm).1
     have htf := fun (W : World) (hB : Below V.heap.size V W) => yO 33 #[] (fun args w => c33 args w) (fun x => !decide (zU x)) x.traffic x.ta x.tc (by omega) W ((hA.out.2.traf x hm).keep hB) (fun x _ W' _ => qel x W')
     have hT7 : 0 ≤ x.trunks ∧ x.trunks ≤ 7 := by
      have hi := (List.getElem?_eq_some_iff.1 hx).1
      obtain ⟨z, hz⟩ : ∃ z, (qo ⟨lim, gr, hr, gs, ga, gc⟩ y).gs[j]? = some z := ⟨(qo ⟨lim, gr, hr, gs, ga, gc⟩ y).gs[j]'(by rw [← hA.out.1.1]; exact hi), by simp⟩
      obtain ⟨u, hu, _, hu2, _⟩ := xX _ y j z hz
      have hgu := HV.out.grp u (List.mem_of_getElem? hu)
      rw [(hA.out.1.2 j z x hz hx).2.1, hu2]
      exact ⟨hgu.tr0, hgu.tr7⟩
     obtain ⟨T, hT⟩ := Int.eq_ofNat_of_zero_le hT7.1
     have hT8 : T ≤ 7 := by omega
     have hfi := fun (W : World) (hB : Below V.heap.size V W) (htr : ∀ z ∈ x.traffic, zU z) => Ji ⟨lim, gr, hr, l, some ⟨b, o, none⟩, c⟩ j T x hx hT8 W ⟨hA.out.2.keep hB, HV.out.num.1⟩ htr
     have hbd : Hid (qZ ⟨lim, gr, hr, l, some ⟨b, o, none⟩, c⟩ j (l.drop j) = if zQ ⟨lim, gr, hr, l, some ⟨b, o, none⟩, c⟩ x then some j else qZ ⟨lim, gr, hr, l, some ⟨b, o, none⟩, c⟩ (j + 1) (l.drop (j + 1))) := Lib.hid (JV hx)
     rw [hT] at c1
     have hYB : Hid (zQ ⟨lim, gr, hr, l, some ⟨b, o, none⟩, c⟩ x = ((x.traffic.any fun x => !decide (zU x)) || !yS ⟨lim, gr, hr, l, some ⟨b, o, none⟩, c⟩ x T)) := Lib.hid (by unfold zQ; rw [hT]; rfl)
     have hj20 : (j : Int) < (l.length : Int) := by omega
     have hj0 : (0 : Int) ≤ (j : Int) := Int.natCast_nonneg j
     clear hx hm hT7 hT hT8 hsx
     simp only [bv] at hfi
     by_cases ha : (x.traffic.any fun x => !decide (zU x)) = true
     ·rw [ha] at htf
      have HA := Lib.hid ha
      have htr : True := trivial
      clear ha hfi
      go_wp2_with (first | (go_at_call 32; (with_reducible refine (htf _ (by go_grown)).mono ?_); rintro e w1 ⟨rfl, hB1⟩; have hBx := Below.call (B := V.heap.size) (w := V) (by go_grown) hB1 (Nat.le_refl _); obtain ⟨hc, hg⟩ := qC hB1; have hs1 := hB1.size; (simp at hs1); have hq4 : q < wr.heap.size + 1 := (by omega)) | (go_at_call 35; (with_reducible refine (hfi _ (by first | exact hBx | go_grown) htr).mono ?_); rintro e w2 ⟨rfl, hB2⟩; have hBy := Below.call (B := V.heap.size) (w := V) (by first | exact hBx | go_grown) hB2 (Nat.le_refl _)))
      have hRR : R = some (y, j) := by rw [← HY.out, HYs.out, HJ.out, hbd.out, hYB.out, HA.out]; rfl
      exact qcP results7 rfl rfl rfl rfl ⟨by rw [hRR]; rfl, Below.call hBr hBx (Nat.le_refl _)⟩
     ·have ha : (x.traffic.any fun x => !decide (zU x)) = false := by simpa using ha
      have htr : ∀ z ∈ x.traffic, zU z := fun z hz => by
       have := List.any_eq_false.1 ha z hz
       simpa using this
      rw [ha] at htf
      have HA := Lib.hid ha
      clear ha
      cases hb : yS ⟨lim, gr, hr, l, some ⟨b, o, none⟩, c⟩ x T with
      | false =>
        rw [hb] at hfi
        have HB := Lib.hid hb
        clear hb
        go_wp2_with (first | (go_at_call 32; (with_reducible refine (htf _ (by go_grown)).mono ?_); rintro e w1 ⟨rfl, hB1⟩; have hBx := Below.call (B := V.heap.size) (w := V) (by go_grown) hB1 (Nat.le_refl _); obtain ⟨hc, hg⟩ := qC hB1; have hs1 := hB1.size; (simp at hs1); have hq4 : q < wr.heap.size + 1 := (by omega)) | (go_at_call 35; (with_reducible refine (hfi _ (by first | exact hBx | go_grown) htr).mono ?_); rintro e w2 ⟨rfl, hB2⟩; have hBy := Below.call (B := V.heap.size) (w := V) (by first | exact hBx | go_grown) hB2 (Nat.le_refl _)))
        have hRR : R = some (y, j) := by rw [← HY.out, HYs.out, HJ.out, hbd.out, hYB.out, HA.out, HB.out]; rfl
        exact qcP results7 rfl rfl rfl rfl ⟨by rw [hRR]; rfl, Below.call hBr hBy (Nat.le_refl _)⟩
      | true =>
        rw [hb] at hfi
        have HB := Lib.hid hb
        clear hb
        go_wp2_with (first | (go_at_call 32; (with_reducible refine (htf _ (by go_grown)).mono ?_); rintro e w1 ⟨rfl, hB1⟩; have hBx := Below.call (B := V.heap.size) (w := V) (by go_grown) hB1 (Nat.le_refl _); obtain ⟨hc, hg⟩ := qC hB1; have hs1 := hB1.size; (simp at hs1); have hq4 : q < wr.heap.size + 1 := (by omega)) | (go_at_call 35; (with_reducible refine (hfi _ (by first | exact hBx | go_grown) htr).mono ?_); rintro e w2 ⟨rfl, hB2⟩; have hBy := Below.call (B := V.heap.size) (w := V) (by first | exact hBx | go_grown) hB2 (Nat.le_refl _)))
        go_roundw
        case rel => exact ⟨j + 1, rfl, by omega, hBy, Lib.hid (HJ.out.trans (by rw [hbd.out, hYB.out, HA.out, HB.out]; rfl))⟩
        case measure => simp [intOf]; omega
    ·obtain rfl : j = l.length := by omega
     have hgr := qan ⟨lim, gr, hr, l, some ⟨b, o, none⟩, c⟩ wr (hA.out.2.keep hB3) (by rw [HLL.out]; exact HV.out.len1) (fun x hx => by
      obtain ⟨i, hi, rfl⟩ := List.getElem_of_mem hx
      obtain ⟨z, hz⟩ : ∃ z, (qo ⟨lim, gr, hr, gs, ga, gc⟩ y).gs[i]? = some z := ⟨(qo ⟨lim, gr, hr, gs, ga, gc⟩ y).gs[i]'(by rw [← hA.out.1.1]; exact hi), by simp⟩
      obtain ⟨u, hu, _, _, hu3⟩ := xX _ y i z hz
      have hs := (hA.out.1.2 i z l[i] hz (by simp)).2.2
      rw [hs, hu3]
      exact HF.out u (List.mem_of_getElem? hu)) HV.out.num.2.1.1 (by have := HV.out.num.2.1.2; simp only at this ⊢; omega)
     simp only [bv] at hgr
     have HNo : Hid (qB ⟨lim, gr, hr, gs, ga, gc⟩ (7 - (y + 1)) (y + 1) = R) := Lib.hid (by
      rw [← HY.out, HYs.out, HJ.out, List.drop_length]; rfl)
     go_wp2
     go_at_call 36
     refine hgr.mono ?_
     rintro e w4 ⟨⟨g1, gc1, l1, tb1, rfl, hS1, hO1, hc1⟩, hB4⟩
     have hF4 := (hF.out.keep hB3).keep hB4
     have hBx := Below.call hBr3 hB4 (Nat.le_refl _)
     clear e0 e1 e2 e3 e4 k0 k1 k2 k3 k4 hgr hB4
     obtain ⟨⟨e0, e1, e2, e3, e4⟩, ⟨k0, k1, k2, k3, k4⟩⟩ := id hF4
     simp only [bv, YK]
     go_wp2
     go_roundw
     case rel =>
      refine ⟨y + 1, rfl, by omega, Below.set5 hBx (by omega), HNo, l1, some ⟨g1, 0, none⟩, gc1, Lib.hid ⟨?_, ?_⟩, Lib.hid (hF4.put _ _ _ _ _)⟩
      ·have h2 := (Xa (r := gr) hA.out.1).trans hS1
       have e := (zq ⟨lim, gr, hr, gs, ga, gc⟩ y).2.1
       simp only [qo, YK, e]
       exact h2
      ·refine Yz (B := YK ⟨lim, gr, hr, l, some ⟨b, o, none⟩, c⟩) hS1 (hO1.five' rfl hq3) hc1 ⟨by simpa [YK] using hl20, fun z hz => ?_⟩
       obtain ⟨u, hu, rfl⟩ := List.mem_map.1 hz
       have := hA.out.2.small.2 u hu
       simpa [QY] using this
     case measure => simp [intOf]; omega
  ·obtain rfl : y = 7 := by omega
   have hRR : R = none := by rw [← HY.out]; rfl
   subst hRR
   go_wp2
   exact qcP results7 rfl rfl rfl rfl ⟨rfl, hBr⟩
theorem QR (B : Bk) (w : World) (h : BookAt w B) (hG : Globs w) : Calls qf 7 #[bv B] w fun e w' => e = .returned (qgK B) ∧ Below w.heap.size w w' := by
 unfold qgK
 by_cases hc : checkN B = 0
 ·rw [if_pos hc]; exact Year_ok B w h hG hc
 ·rw [if_neg hc]; exact Year_bad B w h hG hc
def badX (l : Int × Int) (T : Nat) (x : Int × Int) : Bool := !decide (zU x) || !borne x T l
theorem qep {α : Type} (p q : α → Bool) : ∀ l : List α, (l.any p || l.any q) = l.any fun x => p x || q x
 | [] => rfl
 | x :: l => by
   simp only [List.any_cons, ← qep p q l]
   generalize l.any p = a
   generalize l.any q = b
   cases p x <;> cases q x <;> cases a <;> cases b <;> rfl
theorem qdZ (B : Bk) (g : Grp) : zQ B g = g.traffic.any (badX B.lim g.trunks.toNat) := by
 unfold zQ yS
 rw [Bool.not_not, qep]
 rfl
def qeY (r : Int) : Nat → Int × Int → Int × Int
 | 0, x => x
 | n + 1, x => grw r (qeY r n x)
def yrG (r : Int) (n : Nat) (g : Grp) : Grp := { g with traffic := g.traffic.map (qeY r n) }
theorem zW (B : Bk) : ∀ n, (qo B n).gs = B.gs.map (yrG B.growth n)
 | 0 => by
   have e : yrG B.growth 0 = id := by
    funext g
    have e0 : qeY B.growth 0 = id := rfl
    simp [yrG, e0]
   rw [e, List.map_id]
   rfl
 | n + 1 => by
   have e := (zq B n).2.1
   show (qo B n).gs.map (QY (qo B n).growth) = _
   rw [e, zW B n, List.map_map]
   refine List.map_congr_left fun g _ => ?_
   simp only [QY, yrG, Function.comp, List.map_map]
   rfl
structure UpX (x y : Int × Int) : Prop where
 bot : y.2 = x.2
 b1 : 1 ≤ x.2 ∧ x.2 ≤ 4
 pos : 0 ≤ x.1
 up : x.1 ≤ y.1 ∨ 12 < y.1
theorem UpX.bad {x y l : Int × Int} {T : Nat} (h : UpX x y) (h2 : 0 < l.2) (hT : T ≤ 7) (hb : badX l T x = true) : badX l T y = true := by
 unfold badX at *
 by_cases ht : zU y
 ·have ht' := ht
  obtain ⟨⟨y1, y2⟩, y3, y4⟩ := ht'
  have hu := h.up.resolve_right (by omega)
  have hp := h.pos
  have hx : zU x := ⟨⟨h.pos, by omega⟩, h.b1.1, h.b1.2⟩
  rw [decide_eq_true hx] at hb
  rw [decide_eq_true ht]
  simp only [Bool.not_true, Bool.false_or, Bool.not_eq_true'] at hb ⊢
  cases hy : borne y T l with
  | false => rfl
  | true =>
    obtain ⟨bo, b1, _, _⟩ := h
    obtain ⟨x1, x2⟩ := x
    obtain ⟨z1, z2⟩ := y
    simp only at *
    subst bo
    obtain ⟨t, rfl⟩ := Int.eq_ofNat_of_zero_le hp
    obtain ⟨b, rfl⟩ := Int.eq_ofNat_of_zero_le (show 0 ≤ z2 by omega)
    obtain ⟨m, rfl⟩ : ∃ m : Nat, z1 = ((t + m : Nat) : Int) := ⟨(z1 - t).toNat, by omega⟩
    rw [Xy h2 (by omega) hT m (by omega) hy] at hb
    exact hb
 ·rw [decide_eq_false ht]
  rfl
theorem grw_pos {r : Int} {x : Int × Int} (h0 : 0 ≤ r) (hp : 0 ≤ x.1) : 0 ≤ (grw r x).1 := by
 unfold grw
 split
 ·have := Int.mul_nonneg hp (show 0 ≤ 100 + r by omega)
  show 0 ≤ (x.1 * (100 + r) + 99) / 100
  omega
 ·exact hp
theorem Jm (r : Int) (x : Int × Int) : (grw r x).2 = x.2 := by
 unfold grw
 split <;> rfl
theorem UpX.grow {x y : Int × Int} {r r' : Int} (h : UpX x y) (h0 : 0 ≤ r) (hr : r ≤ r') : UpX (grw r x) (grw r' y) := by
 refine ⟨by rw [Jm, Jm, h.bot], by rw [Jm]; exact h.b1, grw_pos h0 h.pos, ?_⟩
 have hp := h.pos
 have hb := h.b1
 have hbo := h.bot
 by_cases ht : zU y
 ·have ht' := ht
  obtain ⟨⟨y1, y2⟩, y3, y4⟩ := ht'
  have hu := h.up.resolve_right (by omega)
  have hx : zU x := ⟨⟨h.pos, by omega⟩, h.b1.1, h.b1.2⟩
  left
  unfold grw
  rw [if_pos ht, if_pos hx]
  show (x.1 * (100 + r) + 99) / 100 ≤ (y.1 * (100 + r') + 99) / 100
  have : x.1 * (100 + r) ≤ y.1 * (100 + r') := Int.mul_le_mul hu (by omega) (by omega) (by omega)
  omega
 ·right
  unfold grw
  rw [if_neg ht]
  have : ¬ (y.1 ≤ 12) := fun hy => ht ⟨⟨by rcases h.up with h | h <;> omega, hy⟩, by omega, by omega⟩
  omega
theorem qgE {x : Int × Int} (hb : 1 ≤ x.2 ∧ x.2 ≤ 4) (hp : 0 ≤ x.1) : UpX x x := ⟨rfl, hb, hp, .inl (Int.le_refl _)⟩
theorem UpX.trans {x y z : Int × Int} (h : UpX x y) (k : UpX y z) : UpX x z := ⟨k.bot.trans h.bot, h.b1, h.pos, by
 rcases k.up with a | a
 ·rcases h.up with b | b
  ·left; omega
  ·right; omega
 ·right; exact a⟩
theorem up_grw {r : Int} {x : Int × Int} (h0 : 0 ≤ r) (hb : 1 ≤ x.2 ∧ x.2 ≤ 4) (hp : 0 ≤ x.1) : UpX x (grw r x) := by
 refine ⟨Jm r x, hb, hp, .inl ?_⟩
 unfold grw
 split
 ·show x.1 ≤ (x.1 * (100 + r) + 99) / 100
  have := Int.mul_nonneg hp h0
  rw [Int.mul_add]
  omega
 ·exact Int.le_refl _
theorem qcf {r : Int} {x : Int × Int} (h0 : 0 ≤ r) (hb : 1 ≤ x.2 ∧ x.2 ≤ 4) (hp : 0 ≤ x.1) : ∀ n, UpX (qeY r n x) (qeY r n x)
 | 0 => qgE hb hp
 | n + 1 => (qcf h0 hb hp n).grow h0 (Int.le_refl _)
theorem qgC {r : Int} {x : Int × Int} (h0 : 0 ≤ r) (hb : 1 ≤ x.2 ∧ x.2 ≤ 4) (hp : 0 ≤ x.1) (n : Nat) : ∀ m, UpX (qeY r n x) (qeY r (n + m) x)
 | 0 => qcf h0 hb hp n
 | m + 1 => by
   have h := qcf h0 hb hp (n + m)
   exact (qgC h0 hb hp n m).trans (up_grw h0 h.b1 h.pos)
theorem qgD {r r' : Int} {x : Int × Int} (h0 : 0 ≤ r) (hr : r ≤ r') (hb : 1 ≤ x.2 ∧ x.2 ≤ 4) (hp : 0 ≤ x.1) : ∀ n, UpX (qeY r n x) (qeY r' n x)
 | 0 => qgE hb hp
 | n + 1 => (qgD h0 hr hb hp n).grow h0 hr
def Zn (B : Bk) (n : Nat) (g : Grp) : Bool := g.traffic.any fun x => badX B.lim g.trunks.toNat (qeY B.growth n x)
theorem Qs (B : Bk) (n : Nat) (g : Grp) : zQ (qo B n) (yrG B.growth n g) = Zn B n g := by
 rw [qdZ, (zq B n).1]
 simp only [yrG, List.any_map]
 rfl
theorem qer {B : Bk} (hV : Valid B) {g : Grp} (hg : g ∈ B.gs) {n m : Nat} (hm : n ≤ m) (h : Zn B n g = true) : Zn B m g = true := by
 have hG := hV.grp g hg
 have t7 := hG.tr7
 have l1 := hV.num.1.1
 unfold Zn at *
 rw [List.any_eq_true] at h ⊢
 obtain ⟨x, hx, hb⟩ := h
 have ht := hG.traf x hx
 have hu := qgC (r := B.growth) hV.num.2.1.1 ht.2 ht.1.1 n (m - n)
 rw [show n + (m - n) = m by omega] at hu
 exact ⟨x, hx, hu.bad (by omega) (by omega) hb⟩
theorem qes {B : Bk} (hV : Valid B) {g : Grp} (hg : g ∈ B.gs) {n : Nat} {r : Int} (hr : B.growth ≤ r) (h : Zn B n g = true) : Zn { B with growth := r } n g = true := by
 have hG := hV.grp g hg
 have t7 := hG.tr7
 have l1 := hV.num.1.1
 unfold Zn at *
 rw [List.any_eq_true] at h ⊢
 obtain ⟨x, hx, hb⟩ := h
 have ht := hG.traf x hx
 exact ⟨x, hx, (qgD hV.num.2.1.1 hr ht.2 ht.1.1 n).bad (by show 0 < B.lim.2; omega) (by omega) hb⟩
theorem ZM {B : Bk} : ∀ {l : List Grp} {i k : Nat}, qZ B i l = some k → ∃ j g, k = i + j ∧ l[j]? = some g ∧ zQ B g = true ∧ ∀ (j' : Nat) g', j' < j → l[j']? = some g' → zQ B g' = false
 | [], _, _, h => by cases h
 | g :: l, i, k, h => by
   unfold qZ at h
   cases hy : zQ B g with
   | true =>
     rw [hy, if_pos rfl] at h
     cases h
     exact ⟨0, g, rfl, rfl, hy, fun j' _ hj => absurd hj (Nat.not_lt_zero _)⟩
   | false =>
     rw [hy, if_neg (by decide)] at h
     obtain ⟨j, g', e, hg, hb, hall⟩ := ZM h
     refine ⟨j + 1, g', by omega, by simpa using hg, hb, fun j' g2 hj hg2 => ?_⟩
     cases j' with
     | zero => simp at hg2; subst hg2; exact hy
     | succ j' => exact hall j' g2 (by omega) (by simpa using hg2)
theorem ZL {B : Bk} : ∀ {l : List Grp} {i : Nat}, qZ B i l = none → ∀ g ∈ l, zQ B g = false
 | [], _, _, g, hg => by cases hg
 | x :: l, i, h, g, hg => by
   unfold qZ at h
   cases hy : zQ B x with
   | true => rw [hy, if_pos rfl] at h; cases h
   | false =>
     rw [hy, if_neg (by decide)] at h
     rcases List.mem_cons.1 hg with rfl | hg
     ·exact hy
     ·exact ZL h g hg
theorem Zh {B : Bk} : ∀ {f y0 y k : Nat}, qB B f y0 = some (y, k) → y0 ≤ y ∧ y < y0 + f ∧ qZ (qo B y) 0 (qo B y).gs = some k ∧ ∀ n, y0 ≤ n → n < y → qZ (qo B n) 0 (qo B n).gs = none
 | 0, _, _, _, h => by cases h
 | f + 1, y0, y, k, h => by
   unfold qB at h
   cases hb : qZ (qo B y0) 0 (qo B y0).gs with
   | some i =>
     rw [hb] at h
     cases h
     exact ⟨Nat.le_refl _, by omega, hb, fun n h1 h2 => by omega⟩
   | none =>
     rw [hb] at h
     obtain ⟨a, b, c, d⟩ := Zh h
     refine ⟨by omega, by omega, c, fun n h1 h2 => ?_⟩
     by_cases e : n = y0
     ·subst e; exact hb
     ·exact d n (by omega) h2
theorem Zg {B : Bk} : ∀ {f y0 : Nat}, qB B f y0 = none → ∀ n, y0 ≤ n → n < y0 + f → qZ (qo B n) 0 (qo B n).gs = none
 | 0, _, _, n, h1, h2 => by omega
 | f + 1, y0, h, n, h1, h2 => by
   unfold qB at h
   cases hb : qZ (qo B y0) 0 (qo B y0).gs with
   | some i => rw [hb] at h; cases h
   | none =>
     rw [hb] at h
     by_cases e : n = y0
     ·subst e; exact hb
     ·exact Zg h n (by omega) (by omega)
theorem qcM {B : Bk} {n : Nat} (h : qZ (qo B n) 0 (qo B n).gs = none) : ∀ g ∈ B.gs, Zn B n g = false := fun g hg => by
 have := ZL h (yrG B.growth n g) (by rw [zW]; exact List.mem_map_of_mem hg)
 rwa [Qs] at this
theorem Qc {B : Bk} (h : qB B 7 0 = none) : ∀ n, n ≤ 6 → ∀ g ∈ B.gs, Zn B n g = false := fun n hn => qcM (Zg h n (Nat.zero_le _) (by omega))
theorem zZ {B : Bk} {y k : Nat} (h : qB B 7 0 = some (y, k)) : y ≤ 6 ∧ (∃ g, B.gs[k]? = some g ∧ Zn B y g = true) ∧ (∀ (i : Nat) g, i < k → B.gs[i]? = some g → Zn B y g = false) ∧ ∀ n, n < y → ∀ g ∈ B.gs, Zn B n g = false := by
 obtain ⟨_, a, b, c⟩ := Zh h
 obtain ⟨j, g, e, hg, hb, hall⟩ := ZM b
 obtain rfl : k = j := by omega
 rw [zW, List.getElem?_map] at hg
 obtain ⟨g0, hg0, rfl⟩ := Option.map_eq_some_iff.1 hg
 rw [Qs] at hb
 refine ⟨by omega, ⟨g0, hg0, hb⟩, fun i g' hi hg' => ?_, fun n hn => qcM (c n (Nat.zero_le _) hn)⟩
 have := hall i (yrG B.growth y g') hi (by rw [zW, List.getElem?_map, hg']; rfl)
 rwa [Qs] at this
theorem qci {B : Bk} (hV : Valid B) {y k : Nat} (h : qB B 7 0 = some (y, k)) {r : Int} (hr : B.growth ≤ r) : ∃ z i, qB { B with growth := r } 7 0 = some (z, i) ∧ z ≤ y := by
 obtain ⟨a, ⟨g, hg, hb⟩, _, _⟩ := zZ h
 have hm := List.mem_of_getElem? hg
 have hb' := qes hV hm hr hb
 cases h2 : qB { B with growth := r } 7 0 with
 | none => rw [Qc h2 y a g hm] at hb'; cases hb'
 | some p =>
   obtain ⟨z, i⟩ := p
   refine ⟨z, i, rfl, ?_⟩
   obtain ⟨_, _, _, d⟩ := zZ h2
   by_cases e : z ≤ y
   ·exact e
   ·rw [d y (by omega) g hm] at hb'; cases hb'
theorem Qw {f : Nat → Grp → Int} {p : Grp → Prop} : ∀ (l : List Grp) (i : Nat), (∀ (j : Nat) g, l[j]? = some g → f (i + j) g = 0 ∨ f (i + j) g = 1 ∧ p g) → qJ f i l = 0 ∨ qJ f i l = 1 ∧ ∃ g ∈ l, p g
 | [], _, _ => .inl rfl
 | g :: l, i, h => by
   unfold qJ
   rcases h 0 g rfl with e | ⟨e, hp⟩
   ·rw [Nat.add_zero] at e
    rw [if_neg (by simp [e])]
    rcases Qw l (i + 1) (fun j x hx => by have := h (j + 1) x (by simpa using hx); rwa [show i + (j + 1) = i + 1 + j by omega] at this) with a | ⟨a, x, hx, hp⟩
    ·exact .inl a
    ·exact .inr ⟨a, x, List.mem_cons_of_mem _ hx, hp⟩
   ·rw [Nat.add_zero] at e
    rw [if_pos (by simp [e])]
    exact .inr ⟨e, g, List.mem_cons_self, hp⟩
theorem yr_any (r : Int) (n i : Nat) (gs : List Grp) (g : Grp) : (((gs.map (yrG r n)).take i).any fun o => o.name.toList == g.name.toList) = ((gs.take i).any fun o => o.name.toList == g.name.toList) := by
 rw [← List.map_take, List.any_map]
 rfl
theorem qbm {B : Bk} (hc : checkN B = 0) (n : Nat) : checkN (qo B n) = 0 ∨ checkN (qo B n) = 1 ∧ ∃ g ∈ B.gs, Zn B n g = true := by
 have hV := qp hc
 have hnum : zg (qo B n) = 0 := by
  obtain ⟨a, b, c, _⟩ := zq B n
  have hN : Yt (qo B n) := by
   unfold Yt
   rw [a, b, c]
   exact hV.num
  exact if_pos hN
 have hg0 : ∀ (i : Nat) (g : Grp), B.gs[i]? = some g → qR B.gs B.hours (0 + i) g = 0 := by
  unfold checkN at hc
  rw [show zg B = 0 from if_pos hV.num, if_pos rfl] at hc
  unfold zT at hc
  rw [if_pos ⟨hV.len1, hV.len4⟩] at hc
  exact fun i g hg => ym hc i g hg
 unfold checkN
 rw [hnum, if_pos rfl]
 unfold zT
 rw [yg, if_pos ⟨hV.len1, hV.len4⟩, (zq B n).2.2.1, zW]
 have := Qw (f := qR (B.gs.map (yrG B.growth n)) B.hours) (p := fun g => ∃ g0 ∈ B.gs, Zn B n g0 = true) (B.gs.map (yrG B.growth n)) 0 (fun j g hg => by
  rw [List.getElem?_map] at hg
  obtain ⟨g0, hg0', rfl⟩ := Option.map_eq_some_iff.1 hg
  obtain ⟨hG, hN⟩ := yT (hg0 j g0 hg0')
  unfold qR
  rw [yr_any]
  rw [if_neg (show ¬ xZ (yrG B.growth n g0).name = false by show ¬ xZ g0.name = false; rw [hG.name]; decide), if_neg (show ¬ ((B.gs.take (0 + j)).any fun o => o.name.toList == (yrG B.growth n g0).name.toList) = true by show ¬ ((B.gs.take (0 + j)).any fun o => o.name.toList == g0.name.toList) = true; rw [hN]; decide),
   if_neg (show ¬ btw (yrG B.growth n g0).trunks 0 7 = false by show ¬ btw g0.trunks 0 7 = false; rw [xm.2 ⟨hG.tr0, hG.tr7⟩]; decide), if_neg (show ¬ ((yrG B.growth n g0).traffic.length : Int) ≠ B.hours by show ¬ (((g0.traffic.map (qeY B.growth n)).length : Nat) : Int) ≠ B.hours; rw [List.length_map]; exact fun h => h hG.len)]
  cases ha : ((yrG B.growth n g0).traffic.any fun x => !decide (zU x)) with
  | false => left; rfl
  | true =>
    right
    refine ⟨rfl, g0, List.mem_of_getElem? hg0', ?_⟩
    unfold Zn
    rw [List.any_eq_true]
    unfold yrG at ha
    rw [List.any_map, List.any_eq_true] at ha
    obtain ⟨x, hx, hb⟩ := ha
    refine ⟨x, hx, ?_⟩
    unfold badX
    simp only [Function.comp] at hb
    rw [hb]
    rfl)
 rcases this with h | ⟨h, _, _, h2⟩
 ·exact .inl h
 ·exact .inr ⟨h, h2⟩
theorem QC {B : Bk} (hc : checkN B = 0) : ∀ (i : Nat) (g : Grp), B.gs[i]? = some g → qR B.gs B.hours i g = 0 := by
 have hV := qp hc
 unfold checkN at hc
 rw [show zg B = 0 from if_pos hV.num, if_pos rfl] at hc
 unfold zT at hc
 rw [if_pos ⟨hV.len1, hV.len4⟩] at hc
 intro i g hg
 have := ym hc i g hg
 rwa [Nat.zero_add] at this
theorem qbx {gs : List Grp} {hours : Int} {i : Nat} {g : Grp} (hG : GoodGrp hours g) (hN : ((gs.take i).any fun o => o.name.toList == g.name.toList) = false) : qR gs hours i g = 0 := by
 unfold qR
 have ha : (g.traffic.any fun x => !decide (zU x)) = false := by
  rw [List.any_eq_false]
  intro x hx
  simp [hG.traf x hx]
 rw [if_neg (by rw [hG.name]; decide), if_neg (by rw [hN]; decide), if_neg (by rw [xm.2 ⟨hG.tr0, hG.tr7⟩]; decide), if_neg (fun h => h hG.len), if_neg (by rw [ha]; decide)]
theorem QW {f : Nat → Grp → Int} : ∀ (l : List Grp) (k : Nat), (∀ (i : Nat) (g : Grp), l[i]? = some g → f (k + i) g = 0) → qJ f k l = 0
 | [], _, _ => rfl
 | x :: l, k, h => by
   unfold qJ
   rw [if_neg (by have := h 0 x rfl; rw [Nat.add_zero] at this; simp [this])]
   exact QW l (k + 1) fun i g hg => by have := h (i + 1) g (by simpa using hg); rwa [show k + (i + 1) = k + 1 + i by omega] at this
theorem qcs {B : Bk} (hn : Yt B) (h1 : 1 ≤ B.gs.length) (h4 : B.gs.length ≤ 4) (h : ∀ (i : Nat) (g : Grp), B.gs[i]? = some g → qR B.gs B.hours i g = 0) : checkN B = 0 := by
 unfold checkN
 rw [show zg B = 0 from if_pos hn, if_pos rfl]
 unfold zT
 rw [if_pos ⟨h1, h4⟩]
 exact QW _ _ fun i g hg => by rw [Nat.zero_add]; exact h i g hg
def xw (g : Grp) (j k : Nat) : Int × Int := if j < k then (match g.traffic[j]? with | some x => qN (low x.1 x.2) g.trunks.toNat | none => (0, 0)) else (0, 0)
theorem qgk (w : World) : (isAgg 92).run qf w = .ok true w := (zF _ _).trans (Tryz.isAgg92 w)
theorem qdS (w : World) : (Go.sizeOf 92).run qf w = .ok 6 w := (yl _ _).trans (Tryz.sizeOf92 w)
theorem qbz {g : Grp} {j k : Nat} (h : j ≠ k) : xw g j (k + 1) = xw g j k := by
 unfold xw
 by_cases a : j < k
 ·rw [if_pos a, if_pos (by omega)]
 ·rw [if_neg a, if_neg (by omega)]
theorem qds {g : Grp} {k : Nat} {x : Int × Int} (h : g.traffic[k]? = some x) : xw g k (k + 1) = qN (low x.1 x.2) g.trunks.toNat := by
 unfold xw; rw [if_pos (by omega), h]
theorem qfa {g : Grp} {j : Nat} (h : g.traffic.length ≤ 3) : xw g j 3 = xw g j g.traffic.length := by
 unfold xw
 by_cases a : j < g.traffic.length
 ·rw [if_pos a, if_pos (by omega)]
 ·rw [if_neg a, List.getElem?_eq_none (by omega)]; split <;> rfl
def hv (f : Nat → Int × Int) : Value := .agg #[.int .i64 (f 0).1, .int .i64 (f 0).2, .int .i64 (f 1).1, .int .i64 (f 1).2, .int .i64 (f 2).1, .int .i64 (f 2).2]
def Xl (W : World) (ab : Nat) (f : Nat → Int × Int) : Prop := ∀ j, j < 3 → W.cell? ⟨ab, j * 2, none⟩ = some (.int .i64 (f j).1) ∧ W.cell? ⟨ab, j * 2 + 1, none⟩ = some (.int .i64 (f j).2) ∧ W.frozen? ⟨ab, j * 2, none⟩ = false ∧ W.frozen? ⟨ab, j * 2 + 1, none⟩ = false
theorem Xl.keep {W w1 : World} {ab : Nat} {f : Nat → Int × Int} (h : Xl W ab f) (hB : Below W.heap.size W w1) : Xl w1 ab f := fun j hj =>
 let ⟨a, b, c, d⟩ := h j hj
 ⟨qb _ hB a, qb _ hB b, qg _ hB a c, qg _ hB b d⟩
theorem Xl.set {W : World} {ab k : Nat} {f g : Nat → Int × Int} (h : Xl W ab f) (hk : k < 3) (hg : ∀ j, j ≠ k → g j = f j) :
 Xl ((W.setCell ⟨ab, k * 2, none⟩ (.int .i64 (g k).1)).setCell ⟨ab, k * 2 + 1, none⟩ (.int .i64 (g k).2)) ab g := fun j hj => by
 obtain ⟨a, b, c, d⟩ := h j hj
 refine ⟨?_, ?_, by simpa using c, by simpa using d⟩
 ·by_cases e : j = k
  ·subst e; exact qc (by simp) (qW (qy a))
  ·rw [hg j e]; exact qc (by simp <;> omega) (qc (by simp <;> omega) a)
 ·by_cases e : j = k
  ·subst e; exact qW (qA (qy b))
  ·rw [hg j e]; exact qc (by simp <;> omega) (qc (by simp <;> omega) b)
structure But2 (W0 : World) (ab k : Nat) (W : World) : Prop where
 size : W0.heap.size ≤ W.heap.size
 cell : ∀ p v, W0.cell? p = some v → p ≠ ⟨ab, k * 2, none⟩ → p ≠ ⟨ab, k * 2 + 1, none⟩ → W.cell? p = some v
 fz : ∀ p v, W0.cell? p = some v → W0.frozen? p = false → W.frozen? p = false
 there : ∀ p v, W0.cell? p = some v → (W.cell? p).isSome = true
theorem But2.refl (W0 : World) (ab k : Nat) : But2 W0 ab k W0 := ⟨Nat.le_refl _, fun _ _ h _ _ => h, fun _ _ _ h => h, fun _ _ h => qy h⟩
theorem But2.call {W0 W w1 : World} {ab k : Nat} (h : But2 W0 ab k W) (hB : Below W.heap.size W w1) : But2 W0 ab k w1 :=
 ⟨Nat.le_trans h.size hB.size, fun p v a b c => qb _ hB (h.cell p v a b c), fun p v a b => by
   obtain ⟨u, hu⟩ := Option.isSome_iff_exists.1 (h.there p v a)
   exact qg _ hB hu (h.fz p v a b), fun p v a => by
   obtain ⟨u, hu⟩ := Option.isSome_iff_exists.1 (h.there p v a)
   exact qy (qb _ hB hu)⟩
theorem But2.put {W0 W : World} {ab k : Nat} (u v : Value) (h : But2 W0 ab k W) : But2 W0 ab k ((W.setCell ⟨ab, k * 2, none⟩ u).setCell ⟨ab, k * 2 + 1, none⟩ v) :=
 ⟨by simpa using h.size, fun p x a b c => qc (Ne.symm c) (qc (Ne.symm b) (h.cell p x a b c)), fun p x a b => by simpa using h.fz p x a b, fun p x a => qA (qA (h.there p x a))⟩
abbrev QO (w W0 : World) (hb xb ab T : Nat) (x : Int × Int) (k : Nat) (W : World) : Prop :=
 W.cell? ⟨xb, 0, none⟩ = some (.int .i64 x.1) ∧ W.cell? ⟨xb, 1, none⟩ = some (.int .i64 x.2) ∧ W.cell? ⟨hb, 1, none⟩ = some (.int .i64 T) ∧ W.cell? ⟨ab, k * 2, none⟩ = some (atD W ⟨ab, k * 2, none⟩) ∧ W.cell? ⟨ab, k * 2 + 1, none⟩ = some (atD W ⟨ab, k * 2 + 1, none⟩) ∧
  W.frozen? ⟨ab, k * 2, none⟩ = false ∧ W.frozen? ⟨ab, k * 2 + 1, none⟩ = false ∧ Below w.heap.size w W ∧ But2 W0 ab k W
theorem QO.call {w W0 W w1 : World} {hb xb ab T : Nat} {x : Int × Int} {k : Nat} (h : QO w W0 hb xb ab T x k W) (hB : Below W.heap.size W w1) : QO w W0 hb xb ab T x k w1 := by
 obtain ⟨a, b, c, d, e, f, g, i, j⟩ := h
 exact ⟨qb _ hB a, qb _ hB b, qb _ hB c, qQ (qy (qb _ hB d)), qQ (qy (qb _ hB e)), qg _ hB d f, qg _ hB e g, Below.call i hB (Nat.le_refl _), j.call hB⟩
theorem QO.put {w W0 W : World} {hb xb ab T : Nat} {x : Int × Int} {k : Nat} (u v : Value) (h : QO w W0 hb xb ab T x k W) (h1 : ab ≠ xb) (h2 : ab ≠ hb) (h3 : w.heap.size ≤ ab) : QO w W0 hb xb ab T x k ((W.setCell ⟨ab, k * 2, none⟩ u).setCell ⟨ab, k * 2 + 1, none⟩ v) := by
 obtain ⟨a, b, c, d, e, f, g, i, j⟩ := h
 have n1 : ∀ p q, (⟨ab, p, none⟩ : Addr) ≠ ⟨xb, q, none⟩ := fun p q h => h1 (congrArg Addr.block h)
 have n2 : ∀ p q, (⟨ab, p, none⟩ : Addr) ≠ ⟨hb, q, none⟩ := fun p q h => h2 (congrArg Addr.block h)
 exact ⟨qc (n1 _ _) (qc (n1 _ _) a), qc (n1 _ _) (qc (n1 _ _) b), qc (n2 _ _) (qc (n2 _ _) c), qQ (qA (qA (qy d))), qQ (qA (qA (qy e))), by simpa using f, by simpa using g, (i.setCell h3 _).setCell h3 _, j.put u v⟩
set_option maxHeartbeats 4000000 in
set_option maxRecDepth 100000 in
theorem qfb (B : Bk) (i : Nat) (g : Grp) (hg : B.gs[i]? = some g) (w : World) (h : BookAt w B) (hG : GoodGrp B.hours g) (hh : B.hours ≤ 3) :
 Calls qf 47 #[bv B, .int .i64 i] w fun e w' => e = .returned (hv fun j => xw g j 3) ∧ Below w.heap.size w w' := by
 obtain ⟨hi, rfl⟩ := List.getElem?_eq_some_iff.1 hg
 obtain ⟨b, o, hga, hc⟩ := h.row (by omega)
 obtain ⟨c0, c1, c2⟩ := hc i _ hg
 have hlen := hG.len
 generalize hgg : B.gs[i] = g at *
 have hm : g ∈ B.gs := List.mem_of_getElem? hg
 have HF := Lib.hid (h.traf g hm)
 have HT := Lib.hid hG.traf
 obtain ⟨T, hT⟩ := Int.eq_ofNat_of_zero_le hG.tr0
 have hT7 : T ≤ 7 := by have := hG.tr7; omega
 rw [hT] at c1
 have HTT := Lib.hid hT
 obtain ⟨lim, gr, hr, gs, ga, gc⟩ := B
 simp only at hga hlen hh hi
 subst hga
 simp only [bv]
 have hlb : b < w.heap.size := lt_of_cell c0
 have hlb2 : b < w.heap.size + 1 := by omega
 have hlb3 : b < w.heap.size + 1 + 1 := by omega
 have hl3 : g.traffic.length ≤ 3 := by omega
 have HO := Lib.hid fun (j k : Nat) (h : j ≠ k) => qbz (g := g) h
 have HH := Lib.hid fun (k : Nat) (x : Int × Int) (h : g.traffic[k]? = some x) => qds h
 have HE := Lib.hid fun (j : Nat) => qfa (g := g) (j := j) hl3
 have HZ : Hid (∀ j, xw g j 0 = (0, 0)) := Lib.hid fun j => by simp [xw]
 rw [hT] at HH
 obtain ⟨N, hN⟩ : ∃ N, N = xw g := ⟨_, rfl⟩
 simp only [← hN] at HO HH HE HZ ⊢
 clear hN hT hG hc hg hgg hm h
 go_enter s47, ntmps47
 go_wp2
 obtain ⟨W, hW⟩ : ∃ W, (((w.alloc (Obj.cells #[.int .i64 lim.1, .int .i64 lim.2, .int .i64 gr, .int .i64 hr, .slice (some ⟨b, o, none⟩) gs.length gc] 66)).alloc (Obj.cells #[.int .i64 0, .int .i64 0, .int .i64 0, .int .i64 0, .int .i64 0, .int .i64 0] 92)).alloc (Obj.cells #[.int .i64 0, .int .i64 0, .int .i64 0, .int .i64 0, .int .i64 0, .int .i64 0] 92)).alloc (Obj.cells #[.string g.name, .int .i64 T, .slice g.ta g.traffic.length g.tc] 43) = W := ⟨_, rfl⟩
 have hRes : Xl W (w.heap.size + 1) (fun _ => (0, 0)) := fun j hj => by
  subst hW
  rcases (show j = 0 ∨ j = 1 ∨ j = 2 by omega) with rfl | rfl | rfl
  ·exact ⟨by go_cell, by go_cell, by go_cell, by go_cell⟩
  ·exact ⟨by go_cell, by go_cell, by go_cell, by go_cell⟩
  ·exact ⟨by go_cell, by go_cell, by go_cell, by go_cell⟩
 have t1 : W.cell? ⟨w.heap.size + 1 + 1 + 1, 1, none⟩ = some (.int .i64 T) := by subst hW; go_cell
 have hArr : Xl W (w.heap.size + 1 + 1) (fun j => N j 0) := fun j hj => by
  simp only [HZ.out]
  subst hW
  rcases (show j = 0 ∨ j = 1 ∨ j = 2 by omega) with rfl | rfl | rfl
  ·exact ⟨by go_cell, by go_cell, by go_cell, by go_cell⟩
  ·exact ⟨by go_cell, by go_cell, by go_cell, by go_cell⟩
  ·exact ⟨by go_cell, by go_cell, by go_cell, by go_cell⟩
 have hBW : Below w.heap.size w W := by subst hW; go_grown
 have hsW : W.heap.size = w.heap.size + 4 := by subst hW; simp
 rw [hW]
 clear hW
 go_loopw [18] (fun i wr => ∃ k : Nat, i = .int .i64 k ∧ k ≤ g.traffic.length ∧ Below w.heap.size w wr ∧ w.heap.size + 4 ≤ wr.heap.size ∧ wr.cell? ⟨w.heap.size + 1 + 1 + 1, 1, none⟩ = some (.int .i64 T) ∧ Hid (Xl wr (w.heap.size + 1 + 1) (fun j => N j k)) ∧ Hid (Xl wr (w.heap.size + 1) (fun _ => (0, 0)))) (fun i _ => g.traffic.length - (intOf i).toNat)
 case atStart => exact ⟨0, rfl, by omega, hBW, by omega, t1, Lib.hid hArr, Lib.hid hRes⟩
 case round =>
  clear t1 hArr hRes hBW hsW
  obtain ⟨k, rfl, hk, hBr, hsz, t1, HArr, HRes⟩ := hrel
  have s1 : w.heap.size + 1 < wr.heap.size := by omega
  have s2 : w.heap.size + 1 + 1 < wr.heap.size := by omega
  have s3 : w.heap.size + 1 + 1 + 1 < wr.heap.size := by omega
  by_cases hlt : k < g.traffic.length
  ·obtain ⟨x, hx⟩ : ∃ x, g.traffic[k]? = some x := ⟨g.traffic[k], by simp [hlt]⟩
   have hx2 := HT.out x (List.mem_of_getElem? hx)
   obtain ⟨tb, t0, hta, hpa⟩ := HF.out (by omega)
   have hta' := hta
   obtain ⟨e0, e1⟩ := hpa k x hx
   have e0 := qb _ hBr e0
   have e1 := qb _ hBr e1
   obtain ⟨a0, a1, a2, a3⟩ := HArr.out k (by omega)
   obtain ⟨k1, k2, k3, k4⟩ := xE hx2.1.1 hx2.1.2 hx2.2.1 hx2.2.2
   have hof := fun W => YR x W hx2.1.1 (by have := hx2.2.1; omega) (by have := hx2.1.2; omega) (by have := hx2.2.2; omega)
   have hlo := fun W => Qi T (low x.1 x.2) k1 k2 k3 k4 hT7 W
   have hth := HH.out k x hx
   rw [Int.toNat_natCast] at hth
   generalize qN (low x.1 x.2) T = r at *
   generalize low x.1 x.2 = y at *
   have HN := Lib.hid hth
   have hkk : (k : Int) < 3 := by omega
   have hk0 : (0 : Int) ≤ (k : Int) := Int.natCast_nonneg k
   simp only [fv] at hof hlo
   rw [hta]
   clear hth hx hx2 hpa k1 k2 k3 k4 hta
   have hX : QO w (wr.alloc (.cells #[.int .i64 x.1, .int .i64 x.2] 23)).drew (w.heap.size + 1 + 1 + 1) wr.heap.size (w.heap.size + 1 + 1) T x k (wr.alloc (.cells #[.int .i64 x.1, .int .i64 x.2] 23)).drew :=
    ⟨by go_cell, by go_cell, qi t1, qQ (qy (qi a0)), qQ (qy (qi a1)), qm a0 a2, qm a1 a3, (hBr.alloc (by omega) _).drew, .refl _ _ _⟩
   go_wp2
   go_region_held3 (fun w' => w'.cell? ⟨wr.heap.size, 0, none⟩ = some (.int .i64 x.1) ∧ w'.cell? ⟨wr.heap.size, 1, none⟩ = some (.int .i64 x.2) ∧ w'.cell? ⟨w.heap.size + 1 + 1 + 1, 1, none⟩ = some (.int .i64 T) ∧ w'.cell? ⟨w.heap.size + 1 + 1, k * 2, none⟩ = some (atD w' ⟨w.heap.size + 1 + 1, k * 2, none⟩) ∧ w'.cell? ⟨w.heap.size + 1 + 1, k * 2 + 1, none⟩ = some (atD w' ⟨w.heap.size + 1 + 1, k * 2 + 1, none⟩) ∧ w'.frozen? ⟨w.heap.size + 1 + 1, k * 2, none⟩ = false ∧ w'.frozen? ⟨w.heap.size + 1 + 1, k * 2 + 1, none⟩ = false ∧ Below w.heap.size w w' ∧ But2 (wr.alloc (.cells #[.int .i64 x.1, .int .i64 x.2] 23)).drew (w.heap.size + 1 + 1) k w')
    (first | exact hX | ((with_reducible refine QO.call ?_ hB); assumption) | ((with_reducible refine QO.put _ _ ?_ ?_ ?_ ?_); assumption; omega; omega; omega))
    (first | (go_at_call 68; refine (hof _).mono ?_; rintro e w1 ⟨rfl, hB⟩) | (go_at_call 57; refine (hlo _).mono ?_; rintro e w1 ⟨rfl, hB⟩))
   rename_i hH
   obtain ⟨_, _, _, q0, q1, q2, q3, q4, q5⟩ := hH
   go_wp2
   go_roundw
   case rel =>
    have hcells : ∀ p v, wr.cell? p = some v → p ≠ ⟨w.heap.size + 1 + 1, k * 2, none⟩ → p ≠ ⟨w.heap.size + 1 + 1, k * 2 + 1, none⟩ → _ := fun p v hp h1 h2 => q5.cell p v (qi hp) h1 h2
    refine ⟨k + 1, rfl, by omega, q4, ?_, hcells _ _ t1 (by simp) (by simp), Lib.hid fun j hj => ?_, Lib.hid fun j hj => ?_⟩
    ·have := q5.size; simp at this ⊢; omega
    ·obtain ⟨b0, b1, b2, b3⟩ := HArr.out j hj
     by_cases e : j = k
     ·subst e
      simp only [HN.out]
      refine ⟨qc (by simp) (qW (zf (zf (qy q0)))), qW (zf (qy q1)), q2, q3⟩
     ·simp only [HO.out j k e]
      exact ⟨hcells _ _ b0 (by simp <;> omega) (by simp <;> omega), hcells _ _ b1 (by simp <;> omega) (by simp <;> omega), q5.fz _ _ (qi b0) (qm b0 b2), q5.fz _ _ (qi b1) (qm b1 b3)⟩
    ·obtain ⟨b0, b1, b2, b3⟩ := HRes.out j hj
     exact ⟨hcells _ _ b0 (by simp) (by simp), hcells _ _ b1 (by simp) (by simp), q5.fz _ _ (qi b0) (qm b0 b2), q5.fz _ _ (qi b1) (qm b1 b3)⟩
   case measure => simp [intOf]; omega
  ·obtain rfl : k = g.traffic.length := by omega
   have e0 := (HArr.out 0 (by omega)).1
   have e1 := (HArr.out 0 (by omega)).2.1
   have e2 := (HArr.out 1 (by omega)).1
   have e3 := (HArr.out 1 (by omega)).2.1
   have e4 := (HArr.out 2 (by omega)).1
   have e5 := (HArr.out 2 (by omega)).2.1
   obtain ⟨r0, r1, f0, f1⟩ := HRes.out 0 (by omega)
   obtain ⟨r2, r3, f2, f3⟩ := HRes.out 1 (by omega)
   obtain ⟨r4, r5, f4, f5⟩ := HRes.out 2 (by omega)
   simp only [Nat.zero_mul, Nat.one_mul, Nat.reduceMul, Nat.reduceAdd, Nat.zero_add] at e0 e1 e2 e3 e4 e5 r0 r1 r2 r3 r4 r5 f0 f1 f2 f3 f4 f5
   have HR : Hid (hv (fun j => N j 3) = .agg #[.int .i64 (N 0 g.traffic.length).1, .int .i64 (N 0 g.traffic.length).2, .int .i64 (N 1 g.traffic.length).1, .int .i64 (N 1 g.traffic.length).2, .int .i64 (N 2 g.traffic.length).1, .int .i64 (N 2 g.traffic.length).2]) := Lib.hid (by simp only [hv, HE.out])
   go_wp2
   exact ret_c6 results47 qgk qdS rfl r0 r1 r2 r3 r4 r5 ⟨by rw [HR.out], Below.set6 hBr (Nat.le_succ _)⟩
end Go.Proofs.Tryz
