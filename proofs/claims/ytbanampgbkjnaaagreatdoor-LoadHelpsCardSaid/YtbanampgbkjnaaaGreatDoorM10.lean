/-
  A part of the proof (C41 C36 C37 C38): lemmas about the program and about the machine that the last text of this claim rests upon; no condition.
-/
import Derived.Test.YtbanampgbkjnaaaGreatDoorM04
import Derived.Test.YtbanampgbkjnaaaGreatDoorM06
import Derived.Test.YtbanampgbkjnaaaGreatDoorM07
import Derived.Test.YtbanampgbkjnaaaGreatDoorM09
set_option linter.unusedSimpArgs false
set_option linter.unusedVariables false
namespace Go.Proofs.Tryz
open Go Go.Load Go.RowKit
def xy (w : World) (v : Value) (L : List Int) : Prop := ∃ a c, v = .slice a L.length c ∧ (1 ≤ L.length → ∃ b, a = some ⟨b, 0, none⟩ ∧ ∀ i x, L[i]? = some x → w.cell? ⟨b, i, none⟩ = some (.int .i64 x))
theorem xy.keep {w w1 : World} {v : Value} {L : List Int} (h : xy w v L) (hB : Below w.heap.size w w1) : xy w1 v L := by
 obtain ⟨a, c, e, f⟩ := h
 exact ⟨a, c, e, fun hl => let ⟨b, e1, e2⟩ := f hl; ⟨b, e1, fun i x hx => qb _ hB (e2 i x hx)⟩⟩
def qbQ : List Int → List Int → Bool
 | [], [] => false
 | [], _ :: _ => true
 | _ :: _, [] => false
 | a :: A, b :: B => if a ≠ b then decide (a < b) else qbQ A B
theorem qao : ∀ A B : List Int, (!qbQ A B && !qbQ B A) = decide (A = B)
 | [], [] => rfl
 | [], _ :: _ => rfl
 | _ :: _, [] => rfl
 | a :: A, b :: B => by
   simp only [qbQ]
   by_cases e : a = b
   ·subst e
    simp only [ne_eq, not_true_eq_false, if_false, qao A B]
    simp
   ·have e' : b ≠ a := Ne.symm e
    simp only [ne_eq, e, e', not_false_eq_true, if_true]
    have h1 : (a :: A = b :: B) ↔ False := by simp [e]
    rw [decide_eq_false (by simp [e] : ¬ (a :: A = b :: B))]
    rcases Int.lt_or_gt_of_ne e with h | h
    ·rw [decide_eq_true h]; rfl
    ·rw [decide_eq_true (show b < a from h)]; simp
theorem qes {A B : List Int} {k : Nat} {a b : Int} (ha : A[k]? = some a) (hb : B[k]? = some b) : qbQ (A.drop k) (B.drop k) = if a ≠ b then decide (a < b) else qbQ (A.drop (k + 1)) (B.drop (k + 1)) := by
 obtain ⟨h1, rfl⟩ := List.getElem?_eq_some_iff.1 ha
 obtain ⟨h2, rfl⟩ := List.getElem?_eq_some_iff.1 hb
 rw [List.drop_eq_getElem_cons h1, List.drop_eq_getElem_cons h2]
 rfl
theorem lexN_end {A B : List Int} {k : Nat} (h : A.length ≤ k ∨ B.length ≤ k) (hk1 : k ≤ A.length) (hk2 : k ≤ B.length) : qbQ (A.drop k) (B.drop k) = decide (A.length < B.length) := by
 by_cases h1 : A.length ≤ k
 ·rw [List.drop_eq_nil_of_le h1]
  by_cases h2 : B.length ≤ k
  ·rw [List.drop_eq_nil_of_le h2, decide_eq_false (by omega)]; rfl
  ·rw [List.drop_eq_getElem_cons (show k < B.length by omega), decide_eq_true (by omega)]; rfl
 ·rw [List.drop_eq_getElem_cons (show k < A.length by omega), List.drop_eq_nil_of_le (show B.length ≤ k by omega), decide_eq_false (by omega)]; rfl
set_option maxHeartbeats 2000000 in
set_option maxRecDepth 100000 in
theorem Xc (va vb : Value) (A B : List Int) (w : World) (hA : xy w va A) (hB : xy w vb B) (h1 : A.length ≤ 100) (h2 : B.length ≤ 100) : Calls qf 101 #[va, vb] w fun e w' => e = .returned (.bool (qbQ A B)) ∧ Below w.heap.size w w' := by
 obtain ⟨aa, ca, rfl, ha⟩ := hA
 obtain ⟨ab, cb, rfl, hb⟩ := hB
 have HA := Lib.hid ha
 have HB := Lib.hid hb
 have HD := Lib.hid fun (k : Nat) (a b : Int) (ha : A[k]? = some a) (hb : B[k]? = some b) => qes ha hb
 have HE := Lib.hid fun (k : Nat) (h : A.length ≤ k ∨ B.length ≤ k) (hk1 : k ≤ A.length) (hk2 : k ≤ B.length) => lexN_end h hk1 hk2
 have H0 : Hid (qbQ A B = qbQ (A.drop 0) (B.drop 0)) := Lib.hid rfl
 clear ha hb
 go_enter s101, ntmps101
 go_wp2
 go_loopw [5] (fun i wr => ∃ k : Nat, i = .int .i64 k ∧ k ≤ A.length ∧ k ≤ B.length ∧ Below w.heap.size w wr ∧ Hid (qbQ A B = qbQ (A.drop k) (B.drop k))) (fun i _ => A.length - (intOf i).toNat)
 case atStart => exact ⟨0, rfl, by omega, by omega, .refl _ _, H0⟩
 case round =>
  obtain ⟨k, rfl, hk1, hk2, hBr, HL⟩ := hrel
  have hk0 : (0 : Int) ≤ (k : Int) := Int.natCast_nonneg k
  by_cases hlt : k < A.length ∧ k < B.length
  ·obtain ⟨l1, l2⟩ := hlt
   obtain ⟨a, ha⟩ : ∃ a, A[k]? = some a := ⟨A[k], by simp [l1]⟩
   obtain ⟨b, hb⟩ : ∃ b, B[k]? = some b := ⟨B[k], by simp [l2]⟩
   obtain ⟨ba, rfl, ra⟩ := HA.out (by omega)
   obtain ⟨bb, rfl, rb⟩ := HB.out (by omega)
   have c0 := qb _ hBr (ra k a ha)
   have c1 := qb _ hBr (rb k b hb)
   have hd := Lib.hid (HD.out k a b ha hb)
   have i1 : (k : Int) < (A.length : Int) := by omega
   have i2 : (k : Int) < (B.length : Int) := by omega
   clear ra rb ha hb
   by_cases e : a = b
   ·subst e
    go_wp2
    go_quiet (fail)
    go_wp2
    go_roundw
    case rel => exact ⟨k + 1, rfl, by omega, by omega, below_drewN hBr _, Lib.hid (HL.out.trans (by rw [hd.out, if_neg (by simp)]))⟩
    case measure => simp [intOf]; omega
   ·have hab : (a == b) = false := by simp [e]
    have hab' : (a != b) = true := by simp [e]
    have hL : Hid (qbQ A B = decide (a < b)) := Lib.hid (HL.out.trans (by rw [hd.out, if_pos e]))
    clear e
    go_wp2
    go_quiet (fail)
    go_wp2
    go_quiet (fail)
    go_wp2
    go_ret
    exact ⟨by rw [hL.out]; rfl, below_drewN (below_drewN hBr _) _⟩
  ·have hE := Lib.hid (HL.out.trans (HE.out k (by omega) hk1 hk2))
   by_cases l1 : k < A.length
   ·have i1 : (k : Int) < (A.length : Int) := by omega
    have i2 : ¬ (k : Int) < (B.length : Int) := by omega
    go_wp2
    go_ret
    refine ⟨?_, hBr⟩
    rw [hE.out]; simp
   ·have i1 : ¬ (k : Int) < (A.length : Int) := by omega
    go_wp2
    go_ret
    refine ⟨?_, hBr⟩
    rw [hE.out]; simp
set_option maxHeartbeats 1000000 in
theorem JR (va vb : Value) (A B : List Int) (w : World) (hA : xy w va A) (hB : xy w vb B) (h1 : A.length ≤ 100) (h2 : B.length ≤ 100) : Calls qf 72 #[va, vb] w fun e w' => e = .returned (.bool (decide (A = B))) ∧ Below w.heap.size w w' := by
 have hl1 := fun W (h : Below w.heap.size w W) => Xc va vb A B W (hA.keep h) (hB.keep h) h1 h2
 have hl2 := fun W (h : Below w.heap.size w W) => Xc vb va B A W (hB.keep h) (hA.keep h) h2 h1
 have hb := Lib.hid (qao A B)
 obtain ⟨aa, ca, rfl, _⟩ := hA
 obtain ⟨ab, cb, rfl, _⟩ := hB
 cases h3 : qbQ A B with
 | true =>
   simp only [h3] at hl1 hb
   go_enter s72, ntmps72
   go_wp2_with (go_at_call 101; refine (hl1 _ (by go_grown)).mono ?_; rintro e w1 ⟨rfl, hB1⟩)
   go_ret
   exact ⟨by rw [← hb.out]; rfl, hB1⟩
 | false =>
   simp only [h3] at hl1 hb
   go_enter s72, ntmps72
   go_wp2_with (first | (go_at_call 101; (with_reducible refine (hl1 _ (.refl _ _)).mono ?_); rintro e w1 ⟨rfl, hB1⟩) | (go_at_call 101; (with_reducible refine (hl2 _ (by assumption)).mono ?_); rintro e w2 ⟨rfl, hB2⟩))
   go_ret
   exact ⟨by rw [← hb.out]; rfl, Below.call hB1 hB2 (Nat.le_refl _)⟩
theorem XJ (va vb : Value) (A B : List Int) (w : World) (hA : xy w va A) (hB : xy w vb B) (h1 : A.length ≤ 100) (h2 : B.length ≤ 100) : Calls qf 29 #[va, vb] w fun e w' => e = .returned (.bool (decide (A = B))) ∧ Below w.heap.size w w' := by
 have hs := JR va vb A B w hA hB h1 h2
 obtain ⟨aa, ca, rfl, _⟩ := hA
 obtain ⟨ab, cb, rfl, _⟩ := hB
 go_enter s29, ntmps29
 go_wp2_with (go_at_call 72; refine hs.mono ?_; rintro e w1 ⟨rfl, hB1⟩)
 go_ret
 exact ⟨rfl, hB1⟩
theorem jl {base : Nat} {W : World} {v : Value} {L : List Int} (h : SliceOf base W v L) : xy W v L := by
 have hform : ∃ a c, v = .slice a L.length c := by
  obtain ⟨_, ⟨h1, h2⟩ | ⟨g, cap, cur, rfl, _⟩⟩ := h
  ·exact ⟨none, 0, by rw [h1]; simp_all⟩
  ·exact ⟨_, _, rfl⟩
 obtain ⟨a, c, rfl⟩ := hform
 refine ⟨a, c, rfl, fun hl => ?_⟩
 cases a with
 | none =>
   obtain ⟨_, ⟨h1, h2⟩ | ⟨g, cap, cur, e, _⟩⟩ := h
   ·exact absurd h2 (by omega)
   ·cases e
 | some ad =>
   obtain ⟨_, ⟨h1, h2⟩ | ⟨g, cap, cur, e, hb, hg, hn, _, hs, ht⟩⟩ := h
   ·cases h1
   ·obtain rfl : ad = ⟨g, 0, none⟩ := by injection e with e1; exact Option.some.inj e1
    refine ⟨g, rfl, fun i x hx => ?_⟩
    have hx' : (L.map (Value.int .i64))[i]? = some (.int .i64 x) := by rw [List.getElem?_map, hx]; rfl
    rw [← ht, List.getElem?_take] at hx'
    split at hx'
    ·have hu : cur[i]? = some (.int .i64 x) := by simpa using hx'
     unfold World.cell?; rw [hg]; simp [hu]
    ·cases hx'
end Go.Proofs.Tryz
section
namespace Go.Proofs.Tryz
open Go Go.Load Go.RowKit Go.Maps
def QA (l : List Grp) (b : Int) : List Grp := if b = -1 then l else match l[b.toNat]? with
 | some x => l.set b.toNat { x with trunks := x.trunks + 1 }
 | none => l
theorem jS : ∀ (l : List Grp) (k : Nat) (x : Grp) (t : Int), l[k]? = some x → qQ (l.set k { x with trunks := t }) = (qQ l).set (k * 3 + 1) (.int .i64 t)
 | [], k, x, t, h => by simp at h
 | y :: l, 0, x, t, h => by
   obtain rfl : y = x := by simpa using h
   rfl
 | y :: l, k + 1, x, t, h => by
   have ih := jS l k x t (by simpa using h)
   have e : (k + 1) * 3 + 1 = (k * 3 + 1) + 3 := by omega
   rw [e]
   show [Value.string y.name, .int .i64 y.trunks, .slice y.ta y.traffic.length y.tc] ++ qQ (l.set k _) = _
   rw [ih]
   rfl
theorem OwnAt.one {W W1 : World} {g m : Nat} {xs : List Value} (h : OwnAt W g xs) (k : W.grownBy W1 (some m)) (e : g ≠ m) : OwnAt W1 g xs := fun i u hu => ⟨qo k (h i u hu).1 e, qA k (h i u hu).1 (h i u hu).2 e⟩
theorem Five.one {W W1 : World} {b m : Nat} {v0 v1 v2 v3 v4 : Value} (h : Five W b v0 v1 v2 v3 v4) (k : W.grownBy W1 (some m)) (e : b ≠ m) : Five W1 b v0 v1 v2 v3 v4 := by
 obtain ⟨⟨a0, a1, a2, a3, a4⟩, ⟨f0, f1, f2, f3, f4⟩⟩ := h
 exact ⟨⟨qo k a0 e, qo k a1 e, qo k a2 e, qo k a3 e, qo k a4 e⟩, ⟨qA k a0 f0 e, qA k a1 f1 e, qA k a2 f2 e, qA k a3 f3 e, qA k a4 f4 e⟩⟩
theorem Five.at {W : World} {b c j : Nat} {v v0 v1 v2 v3 v4 : Value} (h : Five W b v0 v1 v2 v3 v4) (e : c ≠ b) : Five (W.setCell ⟨c, j, none⟩ v) b v0 v1 v2 v3 v4 := by
 obtain ⟨⟨a0, a1, a2, a3, a4⟩, ⟨f0, f1, f2, f3, f4⟩⟩ := h
 have n : ∀ q, (⟨c, j, none⟩ : Addr) ≠ ⟨b, q, none⟩ := fun q h => e (congrArg Addr.block h)
 exact ⟨⟨qc (n _) a0, qc (n _) a1, qc (n _) a2, qc (n _) a3, qc (n _) a4⟩, by simpa using f0, by simpa using f1, by simpa using f2, by simpa using f3, by simpa using f4⟩
theorem OwnGs.one {base g k m : Nat} {W W1 : World} {l : List Grp} {tb : Nat → Nat} (h : OwnGs base W g l k tb) (hk : W.grownBy W1 (some m)) (e : g ≠ m) (et : ∀ i, i < k → tb i ≠ m) : OwnGs base W1 g l k tb :=
 ⟨h.lo, Nat.lt_of_lt_of_le h.hi hk.size, h.row.one hk e, fun i x hi hx => let ⟨a, b, c, d, o, f⟩ := h.ta i x hi hx; ⟨a, b, Nat.lt_of_lt_of_le c hk.size, d, o.one hk (et i hi), f⟩, h.apart⟩
theorem OwnGs.trunk {base g k : Nat} {W : World} {l : List Grp} {tb : Nat → Nat} {x : Grp} (h : OwnGs base W g l l.length tb) (hx : l[k]? = some x) (t : Int) :
 OwnGs base (W.setCell ⟨g, k * 3 + 1, none⟩ (.int .i64 t)) g (l.set k { x with trunks := t }) (l.set k { x with trunks := t }).length tb := by
 have hk : k < l.length := (List.getElem?_eq_some_iff.1 hx).1
 rw [List.length_set]
 refine ⟨h.lo, by simpa using h.hi, ?_, fun i y hi hy => ?_, h.apart⟩
 ·rw [jS l k x t hx]
  exact h.row.set (by rw [yn]; omega)
 ·by_cases e : k = i
  ·subst e
   rw [List.getElem?_set_self hk] at hy
   obtain rfl := Option.some.inj hy
   obtain ⟨a, b, c, d, o, f⟩ := h.ta k x hi hx
   exact ⟨a, b, by simpa using c, d, o.other (Ne.symm d), f⟩
  ·rw [List.getElem?_set_ne e] at hy
   obtain ⟨a, b, c, d, o, f⟩ := h.ta i y hi hy
   exact ⟨a, b, by simpa using c, d, o.other (Ne.symm d), f⟩
structure SpSt (w : World) (B : Bk) (h q mc hc m g gc : Nat) (tb : Nat → Nat) (l : List Grp) (W : World) : Prop where
 bel : Below w.heap.size w W
 own : OwnGs (q + 1) W g l l.length tb
 gm : g < m
 tm : ∀ i, i < l.length → tb i < m
 box : Five W q (.int .i64 B.lim.1) (.int .i64 B.lim.2) (.int .i64 B.growth) (.int .i64 B.hours) (.slice (some ⟨g, 0, none⟩) l.length gc)
 lo : w.heap.size ≤ hc
 hq : hc < q
 mm : m < mc
 mp : W.cell? ⟨mc, 0, none⟩ = some (.map (some m))
 hp : W.cell? ⟨hc, 0, none⟩ = some (.int .i64 h)
 map : zR m W
 cap : l.length ≤ gc
 small : l.length ≤ 20 ∧ ∀ x ∈ l, x.traffic.length ≤ 20 ∧ x.name.size ≤ 100
variable {w W W1 : World} {B : Bk} {h q mc hc m g gc : Nat} {tb : Nat → Nat} {l : List Grp}
theorem SpSt.keep (s : SpSt w B h q mc hc m g gc tb l W) (hB : Below W.heap.size W W1) : SpSt w B h q mc hc m g gc tb l W1 :=
 ⟨Below.call s.bel hB (Nat.le_refl _), s.own.keep hB, s.gm, s.tm, s.box.keep hB, s.lo, s.hq, s.mm, qb _ hB s.mp, qb _ hB s.hp, s.map.keep hB, s.cap, s.small⟩
theorem SpSt.one (s : SpSt w B h q mc hc m g gc tb l W) (hO : Zw m W W1) : SpSt w B h q mc hc m g gc tb l W1 := by
 have h1 := s.own.lo
 have h2 := s.gm
 have h3 := s.lo
 have h4 := s.hq
 have h5 := s.mm
 exact ⟨s.bel.grown hO.2 s.bel.size (fun k e => by cases e; omega), s.own.one hO.2 (by omega) (fun i hi => by have := s.tm i hi; omega), s.gm, s.tm, s.box.one hO.2 (by omega), s.lo, s.hq, s.mm, qo hO.2 s.mp (by show mc ≠ m; omega), qo hO.2 s.hp (by show hc ≠ m; omega), hO.1, s.cap, s.small⟩
theorem SpSt.trunk (s : SpSt w B h q mc hc m g gc tb l W) {k : Nat} {x : Grp} (hx : l[k]? = some x) (t : Int) : SpSt w B h q mc hc m g gc tb (l.set k { x with trunks := t }) (W.setCell ⟨g, k * 3 + 1, none⟩ (.int .i64 t)) := by
 have h1 := s.own.lo
 have h2 := s.gm
 have h3 := s.lo
 have h4 := s.hq
 have h5 := s.mm
 have n : ∀ b j, b ≠ g → (⟨g, k * 3 + 1, none⟩ : Addr) ≠ ⟨b, j, none⟩ := fun b j e h => e (congrArg Addr.block h).symm
 refine ⟨s.bel.setCell (by show w.heap.size ≤ g; omega) _, s.own.trunk hx t, s.gm, fun i hi => s.tm i (by simpa using hi), ?_, s.lo, s.hq, s.mm, qc (n _ _ (by omega)) s.mp, qc (n _ _ (by omega)) s.hp, s.map.set (by show m ≠ g; omega) _, by simpa using s.cap, by simpa using s.small.1, fun y hy => ?_⟩
 ·rw [List.length_set]; exact s.box.at (by omega)
 ·rcases List.mem_or_eq_of_mem_set hy with hy | rfl
  ·exact s.small.2 y hy
  ·exact s.small.2 x (List.mem_of_getElem? hx)
theorem SpSt.book (s : SpSt w B h q mc hc m g gc tb l W) : BookAt W { B with gs := l, ga := some ⟨g, 0, none⟩, gc := gc } :=
 ⟨fun _ => ⟨g, 0, rfl, Jj s.own.row⟩, fun x hx _ => by
   obtain ⟨i, hi, rfl⟩ := List.getElem_of_mem hx
   obtain ⟨a, _, _, _, b, _⟩ := s.own.ta i l[i] hi (by simp)
   exact ⟨tb i, 0, a, JN b⟩, s.small, s.cap⟩
theorem Zi {B : Bk} {h : Nat} : ∀ k, k ≤ B.gs.length → (qR B h k).1 = -1 ∨ ∃ (i : Nat) (x : Grp), (qR B h k).1 = i ∧ B.gs[i]? = some x ∧ x.trunks ≠ 7
 | 0, _ => .inl rfl
 | k + 1, hk => by
   obtain ⟨x, hx⟩ : ∃ x, B.gs[k]? = some x := ⟨B.gs[k], by simp⟩
   have ih := Zi (B := B) (h := h) k (by omega)
   simp only [qR, hx]
   by_cases e : x.trunks = 7
   ·rw [if_pos e]; exact ih
   ·rw [if_neg e]
    split
    ·exact .inr ⟨k, x, rfl, hx, e⟩
    ·exact ih
end Go.Proofs.Tryz
end
namespace Go.Proofs.Tryz
open Go Go.Load Go.RowKit Go.Maps
def BumpP (w : World) (B : Bk) (h q mc hc m g gc : Nat) (tb : Nat → Nat) (l : List Grp) (W : World) (e : Ending) (W1 : World) : Prop :=
 e = .returned (.int .i64 (qR { B with gs := l, ga := some ⟨g, 0, none⟩, gc := gc } h l.length).1) ∧ SpSt w B h q mc hc m g gc tb (QA l (qR { B with gs := l, ga := some ⟨g, 0, none⟩, gc := gc } h l.length).1) W1 ∧ ∃ V, W.grownBy V (some m) ∧ V.grownBy W1 (some g)
theorem grown_at {W : World} {g j : Nat} {v : Value} : W.grownBy (W.setCell ⟨g, j, none⟩ v) (some g) :=
 ⟨rfl, rfl, rfl, by simp, fun k _ hr => Below.heap_setCell _ _ _ _ (by simpa using hr)⟩
set_option maxHeartbeats 4000000 in
set_option maxRecDepth 100000 in
theorem qaC (w : World) (B : Bk) (h q mc hc m g gc : Nat) (tb : Nat → Nat) (l : List Grp) (W : World) (s : SpSt w B h q mc hc m g gc tb l W) (hV : Valid { B with gs := l, ga := some ⟨g, 0, none⟩, gc := gc }) (hG : Globs W) (hh : (h : Int) < B.hours) :
 Calls qf 60 #[.pointer (some ⟨q, 0, none⟩), .pointer (some ⟨mc, 0, none⟩), .pointer (some ⟨hc, 0, none⟩)] W (BumpP w B h q mc hc m g gc tb l W) := by
 have hbe := qce { B with gs := l, ga := some ⟨g, 0, none⟩, gc := gc } m h W s.book hV hG s.map hh
 have hbs := Zi (B := { B with gs := l, ga := some ⟨g, 0, none⟩, gc := gc }) (h := h) l.length (Nat.le_refl _)
 have HT := Lib.hid fun (i : Nat) (x : Grp) (hx : l[i]? = some x) => hV.grp x (List.mem_of_getElem? hx)
 unfold BumpP
 simp only at hbe
 generalize qR { B with gs := l, ga := some ⟨g, 0, none⟩, gc := gc } h l.length = r at *
 have hq := s.mp
 have hp := s.hp
 have hm := s.map.lt
 obtain ⟨⟨e0, e1, e2, e3, e4⟩, ⟨k0, k1, k2, k3, k4⟩⟩ := id s.box
 have h1 := s.own.lo
 have h2 := s.gm
 have h4 := s.hq
 have h5 := s.mm
 have hqn : q ≠ m := by omega
 have hS := Lib.hid s
 clear hV hG hh s
 obtain ⟨lim, gr, hr, gs, ga, gc0⟩ := B
 simp only [bestV, fv, bv] at *
 by_cases hb : r.1 = -1
 ·rw [hb] at hbe ⊢
  clear hbs
  go_enter s60, ntmps60
  go_wp2_with (go_at_call 33; refine hbe.mono ?_; rintro e w1 ⟨rfl, hO⟩)
  go_ret
  refine ⟨rfl, ?_, w1.alloc (.cells #[.int .i64 r.2.1, .int .i64 r.2.2] 72), ?_, ?_⟩
  ·have e : QA l (-1) = l := if_pos rfl
   rw [e]
   exact (hS.out.one hO).keep ((Below.refl _ w1).alloc (Nat.le_refl _) _)
  ·exact zL hO.2 (zi ((Below.refl _ w1).alloc (Nat.le_refl _) _))
  ·exact zi (Below.refl _ _)
 ·obtain ⟨i, x, hi, hx, hx7⟩ := hbs.resolve_left hb
  have hgi := HT.out i x hx
  rw [hi] at hbe ⊢
  have hbn : ((i : Int) != -1) = true := bne_iff_ne.2 (by omega)
  have hil : i < l.length := (List.getElem?_eq_some_iff.1 hx).1
  have hi0 : (0 : Int) ≤ (i : Int) := Int.natCast_nonneg i
  have hi1 : (i : Int) < (l.length : Int) := by omega
  have hl20 := hS.out.small.1
  have ht0 := hgi.tr0
  have ht7 := hgi.tr7
  have HX := Lib.hid hx
  clear hbs hb hx hgi hx7
  go_enter s60, ntmps60
  go_wp2_with (go_at_call 33; refine hbe.mono ?_; rintro e w1 ⟨rfl, hO⟩; have S1 := hS.out.one hO; obtain ⟨⟨e0, e1, e2, e3, e4⟩, _⟩ := id S1.box; obtain ⟨x0, x1⟩ := S1.own.row _ _ (zu l i x HX.out).2.1; have hg1 := S1.own.hi; have hq1 : q < w1.heap.size := lt_of_cell e0; have S1 := Lib.hid S1)
  go_ret
  have e : QA l (i : Int) = l.set i { x with trunks := x.trunks + 1 } := by
   unfold QA
   rw [if_neg (by omega), Int.toNat_natCast, HX.out]
  refine ⟨rfl, ?_, w1, hO.2, ?_⟩
  ·rw [e]
   exact (S1.out.trunk HX.out _).keep ((Below.refl _ _).alloc (Nat.le_refl _) _)
  ·exact zL grown_at (zi ((Below.refl _ _).alloc (Nat.le_refl _) _))
theorem qbF {B B' : Bk} {h : Nat} (e : B'.gs = B.gs) : ∀ k, qR B' h k = qR B h k
 | 0 => rfl
 | k + 1 => by simp only [qR, e, qbF e k]
theorem Yc {B B' : Bk} {h : Nat} (e : B'.gs = B.gs.map blank) : ∀ k, qR B' h k = qR B h k
 | 0 => rfl
 | k + 1 => by
   simp only [qR, e, Yc e k, List.getElem?_map]
   cases hk : B.gs[k]? with
   | none => rfl
   | some g => rfl
def Ze (h : Nat) (l : List Grp) : Int := (qR ⟨(0, 0), 0, 0, l, none, 0⟩ h l.length).1
theorem bestL_eq (B : Bk) (h : Nat) : (qR B h B.gs.length).1 = Ze h B.gs := by
 unfold Ze
 rw [qbF (B := B) (B' := ⟨(0, 0), 0, 0, B.gs, none, 0⟩) rfl]
def zw (h : Nat) : Nat → List Grp → List Int
 | 0, _ => []
 | n + 1, l => if Ze h l = -1 then [] else Ze h l :: zw h n (QA l (Ze h l))
theorem qaq (h : Nat) (l : List Grp) : Ze h (l.map blank) = Ze h l := by
 unfold Ze
 rw [List.length_map, Yc (B := ⟨(0, 0), 0, 0, l, none, 0⟩) rfl]
theorem qbq (l : List Grp) (b : Int) : QA (l.map blank) b = (QA l b).map blank := by
 unfold QA
 by_cases e : b = -1
 ·rw [if_pos e, if_pos e]
 ·rw [if_neg e, if_neg e, List.getElem?_map]
  cases h : l[b.toNat]? with
  | none => rfl
  | some x => simp [blank, List.map_set]
theorem jc (h : Nat) : ∀ (n : Nat) (l : List Grp), zw h n (l.map blank) = zw h n l
 | 0, _ => rfl
 | n + 1, l => by simp only [zw, qaq, qbq, jc h n]
theorem JP {h n : Nat} {l l' : List Grp} (hs : zX l l') : zw h n l' = zw h n l := by
 rw [← jc h n l', Zc hs, jc]
def qcC (n : Nat) (L : List Int) : List Int := L ++ List.replicate (n - L.length) (-1)
theorem Valid.bump {B : Bk} (hV : Valid B) {b : Int} (hb : b = (qR B 0 0).1 ∨ b = -1 ∨ ∃ (i : Nat) (x : Grp), b = i ∧ B.gs[i]? = some x ∧ x.trunks ≠ 7) : Valid { B with gs := QA B.gs b } := by
 have key : ∀ (i : Nat) (x : Grp), B.gs[i]? = some x → x.trunks ≠ 7 → Valid { B with gs := B.gs.set i { x with trunks := x.trunks + 1 } } := fun i x hx h7 => by
  refine ⟨hV.num, by simpa using hV.len1, by simpa using hV.len4, fun y hy => ?_⟩
  rcases List.mem_or_eq_of_mem_set hy with hy | rfl
  ·exact hV.grp y hy
  ·have hg := hV.grp x (List.mem_of_getElem? hx)
   have h1 := hg.tr0
   have h2 := hg.tr7
   exact ⟨hg.name, by show (0 : Int) ≤ x.trunks + 1; omega, by show x.trunks + 1 ≤ (7 : Int); omega, hg.len, hg.traf⟩
 have e1 : QA B.gs (-1) = B.gs := if_pos rfl
 rcases hb with rfl | rfl | ⟨i, x, rfl, hx, h7⟩
 ·show Valid { B with gs := QA B.gs (-1) }
  rw [e1]; exact hV
 ·rw [e1]; exact hV
 ·have e : QA B.gs (i : Int) = B.gs.set i { x with trunks := x.trunks + 1 } := by
   unfold QA
   rw [if_neg (by omega), Int.toNat_natCast, hx]
  rw [e]; exact key i x hx h7
theorem Valid.move {B : Bk} {l : List Grp} (hV : Valid B) (hs : zX B.gs l) (ga : Option Addr) (gc : Nat) : Valid { B with gs := l, ga := ga, gc := gc } := by
 refine ⟨hV.num, by show 1 ≤ l.length; rw [hs.1]; exact hV.len1, by show l.length ≤ 4; rw [hs.1]; exact hV.len4, fun y hy => ?_⟩
 obtain ⟨i, hi, rfl⟩ := List.getElem_of_mem hy
 obtain ⟨x, hx⟩ : ∃ x, B.gs[i]? = some x := ⟨B.gs[i]'(by rw [← hs.1]; exact hi), by simp⟩
 obtain ⟨a, b, c⟩ := hs.2 i x l[i] hx (by simp)
 have hg := hV.grp x (List.mem_of_getElem? hx)
 exact ⟨by rw [a]; exact hg.name, by rw [b]; exact hg.tr0, by rw [b]; exact hg.tr7, by rw [c]; exact hg.len, by rw [c]; exact hg.traf⟩
end Go.Proofs.Tryz
