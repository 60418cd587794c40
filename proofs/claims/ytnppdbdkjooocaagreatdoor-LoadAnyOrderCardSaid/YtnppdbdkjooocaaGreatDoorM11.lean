/-
  A part of the proof (C36 C37 C38): lemmas about the program and about the machine that the last text of this claim rests upon; no condition.
-/
import Derived.Test.YtnppdbdkjooocaaGreatDoorM09
import Derived.Test.YtnppdbdkjooocaaGreatDoorM06
import Derived.Test.YtnppdbdkjooocaaGreatDoorM10
set_option linter.unusedSimpArgs false
set_option linter.unusedVariables false
section
namespace Go.Proofs.Tryz
open Go Go.Load Go.RowKit Go.Maps
def QE (l : List Grp) (b : Int) : List Grp := if b = -1 then l else match l[b.toNat]? with
 | some x => l.set b.toNat { x with trunks := x.trunks + 1 }
 | none => l
theorem jQ : ∀ (l : List Grp) (k : Nat) (x : Grp) (t : Int), l[k]? = some x → qH (l.set k { x with trunks := t }) = (qH l).set (k * 3 + 1) (.int .i64 t)
 | [], k, x, t, h => by simp at h
 | y :: l, 0, x, t, h => by
   obtain rfl : y = x := by simpa using h
   rfl
 | y :: l, k + 1, x, t, h => by
   have ih := jQ l k x t (by simpa using h)
   have e : (k + 1) * 3 + 1 = (k * 3 + 1) + 3 := by omega
   rw [e]
   show [Value.string y.name, .int .i64 y.trunks, .slice y.ta y.traffic.length y.tc] ++ qH (l.set k _) = _
   rw [ih]
   rfl
theorem OwnAt.one {W W1 : World} {g m : Nat} {xs : List Value} (h : OwnAt W g xs) (k : W.grownBy W1 (some m)) (e : g ≠ m) : OwnAt W1 g xs := fun i u hu => ⟨qw k (h i u hu).1 e, qE k (h i u hu).1 (h i u hu).2 e⟩
theorem Five.one {W W1 : World} {b m : Nat} {v0 v1 v2 v3 v4 : Value} (h : Five W b v0 v1 v2 v3 v4) (k : W.grownBy W1 (some m)) (e : b ≠ m) : Five W1 b v0 v1 v2 v3 v4 := by
 obtain ⟨⟨a0, a1, a2, a3, a4⟩, ⟨f0, f1, f2, f3, f4⟩⟩ := h
 exact ⟨⟨qw k a0 e, qw k a1 e, qw k a2 e, qw k a3 e, qw k a4 e⟩, ⟨qE k a0 f0 e, qE k a1 f1 e, qE k a2 f2 e, qE k a3 f3 e, qE k a4 f4 e⟩⟩
theorem Five.at {W : World} {b c j : Nat} {v v0 v1 v2 v3 v4 : Value} (h : Five W b v0 v1 v2 v3 v4) (e : c ≠ b) : Five (W.setCell ⟨c, j, none⟩ v) b v0 v1 v2 v3 v4 := by
 obtain ⟨⟨a0, a1, a2, a3, a4⟩, ⟨f0, f1, f2, f3, f4⟩⟩ := h
 have n : ∀ q, (⟨c, j, none⟩ : Addr) ≠ ⟨b, q, none⟩ := fun q h => e (congrArg Addr.block h)
 exact ⟨⟨qc (n _) a0, qc (n _) a1, qc (n _) a2, qc (n _) a3, qc (n _) a4⟩, by simpa using f0, by simpa using f1, by simpa using f2, by simpa using f3, by simpa using f4⟩
theorem OwnGs.one {base g k m : Nat} {W W1 : World} {l : List Grp} {tb : Nat → Nat} (h : OwnGs base W g l k tb) (hk : W.grownBy W1 (some m)) (e : g ≠ m) (et : ∀ i, i < k → tb i ≠ m) : OwnGs base W1 g l k tb :=
 ⟨h.lo, Nat.lt_of_lt_of_le h.hi hk.size, h.row.one hk e, fun i x hi hx => let ⟨a, b, c, d, o, f⟩ := h.ta i x hi hx; ⟨a, b, Nat.lt_of_lt_of_le c hk.size, d, o.one hk (et i hi), f⟩, h.apart⟩
theorem OwnGs.trunk {base g k : Nat} {W : World} {l : List Grp} {tb : Nat → Nat} {x : Grp} (h : OwnGs base W g l l.length tb) (hx : l[k]? = some x) (t : Int) :
 OwnGs base (W.setCell ⟨g, k * 3 + 1, none⟩ (.int .i64 t)) g (l.set k { x with trunks := t }) (l.set k { x with trunks := t }).length tb := by
 have hk : k < l.length := (List.getElem?_eq_some_iff.1 hx).1
 rw [List.length_set]
 refine ⟨h.lo, by simpa using h.hi, ?_, fun i y hi hy => ?_, h.apart⟩
 ·rw [jQ l k x t hx]
  exact h.row.set (by rw [yo]; omega)
 ·by_cases e : k = i
  ·subst e
   rw [List.getElem?_set_self hk] at hy
   obtain rfl := Option.some.inj hy
   obtain ⟨a, b, c, d, o, f⟩ := h.ta k x hi hx
   exact ⟨a, b, by simpa using c, d, o.other (Ne.symm d), f⟩
  ·rw [List.getElem?_set_ne e] at hy
   obtain ⟨a, b, c, d, o, f⟩ := h.ta i y hi hy
   exact ⟨a, b, by simpa using c, d, o.other (Ne.symm d), f⟩
structure SpSt (w : World) (B : Bk) (h q mc hc m g gc : Nat) (tb : Nat → Nat) (l : List Grp) (W : World) : Prop where
 bel : Below w.heap.size w W
 own : OwnGs (q + 1) W g l l.length tb
 gm : g < m
 tm : ∀ i, i < l.length → tb i < m
 box : Five W q (.int .i64 B.lim.1) (.int .i64 B.lim.2) (.int .i64 B.growth) (.int .i64 B.hours) (.slice (some ⟨g, 0, none⟩) l.length gc)
 lo : w.heap.size ≤ hc
 hq : hc < q
 mm : m < mc
 mp : W.cell? ⟨mc, 0, none⟩ = some (.map (some m))
 hp : W.cell? ⟨hc, 0, none⟩ = some (.int .i64 h)
 map : zV m W
 cap : l.length ≤ gc
 small : l.length ≤ 20 ∧ ∀ x ∈ l, x.traffic.length ≤ 20 ∧ x.name.size ≤ 100
variable {w W W1 : World} {B : Bk} {h q mc hc m g gc : Nat} {tb : Nat → Nat} {l : List Grp}
theorem SpSt.keep (s : SpSt w B h q mc hc m g gc tb l W) (hB : Below W.heap.size W W1) : SpSt w B h q mc hc m g gc tb l W1 :=
 ⟨Below.call s.bel hB (Nat.le_refl _), s.own.keep hB, s.gm, s.tm, s.box.keep hB, s.lo, s.hq, s.mm, qb _ hB s.mp, qb _ hB s.hp, s.map.keep hB, s.cap, s.small⟩
theorem SpSt.one (s : SpSt w B h q mc hc m g gc tb l W) (hO : ZK m W W1) : SpSt w B h q mc hc m g gc tb l W1 := by
 have h1 := s.own.lo
 have h2 := s.gm
 have h3 := s.lo
 have h4 := s.hq
 have h5 := s.mm
 exact ⟨s.bel.grown hO.2 s.bel.size (fun k e => by cases e; omega), s.own.one hO.2 (by omega) (fun i hi => by have := s.tm i hi; omega), s.gm, s.tm, s.box.one hO.2 (by omega), s.lo, s.hq, s.mm, qw hO.2 s.mp (by show mc ≠ m; omega), qw hO.2 s.hp (by show hc ≠ m; omega), hO.1, s.cap, s.small⟩
theorem SpSt.trunk (s : SpSt w B h q mc hc m g gc tb l W) {k : Nat} {x : Grp} (hx : l[k]? = some x) (t : Int) : SpSt w B h q mc hc m g gc tb (l.set k { x with trunks := t }) (W.setCell ⟨g, k * 3 + 1, none⟩ (.int .i64 t)) := by
 have h1 := s.own.lo
 have h2 := s.gm
 have h3 := s.lo
 have h4 := s.hq
 have h5 := s.mm
 have n : ∀ b j, b ≠ g → (⟨g, k * 3 + 1, none⟩ : Addr) ≠ ⟨b, j, none⟩ := fun b j e h => e (congrArg Addr.block h).symm
 refine ⟨s.bel.setCell (by show w.heap.size ≤ g; omega) _, s.own.trunk hx t, s.gm, fun i hi => s.tm i (by simpa using hi), ?_, s.lo, s.hq, s.mm, qc (n _ _ (by omega)) s.mp, qc (n _ _ (by omega)) s.hp, s.map.set (by show m ≠ g; omega) _, by simpa using s.cap, by simpa using s.small.1, fun y hy => ?_⟩
 ·rw [List.length_set]; exact s.box.at (by omega)
 ·rcases List.mem_or_eq_of_mem_set hy with hy | rfl
  ·exact s.small.2 y hy
  ·exact s.small.2 x (List.mem_of_getElem? hx)
theorem SpSt.book (s : SpSt w B h q mc hc m g gc tb l W) : BookAt W { B with gs := l, ga := some ⟨g, 0, none⟩, gc := gc } :=
 ⟨fun _ => ⟨g, 0, rfl, qaF s.own.row⟩, fun x hx _ => by
   obtain ⟨i, hi, rfl⟩ := List.getElem_of_mem hx
   obtain ⟨a, _, _, _, b, _⟩ := s.own.ta i l[i] hi (by simp)
   exact ⟨tb i, 0, a, qaG b⟩, s.small, s.cap⟩
theorem Zp {B : Bk} {h : Nat} : ∀ k, k ≤ B.gs.length → (qP B h k).1 = -1 ∨ ∃ (i : Nat) (x : Grp), (qP B h k).1 = i ∧ B.gs[i]? = some x ∧ x.trunks ≠ 7
 | 0, _ => .inl rfl
 | k + 1, hk => by
   obtain ⟨x, hx⟩ : ∃ x, B.gs[k]? = some x := ⟨B.gs[k], by simp⟩
   have ih := Zp (B := B) (h := h) k (by omega)
   simp only [qP, hx]
   by_cases e : x.trunks = 7
   ·rw [if_pos e]; exact ih
   ·rw [if_neg e]
    split
    ·exact .inr ⟨k, x, rfl, hx, e⟩
    ·exact ih
end Go.Proofs.Tryz
end
namespace Go.Proofs.Tryz
open Go Go.Load Go.RowKit Go.Maps
def BumpP (w : World) (B : Bk) (h q mc hc m g gc : Nat) (tb : Nat → Nat) (l : List Grp) (W : World) (e : Ending) (W1 : World) : Prop :=
 e = .returned (.int .i64 (qP { B with gs := l, ga := some ⟨g, 0, none⟩, gc := gc } h l.length).1) ∧ SpSt w B h q mc hc m g gc tb (QE l (qP { B with gs := l, ga := some ⟨g, 0, none⟩, gc := gc } h l.length).1) W1 ∧ ∃ V, W.grownBy V (some m) ∧ V.grownBy W1 (some g)
theorem grown_at {W : World} {g j : Nat} {v : Value} : W.grownBy (W.setCell ⟨g, j, none⟩ v) (some g) :=
 ⟨rfl, rfl, rfl, by simp, fun k _ hr => Below.heap_setCell _ _ _ _ (by simpa using hr)⟩
set_option maxHeartbeats 4000000 in
set_option maxRecDepth 100000 in
theorem qbY (w : World) (B : Bk) (h q mc hc m g gc : Nat) (tb : Nat → Nat) (l : List Grp) (W : World) (s : SpSt w B h q mc hc m g gc tb l W) (hV : Valid { B with gs := l, ga := some ⟨g, 0, none⟩, gc := gc }) (hG : Globs W) (hh : (h : Int) < B.hours) :
 Calls qf 63 #[.pointer (some ⟨q, 0, none⟩), .pointer (some ⟨mc, 0, none⟩), .pointer (some ⟨hc, 0, none⟩)] W (BumpP w B h q mc hc m g gc tb l W) := by
 have hbe := qcp { B with gs := l, ga := some ⟨g, 0, none⟩, gc := gc } m h W s.book hV hG s.map hh
 have hbs := Zp (B := { B with gs := l, ga := some ⟨g, 0, none⟩, gc := gc }) (h := h) l.length (Nat.le_refl _)
 have HT := Lib.hid fun (i : Nat) (x : Grp) (hx : l[i]? = some x) => hV.grp x (List.mem_of_getElem? hx)
 unfold BumpP
 simp only at hbe
 generalize qP { B with gs := l, ga := some ⟨g, 0, none⟩, gc := gc } h l.length = r at *
 have hq := s.mp
 have hp := s.hp
 have hm := s.map.lt
 obtain ⟨⟨e0, e1, e2, e3, e4⟩, ⟨k0, k1, k2, k3, k4⟩⟩ := id s.box
 have h1 := s.own.lo
 have h2 := s.gm
 have h4 := s.hq
 have h5 := s.mm
 have hqn : q ≠ m := by omega
 have hS := Lib.hid s
 clear hV hG hh s
 obtain ⟨lim, gr, hr, gs, ga, gc0⟩ := B
 simp only [bestV, fv, bv] at *
 by_cases hb : r.1 = -1
 ·rw [hb] at hbe ⊢
  clear hbs
  go_enter s63, ntmps63
  go_wp2_with (go_at_call 48; refine hbe.mono ?_; rintro e w1 ⟨rfl, hO⟩)
  go_ret
  refine ⟨rfl, ?_, w1.alloc (.cells #[.int .i64 r.2.1, .int .i64 r.2.2] 90), ?_, ?_⟩
  ·have e : QE l (-1) = l := if_pos rfl
   rw [e]
   exact (hS.out.one hO).keep ((Below.refl _ w1).alloc (Nat.le_refl _) _)
  ·exact zM hO.2 (zm ((Below.refl _ w1).alloc (Nat.le_refl _) _))
  ·exact zm (Below.refl _ _)
 ·obtain ⟨i, x, hi, hx, hx7⟩ := hbs.resolve_left hb
  have hgi := HT.out i x hx
  rw [hi] at hbe ⊢
  have hbn : ((i : Int) != -1) = true := bne_iff_ne.2 (by omega)
  have hil : i < l.length := (List.getElem?_eq_some_iff.1 hx).1
  have hi0 : (0 : Int) ≤ (i : Int) := Int.natCast_nonneg i
  have hi1 : (i : Int) < (l.length : Int) := by omega
  have hl20 := hS.out.small.1
  have ht0 := hgi.tr0
  have ht7 := hgi.tr7
  have HX := Lib.hid hx
  clear hbs hb hx hgi hx7
  go_enter s63, ntmps63
  go_wp2_with (go_at_call 48; refine hbe.mono ?_; rintro e w1 ⟨rfl, hO⟩; have S1 := hS.out.one hO; obtain ⟨⟨e0, e1, e2, e3, e4⟩, _⟩ := id S1.box; obtain ⟨x0, x1⟩ := S1.own.row _ _ (zk l i x HX.out).2.1; have hg1 := S1.own.hi; have hq1 : q < w1.heap.size := lt_of_cell e0; have S1 := Lib.hid S1)
  go_ret
  have e : QE l (i : Int) = l.set i { x with trunks := x.trunks + 1 } := by
   unfold QE
   rw [if_neg (by omega), Int.toNat_natCast, HX.out]
  refine ⟨rfl, ?_, w1, hO.2, ?_⟩
  ·rw [e]
   exact (S1.out.trunk HX.out _).keep ((Below.refl _ _).alloc (Nat.le_refl _) _)
  ·exact zM grown_at (zm ((Below.refl _ _).alloc (Nat.le_refl _) _))
theorem qcn {B B' : Bk} {h : Nat} (e : B'.gs = B.gs) : ∀ k, qP B' h k = qP B h k
 | 0 => rfl
 | k + 1 => by simp only [qP, e, qcn e k]
theorem Yy {B B' : Bk} {h : Nat} (e : B'.gs = B.gs.map blank) : ∀ k, qP B' h k = qP B h k
 | 0 => rfl
 | k + 1 => by
   simp only [qP, e, Yy e k, List.getElem?_map]
   cases hk : B.gs[k]? with
   | none => rfl
   | some g => rfl
def Zo (h : Nat) (l : List Grp) : Int := (qP ⟨(0, 0), 0, 0, l, none, 0⟩ h l.length).1
theorem bestL_eq (B : Bk) (h : Nat) : (qP B h B.gs.length).1 = Zo h B.gs := by
 unfold Zo
 rw [qcn (B := B) (B' := ⟨(0, 0), 0, 0, B.gs, none, 0⟩) rfl]
def zC (h : Nat) : Nat → List Grp → List Int
 | 0, _ => []
 | n + 1, l => if Zo h l = -1 then [] else Zo h l :: zC h n (QE l (Zo h l))
theorem qbf (h : Nat) (l : List Grp) : Zo h (l.map blank) = Zo h l := by
 unfold Zo
 rw [List.length_map, Yy (B := ⟨(0, 0), 0, 0, l, none, 0⟩) rfl]
theorem qbi (l : List Grp) (b : Int) : QE (l.map blank) b = (QE l b).map blank := by
 unfold QE
 by_cases e : b = -1
 ·rw [if_pos e, if_pos e]
 ·rw [if_neg e, if_neg e, List.getElem?_map]
  cases h : l[b.toNat]? with
  | none => rfl
  | some x => simp [blank, List.map_set]
theorem jw (h : Nat) : ∀ (n : Nat) (l : List Grp), zC h n (l.map blank) = zC h n l
 | 0, _ => rfl
 | n + 1, l => by simp only [zC, qbf, qbi, jw h n]
theorem qaO {h n : Nat} {l l' : List Grp} (hs : zL l l') : zC h n l' = zC h n l := by
 rw [← jw h n l', Qn hs, jw]
def qdk (n : Nat) (L : List Int) : List Int := L ++ List.replicate (n - L.length) (-1)
theorem Valid.bump {B : Bk} (hV : Valid B) {b : Int} (hb : b = (qP B 0 0).1 ∨ b = -1 ∨ ∃ (i : Nat) (x : Grp), b = i ∧ B.gs[i]? = some x ∧ x.trunks ≠ 7) : Valid { B with gs := QE B.gs b } := by
 have key : ∀ (i : Nat) (x : Grp), B.gs[i]? = some x → x.trunks ≠ 7 → Valid { B with gs := B.gs.set i { x with trunks := x.trunks + 1 } } := fun i x hx h7 => by
  refine ⟨hV.num, by simpa using hV.len1, by simpa using hV.len4, fun y hy => ?_⟩
  rcases List.mem_or_eq_of_mem_set hy with hy | rfl
  ·exact hV.grp y hy
  ·have hg := hV.grp x (List.mem_of_getElem? hx)
   have h1 := hg.tr0
   have h2 := hg.tr7
   exact ⟨hg.name, by show (0 : Int) ≤ x.trunks + 1; omega, by show x.trunks + 1 ≤ (7 : Int); omega, hg.len, hg.traf⟩
 have e1 : QE B.gs (-1) = B.gs := if_pos rfl
 rcases hb with rfl | rfl | ⟨i, x, rfl, hx, h7⟩
 ·show Valid { B with gs := QE B.gs (-1) }
  rw [e1]; exact hV
 ·rw [e1]; exact hV
 ·have e : QE B.gs (i : Int) = B.gs.set i { x with trunks := x.trunks + 1 } := by
   unfold QE
   rw [if_neg (by omega), Int.toNat_natCast, hx]
  rw [e]; exact key i x hx h7
theorem Valid.move {B : Bk} {l : List Grp} (hV : Valid B) (hs : zL B.gs l) (ga : Option Addr) (gc : Nat) : Valid { B with gs := l, ga := ga, gc := gc } := by
 refine ⟨hV.num, by show 1 ≤ l.length; rw [hs.1]; exact hV.len1, by show l.length ≤ 4; rw [hs.1]; exact hV.len4, fun y hy => ?_⟩
 obtain ⟨i, hi, rfl⟩ := List.getElem_of_mem hy
 obtain ⟨x, hx⟩ : ∃ x, B.gs[i]? = some x := ⟨B.gs[i]'(by rw [← hs.1]; exact hi), by simp⟩
 obtain ⟨a, b, c⟩ := hs.2 i x l[i] hx (by simp)
 have hg := hV.grp x (List.mem_of_getElem? hx)
 exact ⟨by rw [a]; exact hg.name, by rw [b]; exact hg.tr0, by rw [b]; exact hg.tr7, by rw [c]; exact hg.len, by rw [c]; exact hg.traf⟩
end Go.Proofs.Tryz
