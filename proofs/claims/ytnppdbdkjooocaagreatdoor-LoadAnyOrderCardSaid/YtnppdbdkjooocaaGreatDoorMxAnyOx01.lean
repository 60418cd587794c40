/-
  A part of the proof (B7 B14 B15): lemmas about the program and about the machine that the last text of this claim rests upon; no condition.
-/
import Derived.Deep.AppendLies
import Derived.Deep.RegionLaw
import Derived.Deep.CutBlock
import Derived.Deep.Cut
import Derived.Deep.CutRange
import Derived.Deep.DeepCutAuto
import Derived.Deep.Light
import Derived.Test.YtnppdbdkjooocaaGreatDoorM09
import Derived.Test.YtnppdbdkjooocaaGreatDoorM06
import Derived.Test.YtnppdbdkjooocaaGreatDoorM07
import Derived.Test.YtnppdbdkjooocaaGreatDoorM08
import Derived.Test.YtnppdbdkjooocaaGreatDoorM21
import Derived.Test.YtnppdbdkjooocaaGreatDoorM10
set_option linter.unusedSimpArgs false
set_option linter.unusedVariables false
namespace Go.Proofs.Tryz
open Go Go.Load Go.RowKit
def saveB (t b n : Nat) : Bool :=
 qag (xY t b n) && qag (xY t b (n + 1)) && decide (okS (xY t b n) 268435456) && decide (okS (xY t b (n + 1)) 8589934592) && !above (xY t b (n + 1)) (xY t b n) &&
 decide (((xY t b n).1 * (xY t b (n + 1)).2 < 4611686018427387904 ∧ (xY t b n).2 * (xY t b (n + 1)).2 < 4611686018427387904) ∧ (xY t b (n + 1)).1 * (xY t b n).2 ≤ (xY t b n).1 * (xY t b (n + 1)).2) &&
 (savesB t b n == jW (low (t : Int) (b : Int)) n) && qag (savesB t b n)
theorem save_all : ((List.range 13).all fun t => (List.range 4).all fun b => (List.range 7).all fun n => saveB t (b + 1) n) = true := by decide +kernel
theorem qdP {t b n : Nat} (ht : t ≤ 12) (hb : 1 ≤ b ∧ b ≤ 4) (hn : n ≤ 6) : saveB t b n = true := by
 have h := save_all
 rw [List.all_eq_true] at h
 have h := h t (List.mem_range.2 (by omega))
 rw [List.all_eq_true] at h
 have h := h (b - 1) (List.mem_range.2 (by omega))
 rw [List.all_eq_true] at h
 have h := h n (List.mem_range.2 (by omega))
 rwa [show b - 1 + 1 = b by omega] at h
theorem qdc {p q : Int × Int} (h : above p q = true) : above q p = false := by
 unfold above at *
 rw [decide_eq_true_eq] at h
 rw [decide_eq_false_iff_not]
 omega
theorem qen {p q r : Int × Int} (hp : 0 < p.2) (hq : 0 < q.2) (hr : 0 < r.2) (h1 : above p q = true) (h2 : above r q = false) : above p r = true := by
 cases h : above p r with
 | true => rfl
 | false =>
   have h3 := Yv hp hr hq h h2
   rw [h3] at h1
   cases h1
structure BestP (B : Bk) (h k : Nat) (r : Int × (Int × Int)) : Prop where
 none : r.1 = -1 → r.2 = (0, 1) ∧ ∀ j g, j < k → B.gs[j]? = some g → g.trunks = 7
 some : r.1 ≠ -1 → ∃ i g, i < k ∧ r.1 = (i : Int) ∧ B.gs[i]? = some g ∧ g.trunks ≠ 7 ∧ r.2 = qY g h ∧
  ∀ j g', j < k → B.gs[j]? = some g' → g'.trunks ≠ 7 → above (qY g' h) r.2 = false ∧ (j < i → above r.2 (qY g' h) = true)
theorem jR {B : Bk} (hV : Valid B) {h : Nat} (hh : (h : Int) < B.hours) {j : Nat} {g : Grp} (hg : B.gs[j]? = some g) (h7 : g.trunks ≠ 7) : 0 < (qY g h).2 := by
 have hG := hV.grp g (List.mem_of_getElem? hg)
 have hl : h < g.traffic.length := by have := hG.len; omega
 have ht := hG.traf g.traffic[h] (List.getElem_mem _)
 have hd : g.traffic.getD h (0, 1) = g.traffic[h] := by rw [List.getD_eq_getElem?_getD, List.getElem?_eq_getElem hl]; rfl
 obtain ⟨k1, k2, k3, k4⟩ := xE ht.1.1 ht.1.2 ht.2.1 ht.2.2
 have t7 := hG.tr7
 have t0 := hG.tr0
 unfold qY
 rw [hd]
 have := (jv k1 k2 k3 k4 (T := g.trunks.toNat) (by omega)).2.2.1
 omega
theorem qbg {B : Bk} (hV : Valid B) {h : Nat} (hh : (h : Int) < B.hours) : ∀ k, k ≤ B.gs.length → BestP B h k (qP B h k)
 | 0, _ => ⟨fun _ => ⟨rfl, fun j g hj => absurd hj (Nat.not_lt_zero _)⟩, fun e => absurd rfl e⟩
 | k + 1, hk => by
   have ih := qbg hV hh k (by omega)
   obtain ⟨g, hg⟩ : ∃ g, B.gs[k]? = some g := ⟨B.gs[k]'(by omega), List.getElem?_eq_getElem (by omega)⟩
   simp only [qP, hg]
   have last : ∀ {j : Nat} {g' : Grp}, j < k + 1 → B.gs[j]? = some g' → (j < k ∧ B.gs[j]? = some g') ∨ (j = k ∧ g' = g) := fun hj hg' => by
    rcases Nat.lt_succ_iff_lt_or_eq.1 hj with q | rfl
    ·exact .inl ⟨q, hg'⟩
    ·rw [hg] at hg'; cases hg'; exact .inr ⟨rfl, rfl⟩
   by_cases h7 : g.trunks = 7
   ·rw [if_pos h7]
    refine ⟨fun e => ⟨(ih.none e).1, fun j g' hj hg' => ?_⟩, fun e => ?_⟩
    ·rcases last hj hg' with ⟨q, hq⟩ | ⟨rfl, rfl⟩
     ·exact (ih.none e).2 j g' q hq
     ·exact h7
    ·obtain ⟨i, gi, hi, e1, hgi, n7, e2, hall⟩ := ih.some e
     refine ⟨i, gi, by omega, e1, hgi, n7, e2, fun j g' hj hg' n7' => ?_⟩
     rcases last hj hg' with ⟨q, hq⟩ | ⟨rfl, rfl⟩
     ·exact hall j g' q hq n7'
     ·exact absurd h7 n7'
   ·rw [if_neg h7]
    have pk := jR hV hh hg h7
    by_cases hc : (qP B h k).1 = -1 ∨ above (qY g h) (qP B h k).2 = true
    ·rw [if_pos hc]
     refine ⟨fun e => absurd e (by simp only; omega), fun _ => ⟨k, g, Nat.lt_succ_self k, rfl, hg, h7, rfl, fun j g' hj hg' n7' => ?_⟩⟩
     simp only
     rcases last hj hg' with ⟨q, hq⟩ | ⟨rfl, rfl⟩
     ·by_cases e : (qP B h k).1 = -1
      ·exact absurd ((ih.none e).2 j g' q hq) n7'
      ·obtain ⟨i, gi, hi, e1, hgi, n7, e2, hall⟩ := ih.some e
       have ha := hc.resolve_left e
       have pj := jR hV hh hq n7'
       have pi := jR hV hh hgi n7
       rw [← e2] at pi
       have h1 := (hall j g' q hq n7').1
       have h2 := qen pk pi pj ha h1
       exact ⟨qdc h2, fun _ => h2⟩
     ·refine ⟨?_, fun q => absurd q (Nat.lt_irrefl _)⟩
      unfold above
      rw [decide_eq_false_iff_not]
      omega
    ·rw [if_neg hc]
     have hn : (qP B h k).1 ≠ -1 := fun e => hc (.inl e)
     refine ⟨fun e => absurd e hn, fun e => ?_⟩
     obtain ⟨i, gi, hi, e1, hgi, n7, e2, hall⟩ := ih.some e
     refine ⟨i, gi, by omega, e1, hgi, n7, e2, fun j g' hj hg' n7' => ?_⟩
     rcases last hj hg' with ⟨q, hq⟩ | ⟨rfl, rfl⟩
     ·exact hall j g' q hq n7'
     ·refine ⟨?_, fun q => by omega⟩
      cases hx : above (qY g' h) (qP B h j).2 with
      | false => rfl
      | true => exact absurd (.inr hx) hc
theorem qcC {B : Bk} (hV : Valid B) {h : Nat} (hh : (h : Int) < B.hours) {j : Nat} {g : Grp} (hg : B.gs[j]? = some g) (h7 : g.trunks ≠ 7) : qag (qY g h) = true ∧ 0 ≤ (qY g h).1 ∧ (qY g h).1 < 4611686018427387904 ∧ 1 ≤ (qY g h).2 ∧ (qY g h).2 < 4611686018427387904 := by
 have hG := hV.grp g (List.mem_of_getElem? hg)
 have hl : h < g.traffic.length := by have := hG.len; omega
 have ht := hG.traf g.traffic[h] (List.getElem_mem _)
 have hd : g.traffic.getD h (0, 1) = g.traffic[h] := by rw [List.getD_eq_getElem?_getD, List.getElem?_eq_getElem hl]; rfl
 obtain ⟨k1, k2, k3, k4⟩ := xE ht.1.1 ht.1.2 ht.2.1 ht.2.2
 have t7 := hG.tr7
 have t0 := hG.tr0
 have hb := jv k1 k2 k3 k4 (T := g.trunks.toNat) (by omega)
 unfold qY
 rw [hd]
 refine ⟨?_, hb⟩
 generalize g.traffic[h] = x at *
 obtain ⟨x1, x2⟩ := x
 obtain ⟨⟨a1, a2⟩, a3, a4⟩ := ht
 obtain ⟨t, rfl⟩ := Int.eq_ofNat_of_zero_le a1
 obtain ⟨c, rfl⟩ := Int.eq_ofNat_of_zero_le (show 0 ≤ x2 by simp only at a3; omega)
 simp only at a2 a3 a4
 have hf := qdP (t := t) (b := c) (n := g.trunks.toNat) (by omega) ⟨by omega, by omega⟩ (by omega)
 unfold saveB at hf
 simp only [Bool.and_eq_true, decide_eq_true_eq, Bool.not_eq_true', beq_iff_eq] at hf
 rw [← hf.1.2]
 exact hf.2
def Yo (B : Bk) (ga : Option Addr) (gc : Nat) : Bk := { B with gs := B.gs.reverse, ga := ga, gc := gc }
theorem qbF {B : Bk} (hc : checkN B = 0) {i j : Nat} {g o : Grp} (hij : i < j) (hg : B.gs[i]? = some g) (ho : B.gs[j]? = some o) : (g.name.toList == o.name.toList) = false := by
 have h := (yT (QC hc j o ho)).2
 rw [List.any_eq_false] at h
 have := h g (List.mem_of_getElem? (i := i) (by rw [List.getElem?_take, if_pos hij]; exact hg))
 simpa using this
theorem qbR {l : List Grp} {i : Nat} {g : Grp} (h : l.reverse[i]? = some g) : i < l.length ∧ l[l.length - 1 - i]? = some g := by
 have hi := (List.getElem?_eq_some_iff.1 h).1
 rw [List.length_reverse] at hi
 rw [List.getElem?_reverse hi] at h
 exact ⟨hi, h⟩
theorem qaa {B : Bk} (hc : checkN B = 0) (ga : Option Addr) (gc : Nat) : checkN (Yo B ga gc) = 0 := by
 have hV := qp hc
 refine qcs hV.num (by show 1 ≤ B.gs.reverse.length; rw [List.length_reverse]; exact hV.len1) (by show B.gs.reverse.length ≤ 4; rw [List.length_reverse]; exact hV.len4) fun i g hg => ?_
 obtain ⟨hi, hg'⟩ := qbR hg
 refine qbx (yT (QC hc _ g hg')).1 ?_
 rw [List.any_eq_false]
 intro o ho
 obtain ⟨j, hj, e⟩ := List.getElem_of_mem ho
 rw [List.length_take] at hj
 have ho' : (Yo B ga gc).gs[j]? = some o := by
  rw [List.getElem_take] at e
  rw [← e]
  exact List.getElem?_eq_getElem _
 obtain ⟨hj2, ho2⟩ := qbR ho'
 have := qbF hc (show B.gs.length - 1 - i < B.gs.length - 1 - j by omega) hg' ho2
 rw [beq_eq_false_iff_ne] at this
 simpa using fun h => this h.symm
theorem qfF (B : Bk) (ga : Option Addr) (gc : Nat) : ja (Yo B ga gc) = (ja B).reverse := by
 unfold ja
 rw [← List.map_reverse]
 rfl
theorem qgu : ∀ (a b : List Int), (a ++ b).sum = a.sum + b.sum
 | [], b => by simp
 | x :: a, b => by rw [List.cons_append, List.sum_cons, List.sum_cons, qgu a b]; omega
theorem qgv : ∀ (l : List Int), l.reverse.sum = l.sum
 | [] => rfl
 | x :: l => by rw [List.reverse_cons, qgu, qgv l, List.sum_cons, List.sum_cons, List.sum_nil]; omega
theorem sumN_rev (B : Bk) (ga : Option Addr) (gc h : Nat) : qcb (Yo B ga gc) h (Yo B ga gc).gs.length = qcb B h B.gs.length := by
 unfold qcb
 rw [List.take_length, List.take_length]
 show ((B.gs.reverse).map _).sum = _
 rw [List.map_reverse, qgv]
theorem qeP {p q : Int × Int} (hp : qag p = true) (hq : qag q = true) (p1 : 0 ≤ p.1) (p2 : 1 ≤ p.2) (q1 : 0 ≤ q.1) (q2 : 1 ≤ q.2) (h1 : above p q = false) (h2 : above q p = false) : p = q := by
 obtain ⟨a, b⟩ := p
 obtain ⟨c, d⟩ := q
 simp only at p1 p2 q1 q2
 obtain ⟨a, rfl⟩ := Int.eq_ofNat_of_zero_le p1
 obtain ⟨b, rfl⟩ := Int.eq_ofNat_of_zero_le (show 0 ≤ b by omega)
 obtain ⟨c, rfl⟩ := Int.eq_ofNat_of_zero_le q1
 obtain ⟨d, rfl⟩ := Int.eq_ofNat_of_zero_le (show 0 ≤ d by omega)
 rw [qaD] at h1 h2
 simp only at h1 h2
 have hx : a * d = c * b := by exact_mod_cast (show (a : Int) * d = c * b by omega)
 have cop : ∀ {a b : Nat}, 1 ≤ b → qag ((a : Int), (b : Int)) = true → Nat.gcd a b = 1 := fun {a b} hb h => by
  unfold qag redN at h
  simp only [beq_iff_eq, Prod.mk.injEq, Int.toNat_natCast] at h
  have h2 : b = b / Nat.gcd a b := by exact_mod_cast h.2
  have hg := Nat.gcd_pos_of_pos_right a (show 0 < b by omega)
  rcases Nat.lt_or_ge 1 (Nat.gcd a b) with h3 | h3
  ·have := Nat.div_lt_self (show 0 < b by omega) h3
   omega
  ·omega
 have k1 := cop (by omega) hp
 have k2 := cop (by omega) hq
 have d1 : b ∣ d := Nat.Coprime.dvd_of_dvd_mul_left (show Nat.Coprime b a by rw [Nat.coprime_iff_gcd_eq_one, Nat.gcd_comm]; exact k1) ⟨c, by rw [hx, Nat.mul_comm]⟩
 have d2 : d ∣ b := Nat.Coprime.dvd_of_dvd_mul_left (show Nat.Coprime d c by rw [Nat.coprime_iff_gcd_eq_one, Nat.gcd_comm]; exact k2) ⟨a, by rw [← hx, Nat.mul_comm]⟩
 have e := Nat.dvd_antisymm d1 d2
 subst e
 have := Nat.eq_of_mul_eq_mul_right (show 0 < b by omega) hx
 subst this
 rfl
theorem Jr {B : Bk} {ga : Option Addr} {gc i : Nat} {g : Grp} (h : (Yo B ga gc).gs[i]? = some g) : ∃ j, j < B.gs.length ∧ B.gs[j]? = some g := by
 obtain ⟨hi, h⟩ := qbR h
 exact ⟨_, by omega, h⟩
theorem qgb {B : Bk} {ga : Option Addr} {gc i : Nat} {g : Grp} (h : B.gs[i]? = some g) : ∃ j, j < B.gs.length ∧ (Yo B ga gc).gs[j]? = some g := by
 have hi := (List.getElem?_eq_some_iff.1 h).1
 refine ⟨B.gs.length - 1 - i, by omega, ?_⟩
 show B.gs.reverse[_]? = _
 rw [List.getElem?_reverse (by omega), show B.gs.length - 1 - (B.gs.length - 1 - i) = i by omega, h]
theorem best_rev {B : Bk} (hc : checkN B = 0) (ga : Option Addr) (gc : Nat) {h : Nat} (hh : (h : Int) < B.hours) : (qP (Yo B ga gc) h (Yo B ga gc).gs.length).2 = (qP B h B.gs.length).2 := by
 have hV := qp hc
 have hV' := qp (qaa hc ga gc)
 have hl : (Yo B ga gc).gs.length = B.gs.length := List.length_reverse
 have P := qbg hV hh B.gs.length (Nat.le_refl _)
 have P' := qbg hV' (h := h) hh (Yo B ga gc).gs.length (Nat.le_refl _)
 rw [hl] at P' ⊢
 generalize qP (Yo B ga gc) h B.gs.length = r' at *
 generalize qP B h B.gs.length = r at *
 by_cases e : r.1 = -1
 ·obtain ⟨e2, hall⟩ := P.none e
  by_cases e' : r'.1 = -1
  ·rw [(P'.none e').1, e2]
  ·obtain ⟨i, g, hi, _, hg, n7, _⟩ := P'.some e'
   obtain ⟨j, hj, hgj⟩ := Jr hg
   exact absurd (hall j g hj hgj) n7
 ·obtain ⟨i, g, hi, _, hg, n7, e2, hall⟩ := P.some e
  obtain ⟨j, hj, hgj⟩ := qgb (ga := ga) (gc := gc) hg
  by_cases e' : r'.1 = -1
  ·exact absurd ((P'.none e').2 j g hj hgj) n7
  ·obtain ⟨i', g', hi', _, hg', n7', e2', hall'⟩ := P'.some e'
   obtain ⟨j', hj', hgj'⟩ := Jr hg'
   have h1 := (hall j' g' hj' hgj' n7').1
   have h2 := (hall' j g hj hgj n7).1
   rw [← e2'] at h1
   rw [← e2] at h2
   obtain ⟨f1, a1, _, a2, _⟩ := qcC hV hh hg n7
   obtain ⟨f2, b1, _, b2, _⟩ := qcC hV hh hgj' n7'
   rw [← e2] at f1 a1 a2
   rw [← e2'] at f2 b1 b2
   exact qeP f2 f1 b1 b2 a1 a2 h1 h2
theorem year_rev (B : Bk) (ga : Option Addr) (gc : Nat) : (qB B 7 0 = none ∧ qB (Yo B ga gc) 7 0 = none) ∨ ∃ y k i, qB B 7 0 = some (y, k) ∧ qB (Yo B ga gc) 7 0 = some (y, i) := by
 cases h : qB B 7 0 with
 | none =>
   cases h2 : qB (Yo B ga gc) 7 0 with
   | none => exact .inl ⟨rfl, rfl⟩
   | some p =>
     obtain ⟨z, i⟩ := p
     obtain ⟨a, ⟨g, hg, hb⟩, _⟩ := zZ h2
     obtain ⟨j, _, hj⟩ := Jr hg
     have := Qc h z a g (List.mem_of_getElem? hj)
     rw [show Zn (Yo B ga gc) z g = Zn B z g from rfl, this] at hb
     cases hb
 | some p =>
   obtain ⟨y, k⟩ := p
   obtain ⟨a, ⟨g, hg, hb⟩, _, hlow⟩ := zZ h
   obtain ⟨j, _, hj⟩ := qgb (ga := ga) (gc := gc) hg
   cases h2 : qB (Yo B ga gc) 7 0 with
   | none =>
     have := Qc h2 y a g (List.mem_of_getElem? hj)
     rw [show Zn (Yo B ga gc) y g = Zn B y g from rfl, hb] at this
     cases this
   | some p =>
     obtain ⟨z, i⟩ := p
     obtain ⟨a', ⟨g', hg', hb'⟩, _, hlow'⟩ := zZ h2
     obtain ⟨j', _, hj'⟩ := Jr hg'
     right
     refine ⟨y, k, i, rfl, ?_⟩
     rcases Nat.lt_trichotomy y z with e | e | e
     ·have := hlow' y e g (List.mem_of_getElem? hj)
      rw [show Zn (Yo B ga gc) y g = Zn B y g from rfl, hb] at this
      cases this
     ·rw [e]
     ·have := hlow z e g' (List.mem_of_getElem? hj')
      rw [show Zn (Yo B ga gc) z g' = Zn B z g' from rfl, this] at hb'
      cases hb'
end Go.Proofs.Tryz
section
namespace Go.Proofs.Tryz
open Go Go.Load Go.RowKit
open Go.Proofs.YtnppdbdkjooocaaGreatDoor (BookIn)
theorem s4 : qf.funcs[4]? = some f4 := by kernel_rfl
theorem info_gr : (Tryz.prog.info? 43).map (fun i => (i.zero, i.size, i.bytes)) = some (some (.agg #[.string ⟨#[]⟩, .int .i64 0, .slice none 0 0]), 3, 48) := by kernel_rfl
structure AO (W wr : World) (v0 v1 v2 v3 v : Value) (gs : List Grp) (k : Nat) : Prop where
 bw : Below W.heap.size W wr
 five : Five wr W.heap.size v0 v1 v2 v3 v
 own : wr.ownsRow (W.heap.size + 1) 43 3 v k (qH (gs.reverse.take k))
theorem AO.row {W wr : World} {v0 v1 v2 v3 v : Value} {gs : List Grp} (h : AO W wr v0 v1 v2 v3 v gs gs.length) (h1 : 1 ≤ gs.length) : ∃ g cap, v = .slice (some ⟨g, 0, none⟩) gs.length cap ∧ gs.length ≤ cap ∧ zo wr g 0 gs.reverse := by
 have ho := h.own
 rw [List.take_of_length_le (by simp)] at ho
 obtain ⟨_, ⟨_, h2⟩ | ⟨g, cap, cur, rfl, _, hg, hc, _, _, ht⟩⟩ := ho
 ·omega
 ·refine ⟨g, cap, rfl, hc, fun i x hx => ?_⟩
  obtain ⟨a0, a1, a2⟩ := zk gs.reverse i x hx
  have get : ∀ (j : Nat) (u : Value), (qH gs.reverse)[j]? = some u → wr.cell? ⟨g, 0 + j, none⟩ = some u := fun j u hu => by
   rw [← ht, List.getElem?_take] at hu
   split at hu
   ·have hu' : cur[j]? = some u := by simpa using hu
    rw [Nat.zero_add]
    unfold World.cell?
    rw [hg]
    simp [hu']
   ·cases hu
  exact ⟨get _ _ a0, get _ _ a1, get _ _ a2⟩
theorem AO.start (W : World) (v0 v1 v2 v3 : Value) (ty : TypeId) (gs : List Grp) : AO W (W.alloc (.cells #[v0, v1, v2, v3, .slice none 0 0] ty)) v0 v1 v2 v3 (.slice none 0 0) gs 0 :=
 ⟨(Below.refl _ W).alloc (Nat.le_refl _) _, Five.new W v0 v1 v2 v3 _ ty, by rw [List.take_zero]; exact World.ownsRow_nil _ _ _ _⟩
theorem grownBy_set (w : World) (p : Addr) (u : Value) : w.grownBy (w.setCell p u) (some p.block) :=
 ⟨rfl, rfl, rfl, by simp [World.setCell], fun k _ hne => Below.heap_setCell _ _ _ _ (by rintro rfl; exact hne rfl)⟩
theorem AO.step {W wr w1 w2 : World} {v0 v1 v2 v3 v u : Value} {gs : List Grp} {k : Nat} {g : Grp} (h : AO W wr v0 v1 v2 v3 v gs k) (hg : gs.reverse[k]? = some g) (hB : Below wr.heap.size wr w1) (hgrow : w1.grownBy w2 v.ownBlock)
 (hown : w2.ownsRow (W.heap.size + 1) 43 3 u (k + 1) (qH (gs.reverse.take k) ++ [.string g.name, .int .i64 g.trunks, .slice g.ta g.traffic.length g.tc])) : AO W (w2.setCell ⟨W.heap.size, 4, none⟩ u) v0 v1 v2 v3 u gs (k + 1) := by
 have hl := h.own.lt
 have hu := hown.lt
 have hne : some W.heap.size ≠ v.ownBlock := fun e => by have := (hl _ e.symm).1; omega
 obtain ⟨⟨a0, a1, a2, a3, a4⟩, ⟨f0, f1, f2, f3, f4⟩⟩ := h.five.keep hB
 have hlt : W.heap.size < w1.heap.size := lt_of_cell a0
 have fz : ∀ (i : Nat), w1.frozen? ⟨W.heap.size, i, none⟩ = false → w2.frozen? ⟨W.heap.size, i, none⟩ = false := fun i hf => by rw [hgrow.frozen_far ⟨W.heap.size, i, none⟩ hlt hne]; exact hf
 have b4 := hgrow.cell a4 hne
 refine ⟨?_, ⟨⟨qc (by simp) (hgrow.cell a0 hne), qc (by simp) (hgrow.cell a1 hne), qc (by simp) (hgrow.cell a2 hne), qc (by simp) (hgrow.cell a3 hne), qW (qy b4)⟩, ⟨by simpa using fz 0 f0, by simpa using fz 1 f1, by simpa using fz 2 f2, by simpa using fz 3 f3, by simpa using fz 4 f4⟩⟩, ?_⟩
 ·exact ((Below.call h.bw hB (Nat.le_refl _)).grown hgrow (by omega) (fun j hj => by have := (hl j hj).1; omega)).setCell (Nat.le_refl _) _
 ·have e : qH (gs.reverse.take (k + 1)) = qH (gs.reverse.take k) ++ [.string g.name, .int .i64 g.trunks, .slice g.ta g.traffic.length g.tc] := by
   obtain ⟨hk, hg'⟩ := List.getElem?_eq_some_iff.1 hg
   rw [List.take_succ_eq_append_getElem hk, hg']
   unfold qH
   rw [List.flatMap_append]
   rfl
  rw [e]
  exact hown.kept (grownBy_set _ _ _) (by
   cases hb : u.ownBlock with
   | none => exact .inl rfl
   | some j => right; intro e; have := (hu j hb).1; have e2 : j = W.heap.size := Option.some.inj e; omega)
theorem AO.hold {W wr w1 w2 : World} {v0 v1 v2 v3 v : Value} {gs : List Grp} {k : Nat} (h : AO W wr v0 v1 v2 v3 v gs k) (hB : Below wr.heap.size wr w1) (hgrow : w1.grownBy w2 v.ownBlock) : w2.cell? ⟨W.heap.size, 4, none⟩ = some v ∧ w2.frozen? ⟨W.heap.size, 4, none⟩ = false := by
 have hne : some W.heap.size ≠ v.ownBlock := fun e => by have := (h.own.lt _ e.symm).1; omega
 have hF := h.five.keep hB
 have hlt : W.heap.size < w1.heap.size := lt_of_cell hF.c.1
 exact ⟨hgrow.cell hF.c.2.2.2.2 hne, by rw [hgrow.frozen_far ⟨W.heap.size, 4, none⟩ hlt hne]; exact hF.f.2.2.2.2⟩
theorem JP {B : Bk} (w : World) (h : BookAt w B) (hG : Globs w) (hfl : ∀ g ∈ B.gs, 1 ≤ g.traffic.length) (hcp : ∀ g ∈ B.gs, g.traffic.length ≤ g.tc) (hc : checkN B = 0) :
 Calls qf 13 #[bv B] w fun e w' => ∃ a c, e = .returned (.tuple #[.slice a B.gs.length c, .int .i64 0]) ∧ yf w' (.slice a B.gs.length c) (ja B) ∧ Below w.heap.size w w' :=
 (qck B w h hG (qp hc).len1 hfl hcp hc).mono fun e w' k => by
   obtain ⟨v, rfl, ⟨a, c, rfl, hi⟩, hB⟩ := k
   have e : (ja B).length = B.gs.length := by simp [ja]
   rw [e] at hi ⊢
   exact ⟨a, c, rfl, ⟨a, c, by rw [e], by rw [e]; exact hi⟩, hB⟩
theorem rev_book {w : World} {B : Bk} (h : BookAt w B) {g cap : Nat} (hc : B.gs.length ≤ cap) (hr : zo w g 0 B.gs.reverse) : BookAt w (Yo B (some ⟨g, 0, none⟩) cap) :=
 ⟨fun _ => ⟨g, 0, rfl, hr⟩, fun x hx => h.traf x (List.mem_reverse.1 hx), ⟨by show B.gs.reverse.length ≤ 20; rw [List.length_reverse]; exact h.small.1, fun x hx => h.small.2 x (List.mem_reverse.1 hx)⟩, by show B.gs.reverse.length ≤ cap; rw [List.length_reverse]; exact hc⟩
theorem KSt.more {w W : World} {l : List (Addr × Value)} {p : Addr} {v : Value} (h : KSt w W l) (hc : W.cell? p = some v) : KSt w W ((p, v) :: l) := ⟨fun q hq => by
 rcases List.mem_cons.1 hq with rfl | hq
 ·exact hc
 ·exact h.cs q hq, h.gl, h.bw⟩
theorem KSt.fresh {w W : World} {l : List (Addr × Value)} (h : KSt w W l) : KSt W W l := ⟨h.cs, h.gl, Below.refl _ _⟩
theorem rev_at {l : List Int} {k m : Nat} (h : k + 1 + m = l.length) : l.reverse[m]? = l[k]? := by
 rw [List.getElem?_reverse (by omega), show l.length - 1 - m = k by omega]
theorem ints_two {w : World} {a1 a2 : Option Addr} {n c1 c2 : Nat} {L : List Int} (hl : L.length = n) (h1 : yf w (.slice a1 n c1) L) (h2 : yf w (.slice a2 n c2) L.reverse) (hn : 1 ≤ n) : ∃ b1 b2, a1 = some ⟨b1, 0, none⟩ ∧ a2 = some ⟨b2, 0, none⟩ ∧ ∀ k m, k + 1 + m = n → ∃ x, w.cell? ⟨b1, k, none⟩ = some (.int .i64 x) ∧ w.cell? ⟨b2, m, none⟩ = some (.int .i64 x) := by
 obtain ⟨a, c, e, h1⟩ := h1
 obtain ⟨a', c', e', h2⟩ := h2
 simp only [Value.slice.injEq] at e e'
 obtain ⟨rfl, _, _⟩ := e
 obtain ⟨rfl, _, _⟩ := e'
 obtain ⟨b1, e1, g1⟩ := h1 (by omega)
 obtain ⟨b2, e2, g2⟩ := h2 (by rw [List.length_reverse]; omega)
 refine ⟨b1, b2, e1, e2, fun k m hkm => ?_⟩
 obtain ⟨x, hx⟩ : ∃ x, L[k]? = some x := ⟨L[k]'(by omega), List.getElem?_eq_getElem _⟩
 exact ⟨x, g1 k x hx, g2 m x (by rw [rev_at (k := k) (by omega), hx])⟩
set_option maxHeartbeats 8000000 in
set_option maxRecDepth 100000 in
theorem ZY (HL : ∀ W, Globs W → Calls qf 6 #[] W fun e w' => e = .returned (.bool true) ∧ Below W.heap.size W w') (B : Bk) (hour : Int) (hh : 0 ≤ hour ∧ hour ≤ 255) (w : World) (hG : Globs w) (hB : BookIn w B) (hc : B.gs.length ≤ B.gc) (hcp : ∀ g ∈ B.gs, g.traffic.length ≤ g.tc) (hf : fitB B = true) :
 Calls qf 4 #[bv B, .int .u8 hour] w fun e w' => e = .returned (.bool true) ∧ Below w.heap.size w w' := by
 obtain ⟨i0, hi, iz0, iz1, iz2⟩ := info_parts info_gr
 have hi := (yV 43).trans hi
 have hfi := fun W (h : Below w.heap.size w W) => XU B W (hB.keep h) hc
 obtain ⟨hmo, hck, hV⟩ := qeS hf
 simp only [hf] at hfi
 have hat := hB.at (ZB hmo) hc
 have hl1 := hV.len1
 have hl4 := hV.len4
 have hr1 := hV.num.2.2
 have hfl : ∀ g ∈ B.gs, 1 ≤ g.traffic.length := fun g hg => by have := (hV.grp g hg).len; omega
 have ww1 : IntKind.i64.wrap hour = hour := by rw [IntKind.wrap_i64]; omega
 have e7 : hour.tmod B.hours = hour % B.hours := Int.tmod_eq_emod_of_nonneg hh.1
 obtain ⟨hN, eh, hlt⟩ : ∃ hN : Nat, hour.tmod B.hours = hN ∧ (hN : Int) < B.hours := by
  have h1 := Int.emod_nonneg hour (show B.hours ≠ 0 by omega)
  have h2 := Int.emod_lt_of_pos hour (show 0 < B.hours by omega)
  exact ⟨(hour % B.hours).toNat, by omega, by omega⟩
 have n1 : ¬ B.hours = 0 := by omega
 have hbw : btw (hN : Int) 0 (wrap64 (B.hours - 1)) = true := by rw [Qh hck, xm]; omega
 have hrow := hB.row hl1
 have HAT := Lib.hid hat
 have HG := Lib.hid hG
 have HCK := Lib.hid hck
 have HFL := Lib.hid hfl
 have HCP := Lib.hid hcp
 have HV := Lib.hid hV
 have HBW := Lib.hid hbw
 have HLT := Lib.hid hlt
 clear hat hf hmo hc hB hV hck hfl hcp e7 hbw hlt
 obtain ⟨b, o, hga, hcs⟩ := hrow
 have HC := Lib.hid hcs
 clear hcs
 obtain ⟨lim, gr, hr, gs, ga, gc⟩ := B
 simp only [bv] at *
 subst hga
 go_enter s4, ntmps4
 go_upto_region 3 with (go_at_call 5; (with_reducible refine (hfi _ (by go_grown)).mono ?_); rintro e w1 ⟨rfl, hB1⟩; (first | (replace hB := Below.call (by with_reducible assumption) hB1 (Nat.le_refl _)) | (replace hB := Below.call (by go_grown) hB1 (Nat.le_refl _)) | (have hB := hB1)); (try clear hc hg hz); obtain ⟨hc, hg⟩ := qC hB; have hz := hB.size; clear hB1; (try simp at hz); (try have hlt0 : w.heap.size < w1.heap.size := by omega))
 obtain ⟨wz, hwz⟩ : ∃ wz, wz = w.heap.size := ⟨_, rfl⟩
 have h : KSt w w1 [(⟨wz, 0, none⟩, .int .i64 lim.1), (⟨wz, 1, none⟩, .int .i64 lim.2), (⟨wz, 2, none⟩, .int .i64 gr), (⟨wz, 3, none⟩, .int .i64 hr), (⟨wz, 4, none⟩, .slice (some ⟨b, o, none⟩) gs.length gc)] := by
  have hBW : Below w.heap.size w w1 := Below.call (B := w.heap.size) (by go_grown) hB (Nat.le_refl _)
  refine ⟨fun p hp => ?_, HG.out.keep hBW, hBW⟩
  simp only [List.mem_cons, List.not_mem_nil, or_false] at hp
  rcases hp with rfl | rfl | rfl | rfl | rfl <;> (rw [hwz]; go_cell)
 obtain ⟨⟨q0, q1, q2, q3, q4⟩, _⟩ := h.c5
 have qz := lt_of_cell q0
 rw [← hwz]
 clear hc hg hB hz hwz hfi
 go_cut [5, 6] from 36 to 43 (fun s5 s6 wx => s5 = .int .i64 gs.length ∧ s6 = .int .i64 hN ∧ Below w1.heap.size w1 wx)
 case first =>
  clear q0 q1 q2
  go_region
  all_goals (go_wp2_with fail; go_meet; exact ⟨rfl, rfl, (Below.refl _ _).drew⟩)
 case rest =>
  obtain ⟨rfl, rfl, hB⟩ := hcut
  obtain ⟨WC, rfl⟩ : ∃ W, W = wc := ⟨_, rfl⟩
  replace h := h.call hB
  clear q0 q1 q2 q3 q4; clear hB; obtain ⟨⟨q0, q1, q2, q3, q4⟩, _⟩ := h.c5; have qz := lt_of_cell q0
  have ww4 : IntKind.i64.wrap ((gs.length : Int) - 1) = (gs.length : Int) - 1 := by rw [IntKind.wrap_i64]; omega
  go_wp2
  have hA0 := AO.start WC (.int .i64 lim.1) (.int .i64 lim.2) (.int .i64 gr) (.int .i64 hr) 26 gs
  go_loopw [8] (fun i wr => ∃ (k : Nat) (v : Value), i = .int .i64 ((gs.length : Int) - 1 - k) ∧ k ≤ gs.length ∧ AO WC wr (.int .i64 lim.1) (.int .i64 lim.2) (.int .i64 gr) (.int .i64 hr) v gs k) (fun i _ => (intOf i + 1).toNat)
  case atStart => exact ⟨0, _, by simp, Nat.zero_le _, hA0⟩
  case round =>
   obtain ⟨k, v, rfl, hk, hA⟩ := hrel
   by_cases hlt : k < gs.length
   ·obtain ⟨j, ej, ej2⟩ : ∃ j : Nat, (gs.length : Int) - 1 - k = (j : Int) ∧ j + 1 + k = gs.length := ⟨gs.length - 1 - k, by omega, by omega⟩
    obtain ⟨g, hg⟩ : ∃ g, gs[j]? = some g := ⟨gs[j]'(by omega), List.getElem?_eq_getElem _⟩
    have hrg : gs.reverse[k]? = some g := by rw [List.getElem?_reverse (by omega), show gs.length - 1 - k = j by omega, hg]
    obtain ⟨c0, c1, c2⟩ := HC.out j g hg
    have c0 := qb _ hA.bw (qb _ h.bw c0)
    have c1 := qb _ hA.bw (qb _ h.bw c1)
    have c2 := qb _ hA.bw (qb _ h.bw c2)
    have p4 := qb _ hA.bw q4
    have a4 := hA.five.c.2.2.2.2
    have f4 := hA.five.f.2.2.2.2
    have j0 : (0 : Int) ≤ (j : Int) := Int.natCast_nonneg j
    have j1 : (j : Int) < (gs.length : Int) := by omega
    have hS := Lib.hid hA
    have HRG := Lib.hid hrg
    have hown := hA.own
    have hcl : WC.heap.size + 1 ≤ wr.heap.size := Nat.succ_le_of_lt (lt_of_cell a4)
    rw [ej]
    have ww5 : IntKind.i64.wrap ((j : Int) - 1) = (j : Int) - 1 := by rw [IntKind.wrap_i64]; omega
    clear hA hg hrg q0 q1 q2 q3
    go_upto_block 1 with fail
    go_cut [] from 52 to 61 (fun wx => ∃ v', AO WC wx (.int .i64 lim.1) (.int .i64 lim.2) (.int .i64 gr) (.int .i64 hr) v' gs (k + 1))
    case first =>
     go_wp2_with fail
     have hcl2 : WC.heap.size < wr.heap.size := hcl
     have a4n := qb _ ((Below.refl _ wr).alloc (Nat.le_refl _) (.cells #[.string g.name, .int .i64 g.trunks, .slice g.ta g.traffic.length g.tc] 43)) a4
     go_region_law ((refine step_append_lies _ (by rfl) (.tmp 53) (.tmp 59) 24 (by rfl) (WC.heap.size + 1) 43 i0 _ 3 48 ((zn _).trans Tryz.underlying24) hi iz0 iz1 iz2 rfl (by omega) v k (qH (gs.reverse.take k)) (by rfl) ((hown.alloc _).drew) ⟨wr.heap.size, 0, none⟩ 1 1 [.string g.name, .int .i64 g.trunks, .slice g.ta g.traffic.length g.tc] (by rfl) (by rfl) (World.news_of_block (cs := #[.string g.name, .int .i64 g.trunks, .slice g.ta g.traffic.length g.tc]) (t := 43) (fr := (0, 0)) (heap_alloc_new wr _)) (by simp [Value.oneCell']) (by omega) (by unfold maxLen; omega) (by omega) (by simp; omega) (wr.heap.size + 1) (by simp) ?_; intro gg cap w3 hown1 hgrow hat hlt3; obtain ⟨a5, f5⟩ := hS.out.hold (((Below.refl _ wr).alloc (Nat.le_refl _) _).drew) hgrow))
     all_goals (go_wp2_with fail; go_meet; exact ⟨_, hS.out.step HRG.out (((Below.refl _ wr).alloc (Nat.le_refl _) _).drew) hgrow hown1⟩)
    case rest =>
     obtain ⟨v', hA'⟩ := hcut
     go_wp2
     go_roundw
     case rel => exact ⟨k + 1, v', by first | (congr 1; done) | (congr 1; omega), by omega, hA'⟩
     case measure => (simp [intOf]; try omega)
   ·obtain rfl : k = gs.length := by omega
    have em : (gs.length : Int) - 1 - (gs.length : Nat) = -1 := by omega
    obtain ⟨g, cap, rfl, hcap, hcs⟩ := hA.row hl1
    have hB0 : Below w.heap.size w wr := Below.call h.bw hA.bw (Nat.le_refl _)
    have hb1 := HAT.out.keep hB0
    have hb2 := rev_book hb1 hcap hcs
    have hck2 := qaa HCK.out (some ⟨g, 0, none⟩) cap
    have hn1 := fun W (hW : Below wr.heap.size wr W) => JP W (hb1.keep hW) ((HG.out.keep hB0).keep hW) HFL.out HCP.out HCK.out
    have hn2 := fun W (hW : Below wr.heap.size wr W) => JP W (hb2.keep hW) ((HG.out.keep hB0).keep hW) (fun x hx => HFL.out x (List.mem_reverse.1 hx)) (fun x hx => HCP.out x (List.mem_reverse.1 hx)) hck2
    have hs1 := fun W (hW : Below wr.heap.size wr W) => qbd _ hN W (hb1.keep hW) ((HG.out.keep hB0).keep hW)
    have hs2 := fun W (hW : Below wr.heap.size wr W) => qbd _ hN W (hb2.keep hW) ((HG.out.keep hB0).keep hW)
    have he1 := fun W (hW : Below wr.heap.size wr W) => XT _ hN W (hb1.keep hW) ((HG.out.keep hB0).keep hW)
    have he2 := fun W (hW : Below wr.heap.size wr W) => XT _ hN W (hb2.keep hW) ((HG.out.keep hB0).keep hW)
    have hy1 := fun W (hW : Below wr.heap.size wr W) => QR _ W (hb1.keep hW) ((HG.out.keep hB0).keep hW)
    have hy2 := fun W (hW : Below wr.heap.size wr W) => QR _ W (hb2.keep hW) ((HG.out.keep hB0).keep hW)
    unfold sumV at hs1 hs2
    unfold JX at he1 he2
    unfold qgK at hy1 hy2
    rw [if_pos HCK.out, if_pos (show btw (hN : Int) 0 (wrap64 (hr - 1)) = true from HBW.out), Int.toNat_natCast] at hs1 he1
    rw [if_pos hck2, if_pos (show btw (hN : Int) 0 (wrap64 ((Yo ⟨lim, gr, hr, gs, some ⟨b, o, none⟩, gc⟩ (some ⟨g, 0, none⟩) cap).hours - 1)) = true from HBW.out), Int.toNat_natCast] at hs2 he2
    rw [if_pos HCK.out] at hy1
    rw [if_pos hck2] at hy2
    rw [sumN_rev] at hs2
    have hbr := best_rev HCK.out (some ⟨g, 0, none⟩) cap (h := hN) HLT.out
    rw [hbr] at he2
    have hnr := qfF ⟨lim, gr, hr, gs, some ⟨b, o, none⟩, gc⟩ (some ⟨g, 0, none⟩) cap
    rw [hnr] at hn2
    have hyr := year_rev ⟨lim, gr, hr, gs, some ⟨b, o, none⟩, gc⟩ (some ⟨g, 0, none⟩) cap
    obtain ⟨y, k1, k2, fd, ey1, ey2⟩ : ∃ (y k1 k2 : Nat) (fd : Bool), qch (qB ⟨lim, gr, hr, gs, some ⟨b, o, none⟩, gc⟩ 7 0) = .tuple #[.int .i64 y, .int .i64 k1, .bool fd, .int .i64 0] ∧ qch (qB (Yo ⟨lim, gr, hr, gs, some ⟨b, o, none⟩, gc⟩ (some ⟨g, 0, none⟩) cap) 7 0) = .tuple #[.int .i64 y, .int .i64 k2, .bool fd, .int .i64 0] := by
     rcases hyr with ⟨a1, a2⟩ | ⟨y, k, i, a1, a2⟩
     ·exact ⟨0, 0, 0, false, by rw [a1]; rfl, by rw [a2]; rfl⟩
     ·exact ⟨y, k, i, true, by rw [a1]; rfl, by rw [a2]; rfl⟩
    rw [ey1] at hy1
    rw [ey2] at hy2
    have hNl : (ja ⟨lim, gr, hr, gs, some ⟨b, o, none⟩, gc⟩).length = gs.length := by simp [ja]
    simp only [bv, Yo, List.length_reverse, fv] at hn1 hn2 hs1 hs2 he1 he2 hy1 hy2
    generalize qcb ⟨lim, gr, hr, gs, some ⟨b, o, none⟩, gc⟩ hN gs.length = S at *
    generalize ja ⟨lim, gr, hr, gs, some ⟨b, o, none⟩, gc⟩ = L at *
    generalize (qP ⟨lim, gr, hr, gs, some ⟨b, o, none⟩, gc⟩ hN gs.length).1 = g1 at *
    generalize (qP ⟨lim, gr, hr, gs, some ⟨b, o, none⟩, gc⟩ hN gs.length).2 = P at *
    generalize (qP { lim := lim, growth := gr, hours := hr, gs := gs.reverse, ga := some ⟨g, 0, none⟩, gc := cap } hN gs.length).1 = g2 at *
    obtain ⟨p1, p2⟩ := P
    simp only at he1 he2
    obtain ⟨⟨a0, a1, a2, a3, a4⟩, _⟩ := hA.five
    obtain ⟨c0, ec0⟩ : ∃ c0, c0 = WC.heap.size := ⟨_, rfl⟩
    rw [← ec0] at a0 a1 a2 a3 a4
    replace h := ((((((h.call hA.bw).fresh).more a4).more a3).more a2).more a1).more a0
    have HNl := Lib.hid hNl
    rw [em, ← ec0]
    clear ey1 ey2 hyr hnr hbr hck2 hb1 hb2 hcs hA a0 a1 a2 a3 a4 em ec0 hNl q0 q1 q2 q3 q4 qz
    obtain ⟨⟨o0, o1, o2, o3, o4⟩, hq⟩ := h.c5; obtain ⟨⟨q0, q1, q2, q3, q4⟩, _⟩ := hq.c5; clear hq; have qz := lt_of_cell q0; have oz := lt_of_cell o0
    go_upto_region 11 with (go_at_call 13; (with_reducible refine (hn1 _ h.bw).mono ?_); rintro e w2 ⟨x1, y1, rfl, hI1, hB⟩; replace h := h.call hB; clear q0 q1 q2 q3 q4 o0 o1 o2 o3 o4; clear hB; obtain ⟨⟨o0, o1, o2, o3, o4⟩, hq⟩ := h.c5; obtain ⟨⟨q0, q1, q2, q3, q4⟩, _⟩ := hq.c5; clear hq; have qz := lt_of_cell q0; have oz := lt_of_cell o0)
    go_upto_region 12 with (go_at_call 13; (with_reducible refine (hn2 _ h.bw).mono ?_); rintro e w2 ⟨x2, y2, rfl, hI2, hB⟩; replace h := h.call hB; replace hI1 := hI1.keep hB; clear q0 q1 q2 q3 q4 o0 o1 o2 o3 o4; clear hB; obtain ⟨⟨o0, o1, o2, o3, o4⟩, hq⟩ := h.c5; obtain ⟨⟨q0, q1, q2, q3, q4⟩, _⟩ := hq.c5; clear hq; have qz := lt_of_cell q0; have oz := lt_of_cell o0)
    go_upto_region 13 with (go_at_call 14; (with_reducible refine (hs1 _ h.bw).mono ?_); rintro e w2 ⟨rfl, hB⟩; replace h := h.call hB; replace hI1 := hI1.keep hB; replace hI2 := hI2.keep hB; clear q0 q1 q2 q3 q4 o0 o1 o2 o3 o4; clear hB; obtain ⟨⟨o0, o1, o2, o3, o4⟩, hq⟩ := h.c5; obtain ⟨⟨q0, q1, q2, q3, q4⟩, _⟩ := hq.c5; clear hq; have qz := lt_of_cell q0; have oz := lt_of_cell o0)
    go_upto_region 14 with (go_at_call 14; (with_reducible refine (hs2 _ h.bw).mono ?_); rintro e w2 ⟨rfl, hB⟩; replace h := h.call hB; replace hI1 := hI1.keep hB; replace hI2 := hI2.keep hB; clear q0 q1 q2 q3 q4 o0 o1 o2 o3 o4; clear hB; obtain ⟨⟨o0, o1, o2, o3, o4⟩, hq⟩ := h.c5; obtain ⟨⟨q0, q1, q2, q3, q4⟩, _⟩ := hq.c5; clear hq; have qz := lt_of_cell q0; have oz := lt_of_cell o0)
    go_upto_region 15 with (go_at_call 15; (with_reducible refine (he1 _ h.bw).mono ?_); rintro e w5 ⟨rfl, hB⟩; replace h := (h.call hB).box2 (.int .i64 p1) (.int .i64 p2) 23; replace hI1 := hI1.keep hB; replace hI1 := hI1.keep ((Below.refl _ _).alloc (Nat.le_refl _) (.cells #[.int .i64 p1, .int .i64 p2] 23)); replace hI2 := hI2.keep hB; replace hI2 := hI2.keep ((Below.refl _ _).alloc (Nat.le_refl _) (.cells #[.int .i64 p1, .int .i64 p2] 23)); clear q0 q1 q2 q3 q4 o0 o1 o2 o3 o4; clear hB; obtain ⟨⟨s0, s1⟩, hq⟩ := h.c2; obtain ⟨⟨o0, o1, o2, o3, o4⟩, hq⟩ := hq.c5; obtain ⟨⟨q0, q1, q2, q3, q4⟩, _⟩ := hq.c5; clear hq; have qz := lt_of_cell q0; have oz := lt_of_cell o0)
    go_upto_region 16 with (go_at_call 15; (with_reducible refine (he2 _ h.bw).mono ?_); rintro e w6 ⟨rfl, hB⟩; replace h := (h.call hB).box2 (.int .i64 p1) (.int .i64 p2) 23; replace hI1 := hI1.keep hB; replace hI1 := hI1.keep ((Below.refl _ _).alloc (Nat.le_refl _) (.cells #[.int .i64 p1, .int .i64 p2] 23)); replace hI2 := hI2.keep hB; replace hI2 := hI2.keep ((Below.refl _ _).alloc (Nat.le_refl _) (.cells #[.int .i64 p1, .int .i64 p2] 23)); clear q0 q1 q2 q3 q4 o0 o1 o2 o3 o4 s0 s1; clear hB; obtain ⟨⟨t0, t1⟩, hq⟩ := h.c2; obtain ⟨⟨s0, s1⟩, hq⟩ := hq.c2; obtain ⟨⟨o0, o1, o2, o3, o4⟩, hq⟩ := hq.c5; obtain ⟨⟨q0, q1, q2, q3, q4⟩, _⟩ := hq.c5; clear hq; have qz := lt_of_cell q0; have oz := lt_of_cell o0)
    go_upto_region 17 with (go_at_call 7; (with_reducible refine (hy1 _ h.bw).mono ?_); rintro e w7 ⟨rfl, hB⟩; replace h := h.call hB; replace hI1 := hI1.keep hB; replace hI2 := hI2.keep hB; clear q0 q1 q2 q3 q4 o0 o1 o2 o3 o4 s0 s1 t0 t1; clear hB; obtain ⟨⟨t0, t1⟩, hq⟩ := h.c2; obtain ⟨⟨s0, s1⟩, hq⟩ := hq.c2; obtain ⟨⟨o0, o1, o2, o3, o4⟩, hq⟩ := hq.c5; obtain ⟨⟨q0, q1, q2, q3, q4⟩, _⟩ := hq.c5; clear hq; have qz := lt_of_cell q0; have oz := lt_of_cell o0)
    go_upto_region 18 with (go_at_call 7; (with_reducible refine (hy2 _ h.bw).mono ?_); rintro e w8 ⟨rfl, hB⟩; replace h := h.call hB; replace hI1 := hI1.keep hB; replace hI2 := hI2.keep hB; clear q0 q1 q2 q3 q4 o0 o1 o2 o3 o4 s0 s1 t0 t1; clear hB; obtain ⟨⟨t0, t1⟩, hq⟩ := h.c2; obtain ⟨⟨s0, s1⟩, hq⟩ := hq.c2; obtain ⟨⟨o0, o1, o2, o3, o4⟩, hq⟩ := hq.c5; obtain ⟨⟨q0, q1, q2, q3, q4⟩, _⟩ := hq.c5; clear hq; have qz := lt_of_cell q0; have oz := lt_of_cell o0)
    go_cut [173] from 112 to 172 (fun s wx => s = .bool false ∧ Below w8.heap.size w8 wx)
    case first =>
     go_wp2_with fail
     go_meet
     exact ⟨rfl, .refl _ _⟩
    case rest =>
     obtain ⟨rfl, hB⟩ := hcut
     obtain ⟨WD, rfl⟩ : ∃ W, W = wc := ⟨_, rfl⟩
     replace h := h.call hB
     obtain ⟨b1, b2, rfl, rfl, hX⟩ := ints_two HNl.out (hI1.keep hB) (hI2.keep hB) hl1
     have HX := Lib.hid hX
     clear hX hI1 hI2 hB hn1 hn2 hs1 hs2 he1 he2 hy1 hy2 q0 q1 q2 q3 q4 o0 o1 o2 o3 o4 s0 s1 t0 t1
     go_wp2
     go_loopw [31] (fun i wr2 => ∃ k : Nat, i = .int .i64 k ∧ k ≤ gs.length ∧ Below WD.heap.size WD wr2) (fun i _ => gs.length - (intOf i).toNat)
     case atStart => exact ⟨0, rfl, Nat.zero_le _, .refl _ _⟩
     case round =>
      obtain ⟨k, rfl, hk, hBr⟩ := hrel
      by_cases hlt : k < gs.length
      ·obtain ⟨m, em, em2⟩ : ∃ m : Nat, (gs.length : Int) - 1 - k = (m : Int) ∧ k + 1 + m = gs.length := ⟨gs.length - 1 - k, by omega, by omega⟩
       obtain ⟨x, d1, d2⟩ := HX.out k m em2
       have d1 := qb _ hBr d1
       have d2 := qb _ hBr d2
       have wwa : IntKind.i64.wrap ((gs.length : Int) - 1) = (gs.length : Int) - 1 := by rw [IntKind.wrap_i64]; omega
       have wwb : IntKind.i64.wrap ((gs.length : Int) - 1 - k) = (m : Int) := by rw [IntKind.wrap_i64]; omega
       have i1 : (k : Int) < (gs.length : Int) := by omega
       have i2 : (m : Int) < (gs.length : Int) := by omega
       have i3 : (0 : Int) ≤ (k : Int) := Int.natCast_nonneg k
       have i4 : (0 : Int) ≤ (m : Int) := Int.natCast_nonneg m
       clear em em2
       go_wp2
       go_quiet (fail)
       go_wp2
       go_roundw
       case rel => exact ⟨k + 1, rfl, by omega, below_drewN hBr _⟩
       case measure => simp [intOf]; omega
      ·obtain rfl : k = gs.length := by omega
       go_wp2_with (go_at_call 6; (refine (HL _ (h.call hBr).gl).mono ?_); rintro e w9 ⟨rfl, hB9⟩)
       go_ret
       exact ⟨rfl, Below.call hB0 ((h.call hBr).call hB9).bw (Nat.le_refl _)⟩
set_option maxHeartbeats 8000000 in
set_option maxRecDepth 100000 in
theorem QQ (HL : ∀ W, Globs W → Calls qf 6 #[] W fun e w' => e = .returned (.bool true) ∧ Below W.heap.size W w') (B : Bk) (hour : Int) (w : World) (hG : Globs w) (hB : BookIn w B) (hc : B.gs.length ≤ B.gc) (hf : fitB B = false) :
 Calls qf 4 #[bv B, .int .u8 hour] w fun e w' => e = .returned (.bool true) ∧ Below w.heap.size w w' := by
 have hfi := fun W (h : Below w.heap.size w W) => XU B W (hB.keep h) hc
 simp only [hf] at hfi
 have HLL := fun W (h : Below w.heap.size w W) => HL W (hG.keep h)
 obtain ⟨lim, gr, hr, gs, ga, gc⟩ := B
 simp only [bv] at *
 clear hB hf HL hG
 go_enter s4, ntmps4
 go_wp2_with (first | (go_at_call 5; (with_reducible refine (hfi _ (by go_grown)).mono ?_); rintro e w1 ⟨rfl, hB1⟩; have hB : Below w.heap.size w w1 := Below.call (by go_grown) hB1 (by simp)) | (go_at_call 6; (refine (HLL _ hB).mono ?_); rintro e w2 ⟨rfl, hB2⟩))
 go_ret
 exact ⟨rfl, Below.call hB hB2 (Nat.le_refl _)⟩
theorem Yr (HL : ∀ W, Globs W → Calls qf 6 #[] W fun e w' => e = .returned (.bool true) ∧ Below W.heap.size W w') (B : Bk) (hour : Int) (hh : 0 ≤ hour ∧ hour ≤ 255) (w : World) (hG : Globs w) (hB : BookIn w B) (hc : B.gs.length ≤ B.gc) (hcp : ∀ g ∈ B.gs, g.traffic.length ≤ g.tc) :
 Calls qf 4 #[bv B, .int .u8 hour] w fun e w' => e = .returned (.bool true) ∧ Below w.heap.size w w' := by
 cases hf : fitB B with
 | false => exact QQ HL B hour w hG hB hc hf
 | true => exact ZY HL B hour hh w hG hB hc hcp hf
end Go.Proofs.Tryz
end
