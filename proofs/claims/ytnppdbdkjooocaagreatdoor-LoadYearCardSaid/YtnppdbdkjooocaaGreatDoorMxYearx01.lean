/-
  A part of the proof (B11 B16 B13): lemmas about the program and about the machine that the last text of this claim rests upon; no condition.
-/
import Derived.Deep.Cut
import Derived.Deep.CutRange
import Derived.Deep.DeepCutAuto
import Derived.Deep.Light
import Derived.Test.YtnppdbdkjooocaaGreatDoorM07
import Derived.Test.YtnppdbdkjooocaaGreatDoorM06
import Derived.Test.YtnppdbdkjooocaaGreatDoorM21
import Derived.Test.YtnppdbdkjooocaaGreatDoorM04
set_option linter.unusedSimpArgs false
set_option linter.unusedVariables false
namespace Go.Proofs.Tryz
open Go Go.Sim Go.Load Go.RowKit
def hasI (l : List Int) (n : Int) : Bool := l.any fun x => x == n
set_option maxHeartbeats 2000000 in
set_option maxRecDepth 100000 in
theorem qcY (v : Value) (L : List Int) (n : Int) (hl : L.length ≤ 100) (w : World) (h : yf w v L) : Calls qf 12 #[v, .int .i64 n] w fun e w' => e = .returned (.bool (hasI L n)) ∧ w = w' := by
 obtain ⟨a, c, rfl, hc⟩ := h
 have HC := Lib.hid hc
 clear hc
 go_enter s12, ntmps12
 go_wp2
 go_loop [5] (fun i => ∃ k : Nat, i = .int .i64 k ∧ k ≤ L.length ∧ Hid (∀ (j : Nat) x, j < k → L[j]? = some x → (x == n) = false)) (fun i => L.length - (intOf i).toNat)
 case atStart => exact ⟨0, rfl, Nat.zero_le _, Lib.hid fun j x hj => absurd hj (Nat.not_lt_zero _)⟩
 case round =>
  obtain ⟨k, rfl, hk, HK⟩ := hrel
  by_cases hlt : k < L.length
  ·obtain ⟨x, hx⟩ : ∃ x, L[k]? = some x := ⟨L[k], by simp [hlt]⟩
   obtain ⟨b, rfl, hcs⟩ := HC.out (by omega)
   have c0 := hcs k x hx
   have hm : x ∈ L := List.mem_of_getElem? hx
   cases hq : (x == n) with
   | true =>
     have hh : hasI L n = true := List.any_eq_true.2 ⟨x, hm, hq⟩
     clear hx hm hcs
     go_wp2
     go_ret
     exact ⟨rfl, rfl⟩
   | false =>
     have HN : Hid (∀ (j : Nat) y, j < k + 1 → L[j]? = some y → (y == n) = false) := Lib.hid fun j y hj hy => by
      rcases Nat.lt_succ_iff_lt_or_eq.1 hj with h1 | rfl
      ·exact HK.out j y h1 hy
      ·rw [hx] at hy
       cases hy
       exact hq
     clear hx hm hcs
     go_wp2
     go_round
     case rel => exact ⟨k + 1, by go_num, by omega, HN⟩
     case measure => simp [intOf]; omega
  ·obtain rfl : k = L.length := by omega
   have hh : hasI L n = false := by
    unfold hasI
    rw [List.any_eq_false]
    intro x hx
    obtain ⟨j, hj, rfl⟩ := List.getElem_of_mem hx
    rw [HK.out j L[j] hj (by simp [hj])]
    decide
   go_wp2
   go_ret
   exact ⟨rfl, rfl⟩
set_option maxHeartbeats 2000000 in
set_option maxRecDepth 100000 in
theorem XR (v : Value) (L : List Int) (n : Int) (hn : 0 ≤ n ∧ n ≤ 100) (hl : L.length ≤ 100) (hA : ∀ x ∈ L, 0 ≤ x ∧ x ≤ n - 1) (hp : L.Pairwise (· < ·)) (w : World) (h : yf w v L) : Calls qf 11 #[v, .int .i64 n] w fun e w' => e = .returned (.int .i64 0) ∧ Below w.heap.size w w' := by
 obtain ⟨a, c, rfl, hc⟩ := h
 have HC := Lib.hid hc
 have HA := Lib.hid hA
 have HP : Hid (∀ (k : Nat) x y, L[k]? = some x → L[k + 1]? = some y → x < y) := Lib.hid fun k x y hx hy => by
  obtain ⟨h1, rfl⟩ := List.getElem?_eq_some_iff.1 hx
  obtain ⟨h2, rfl⟩ := List.getElem?_eq_some_iff.1 hy
  exact List.pairwise_iff_getElem.1 hp k (k + 1) h1 h2 (by omega)
 have hin := fun (x : Int) (hx : x ∈ L) W => yE x 0 (n - 1) W (hA x hx)
 have HI := Lib.hid hin
 have wn : IntKind.i64.wrap (n - 1) = n - 1 := by rw [IntKind.wrap_i64]; omega
 clear hc hA hp hin
 go_enter s11, ntmps11
 go_wp2
 go_loopw [5] (fun i wr => ∃ k : Nat, i = .int .i64 k ∧ k ≤ L.length ∧ Below w.heap.size w wr) (fun i _ => L.length - (intOf i).toNat)
 case atStart => exact ⟨0, rfl, Nat.zero_le _, .refl _ _⟩
 case round =>
  obtain ⟨k, rfl, hk, hBr⟩ := hrel
  by_cases hlt : k < L.length
  ·obtain ⟨x, hx⟩ : ∃ x, L[k]? = some x := ⟨L[k], by simp [hlt]⟩
   obtain ⟨b, rfl, hcs⟩ := HC.out (by omega)
   have c0 := qb _ hBr (hcs k x hx)
   have hi := HI.out x (List.mem_of_getElem? hx)
   by_cases h0 : k = 0
   ·subst h0
    clear hx hcs
    go_wp2_with (go_at_call 8; (with_reducible refine (hi _).mono ?_); rintro e w1 ⟨rfl, rfl⟩)
    go_quiet (fail)
    go_wp2
    go_roundw
    case rel => exact ⟨1, rfl, by omega, below_drewN hBr _⟩
    case measure => simp [intOf]; omega
   ·obtain ⟨m, rfl⟩ : ∃ m, k = m + 1 := ⟨k - 1, by omega⟩
    obtain ⟨y, hy⟩ : ∃ y, L[m]? = some y := ⟨L[m]'(by omega), List.getElem?_eq_getElem _⟩
    have c1 := qb _ hBr (hcs m y hy)
    have hlt2 := HP.out m y x hy hx
    have em : ((m + 1 : Nat) : Int) - 1 = (m : Int) := by omega
    clear hx hy hcs
    go_wp2_with (go_at_call 8; (with_reducible refine (hi _).mono ?_); rintro e w1 ⟨rfl, rfl⟩)
    go_quiet (fail)
    go_wp2
    go_roundw
    case rel => exact ⟨m + 2, rfl, by omega, below_drewN hBr _⟩
    case measure => simp [intOf]; omega
  ·obtain rfl : k = L.length := by omega
   go_wp2
   go_ret
   exact ⟨rfl, hBr⟩
end Go.Proofs.Tryz
namespace Go.Proofs.Tryz
open Go Go.Load Go.RowKit
theorem Jj {B : Bk} {n : Nat} (hV : Valid (qo B n)) {g : Grp} (hg : g ∈ B.gs) : yS (qo B n) (yrG B.growth n g) g.trunks.toNat = !Zn B n g := by
 have hm : yrG B.growth n g ∈ (qo B n).gs := by rw [zW]; exact List.mem_map_of_mem hg
 have ht := (hV.grp _ hm).traf
 rw [← Qs]
 unfold zQ
 have : ((yrG B.growth n g).traffic.any fun x => !decide (zU x)) = false := by
  rw [List.any_eq_false]
  intro x hx
  simp [ht x hx]
 rw [this, Bool.false_or, Bool.not_not]
 rfl
theorem jM {B : Bk} {z : Int} : ∀ {l : List Grp} {i : Nat}, z ∈ qD B i l ↔ ∃ (j : Nat) (g : Grp), z = ((i + j : Nat) : Int) ∧ l[j]? = some g ∧ yS B g g.trunks.toNat = true
 | [], i => by simp [qD]
 | x :: l, i => by
   unfold qD
   have ih := jM (B := B) (z := z) (l := l) (i := i + 1)
   constructor
   ·intro h
    cases hx : yS B x x.trunks.toNat with
    | true =>
      rw [hx, if_pos rfl, List.mem_cons] at h
      rcases h with rfl | h
      ·exact ⟨0, x, rfl, rfl, hx⟩
      ·obtain ⟨j, g, e, hg, hf⟩ := ih.1 h
       exact ⟨j + 1, g, by rw [e]; congr 1; omega, by simpa using hg, hf⟩
    | false =>
      rw [hx, if_neg (by decide)] at h
      obtain ⟨j, g, e, hg, hf⟩ := ih.1 h
      exact ⟨j + 1, g, by rw [e]; congr 1; omega, by simpa using hg, hf⟩
   ·rintro ⟨j, g, e, hg, hf⟩
    cases j with
    | zero =>
      simp at hg
      subst hg
      rw [hf, if_pos rfl, e]
      exact List.mem_cons_self
    | succ j =>
      have := ih.2 ⟨j, g, by rw [e]; congr 1; omega, by simpa using hg, hf⟩
      split
      ·exact List.mem_cons_of_mem _ this
      ·exact this
theorem jL (B : Bk) : ∀ (l : List Grp) (i : Nat), (qD B i l).Pairwise (· < ·)
 | [], _ => .nil
 | x :: l, i => by
   unfold qD
   split
   ·refine List.Pairwise.cons (fun z hz => ?_) (jL B l (i + 1))
    obtain ⟨j, _, e, _⟩ := jM.1 hz
    omega
   ·exact jL B l (i + 1)
theorem ZP (B : Bk) : ∀ (l : List Grp) (i : Nat), (∀ g ∈ l, yS B g g.trunks.toNat = true) → (qD B i l).length = l.length
 | [], _, _ => rfl
 | x :: l, i, h => by
   unfold qD
   rw [if_pos (h x List.mem_cons_self), List.length_cons, ZP B l (i + 1) fun g hg => h g (List.mem_cons_of_mem _ hg), List.length_cons]
theorem ZQ (B : Bk) : ∀ (l : List Grp) (i : Nat) (g : Grp), g ∈ l → yS B g g.trunks.toNat = false → (qD B i l).length < l.length
 | [], _, _, hg, _ => by cases hg
 | x :: l, i, g, hg, hf => by
   have hle : (qD B (i + 1) l).length ≤ l.length := by
    have := jO { B with gs := l } l.length
    have h2 : ∀ (l : List Grp) (i : Nat), (qD B i l).length ≤ l.length := fun l => by
     induction l with
     | nil => intro i; simp [qD]
     | cons g l ih => intro i; simp only [qD]; split <;> simp <;> have := ih (i + 1) <;> omega
    exact h2 l (i + 1)
   unfold qD
   rcases List.mem_cons.1 hg with rfl | hg
   ·rw [hf, if_neg (by decide), List.length_cons]
    omega
   ·have := ZQ B l (i + 1) g hg hf
    split <;> simp only [List.length_cons] <;> omega
theorem JZ {B : Bk} (hc : checkN B = 0) {r : Int} (h0 : 0 ≤ r) (h1 : r ≤ 100) : checkN { B with growth := r } = 0 := by
 have hV := qp hc
 exact qcs (B := { B with growth := r }) ⟨hV.num.1, ⟨h0, h1⟩, hV.num.2.2⟩ hV.len1 hV.len4 fun i g hg => QC (B := B) hc i g hg
theorem xN (B B' : Bk) (h : B'.lim = B.lim) : ∀ (l : List Grp) (i : Nat), qD B' i (l.map blank) = qD B i l
 | [], _ => rfl
 | g :: l, i => by
   have e : yS B' (blank g) (blank g).trunks.toNat = yS B g g.trunks.toNat := by unfold yS; rw [h]; rfl
   simp only [List.map_cons, qD, e, xN B B' h l]
theorem Jk {B B' : Bk} {l l' : List Grp} (h : B'.lim = B.lim) (hs : zL l l') : qD B' 0 l' = qD B 0 l := by
 rw [← xN B' { B' with gs := [] } rfl l', ← xN B { B' with gs := [] } h l, Qn hs]
def jl (B : Bk) (n : Nat) : List Int := qD (qo B n) 0 (qo B n).gs
theorem goodY_of {B : Bk} {n : Nat} {l : List Grp} (hs : zL (qo B n).gs l) (ga : Option Addr) (gc : Nat) : Zt { B with gs := l, ga := ga, gc := gc } l.length = jl B n := by
 unfold Zt jl
 rw [show ({ B with gs := l, ga := ga, gc := gc } : Bk).gs.take l.length = l from List.take_length]
 exact Jk (by rw [(zq B n).1]) hs
theorem YJ {B : Bk} {n : Nat} (hV : Valid (qo B n)) {z : Int} : z ∈ jl B n ↔ ∃ (j : Nat) (g : Grp), z = (j : Int) ∧ B.gs[j]? = some g ∧ Zn B n g = false := by
 unfold jl
 rw [jM]
 constructor
 ·rintro ⟨j, g, e, hg, hf⟩
  rw [zW, List.getElem?_map] at hg
  obtain ⟨g0, hg0, rfl⟩ := Option.map_eq_some_iff.1 hg
  have h2 := Jj hV (List.mem_of_getElem? hg0)
  rw [show (yrG B.growth n g0).trunks = g0.trunks from rfl, h2] at hf
  exact ⟨j, g0, by rw [e, Nat.zero_add], hg0, by simpa using hf⟩
 ·rintro ⟨j, g0, e, hg0, hb⟩
  refine ⟨j, yrG B.growth n g0, by rw [e, Nat.zero_add], by rw [zW, List.getElem?_map, hg0]; rfl, ?_⟩
  have h2 := Jj hV (List.mem_of_getElem? hg0)
  rw [show (yrG B.growth n g0).trunks = g0.trunks from rfl, h2, hb]
  rfl
theorem goodY_in {B : Bk} {n : Nat} (hV : Valid (qo B n)) : ∀ x ∈ jl B n, 0 ≤ x ∧ x ≤ (B.gs.length : Int) - 1 := fun x hx => by
 obtain ⟨j, g, rfl, hg, _⟩ := (YJ hV).1 hx
 have := (List.getElem?_eq_some_iff.1 hg).1
 omega
theorem qdm {B : Bk} {n : Nat} (hV : Valid (qo B n)) (h : ∀ g ∈ B.gs, Zn B n g = false) : (jl B n).length = B.gs.length := by
 unfold jl
 rw [ZP, yg]
 intro g hg
 rw [zW] at hg
 obtain ⟨g0, hg0, rfl⟩ := List.mem_map.1 hg
 rw [show (yrG B.growth n g0).trunks = g0.trunks from rfl, Jj hV hg0, h g0 hg0]
 rfl
theorem qeW {B : Bk} {n : Nat} (hV : Valid (qo B n)) {g : Grp} (hg : g ∈ B.gs) (h : Zn B n g = true) : (jl B n).length < B.gs.length := by
 unfold jl
 have h2 := Jj hV hg
 rw [h] at h2
 have := ZQ (qo B n) (qo B n).gs 0 (yrG B.growth n g) (by rw [zW]; exact List.mem_map_of_mem hg) h2
 rwa [yg] at this
theorem goodY_le (B : Bk) (n : Nat) : (jl B n).length ≤ B.gs.length := by
 have := jO (qo B n) (qo B n).gs.length
 unfold Zt at this
 rw [List.take_length, yg] at this
 exact this
theorem qgM {B : Bk} (hc : checkN B = 0) {r : Int} (hr : B.growth ≤ r) : ∃ (y k z i : Nat) (fd so : Bool), qB B 7 0 = (if fd then some (y, k) else none) ∧ qch (qB B 7 0) = .tuple #[.int .i64 y, .int .i64 k, .bool fd, .int .i64 0] ∧
 qch (qB { B with growth := r } 7 0) = .tuple #[.int .i64 z, .int .i64 i, .bool so, .int .i64 0] ∧ y ≤ 6 ∧ k < B.gs.length ∧ (fd = true → so = true ∧ z ≤ y) ∧ (fd = false → y = 0 ∧ k = 0) := by
 have hV := qp hc
 cases h : qB B 7 0 with
 | none =>
   obtain ⟨z, i, so, e⟩ : ∃ (z i : Nat) (so : Bool), qch (qB { B with growth := r } 7 0) = .tuple #[.int .i64 z, .int .i64 i, .bool so, .int .i64 0] := by
    cases qB { B with growth := r } 7 0 with
    | none => exact ⟨0, 0, false, rfl⟩
    | some p => exact ⟨p.1, p.2, true, rfl⟩
   exact ⟨0, 0, z, i, false, so, rfl, rfl, e, by omega, hV.len1, (fun h => absurd h (by decide)), fun _ => ⟨rfl, rfl⟩⟩
 | some p =>
   obtain ⟨y, k⟩ := p
   obtain ⟨z, i, e, hz⟩ := qci hV h hr
   obtain ⟨a, ⟨g, hg, _⟩, _⟩ := zZ h
   exact ⟨y, k, z, i, true, true, rfl, rfl, by rw [e]; rfl, a, (List.getElem?_eq_some_iff.1 hg).1, (fun _ => ⟨rfl, hz⟩), fun h => absurd h (by decide)⟩
theorem qgL {B : Bk} (hc : checkN B = 0) {y k n : Nat} {fd : Bool} (h : qB B 7 0 = (if fd then some (y, k) else none)) (hn : n ≤ 6) :
 (checkN (qo B n) = 1 ∧ fd = true ∧ y ≤ n) ∨ (checkN (qo B n) = 0 ∧ (fd = false ∨ n < y → (jl B n).length = B.gs.length) ∧ (fd = true → y < n → (jl B n).length < B.gs.length) ∧
   (fd = true → n = y → (∀ i : Nat, i < k → (i : Int) ∈ jl B n) ∧ (k : Int) ∉ jl B n)) := by
 have hV := qp hc
 rcases qbm hc n with h0 | ⟨h1, g, hg, hb⟩
 ·right
  have hVn := qp h0
  refine ⟨h0, fun hh => qdm hVn ?_, fun hf hy => ?_, fun hf hy => ?_⟩
  ·cases fd with
   | false => exact Qc h n hn
   | true => exact (zZ h).2.2.2 n (hh.resolve_left (by decide))
  ·subst hf
   obtain ⟨_, ⟨g, hg, hb⟩, _⟩ := zZ h
   have hm := List.mem_of_getElem? hg
   exact qeW hVn hm (qer hV hm (Nat.le_of_lt hy) hb)
  ·subst hf hy
   obtain ⟨_, ⟨g, hg, hb⟩, hlow, _⟩ := zZ h
   have hkl := (List.getElem?_eq_some_iff.1 hg).1
   refine ⟨fun i hi => ?_, fun hk => ?_⟩
   ·obtain ⟨x, hx⟩ : ∃ x, B.gs[i]? = some x := ⟨B.gs[i], List.getElem?_eq_getElem (by omega)⟩
    exact (YJ hVn).2 ⟨i, x, rfl, hx, hlow i x hi hx⟩
   ·obtain ⟨j, x, e, hx, hf⟩ := (YJ hVn).1 hk
    obtain rfl : k = j := by omega
    rw [hg] at hx
    cases hx
    rw [hb] at hf
    cases hf
 ·left
  refine ⟨h1, ?_⟩
  cases fd with
  | false =>
    rw [Qc h n hn g hg] at hb
    cases hb
  | true =>
    refine ⟨rfl, ?_⟩
    by_cases e : y ≤ n
    ·exact e
    ·rw [(zZ h).2.2.2 n (by omega) g hg] at hb
     cases hb
end Go.Proofs.Tryz
section
namespace Go.Proofs.Tryz
open Go Go.Load Go.RowKit
open Go.Proofs.YtnppdbdkjooocaaGreatDoor (BookIn)
theorem s3 : qf.funcs[3]? = some f3 := by kernel_rfl
theorem XZ {w : World} {B : Bk} (h : BookAt w B) (r : Int) : BookAt w { B with growth := r } := ⟨h.row, h.traf, h.small, h.cap⟩
theorem hasI_yes {l : List Int} {n : Int} (h : n ∈ l) : hasI l n = true := List.any_eq_true.2 ⟨n, h, by simp⟩
theorem hasI_no {l : List Int} {n : Int} (h : n ∉ l) : hasI l n = false := by
 unfold hasI
 rw [List.any_eq_false]
 intro x hx
 simp only [beq_iff_eq]
 rintro rfl
 exact h hx
theorem qdn {B : Bk} {n g gc' : Nat} {l : List Grp} (hs : zL (qo B n).gs l) (h0 : checkN (qo B n) = 0) (W : World) (hb : BookAt W { B with gs := l, ga := some ⟨g, 0, none⟩, gc := gc' }) (hG : Globs W) :
 Calls qf 10 #[bv { B with gs := l, ga := some ⟨g, 0, none⟩, gc := gc' }] W fun e w' => (∃ a c, e = .returned (.tuple #[.slice a (jl B n).length c, .int .i64 0]) ∧ yf w' (.slice a (jl B n).length c) (jl B n)) ∧ Below W.heap.size W w' := by
 refine (XV _ W hb hG).mono fun e w' h => ?_
 have hcN : checkN { B with gs := l, ga := some ⟨g, 0, none⟩, gc := gc' } = 0 := by
  have := QG hs (some ⟨g, 0, none⟩) gc'
  have e := zq B n
  rw [e.1, e.2.1, e.2.2.1] at this
  rw [this, h0]
 unfold QN at h
 rw [if_pos hcN] at h
 obtain ⟨v, rfl, hS, hB⟩ := h
 have hI := yU hS
 rw [show ({ B with gs := l, ga := some ⟨g, 0, none⟩, gc := gc' } : Bk).gs.length = l.length from rfl, goodY_of hs] at hI
 obtain ⟨a, c, rfl, hc⟩ := hI
 exact ⟨⟨a, c, rfl, a, c, rfl, hc⟩, hB⟩
set_option maxHeartbeats 8000000 in
set_option maxRecDepth 100000 in
theorem Xm (HL : ∀ W, Globs W → Calls qf 6 #[] W fun e w' => e = .returned (.bool true) ∧ Below W.heap.size W w') (B : Bk) (years more : Int) (w : World) (hG : Globs w) (hB : BookIn w B) (hc : B.gs.length ≤ B.gc) (hf : fitB B = false) :
 Calls qf 3 #[bv B, .int .u8 years, .int .u8 more] w fun e w' => e = .returned (.bool true) ∧ Below w.heap.size w w' := by
 have hfi := fun W (h : Below w.heap.size w W) => XU B W (hB.keep h) hc
 simp only [hf] at hfi
 have HLL := fun W (h : Below w.heap.size w W) => HL W (hG.keep h)
 obtain ⟨lim, gr, hr, gs, ga, gc⟩ := B
 simp only [bv] at *
 clear hB hf HL hG
 go_enter s3, ntmps3
 go_wp2_with (first | (go_at_call 5; (with_reducible refine (hfi _ (by go_grown)).mono ?_); rintro e w1 ⟨rfl, hB1⟩; have hB : Below w.heap.size w w1 := Below.call (by go_grown) hB1 (by simp)) | (go_at_call 6; (refine (HLL _ hB).mono ?_); rintro e w2 ⟨rfl, hB2⟩))
 go_ret
 exact ⟨rfl, Below.call hB hB2 (Nat.le_refl _)⟩
set_option maxHeartbeats 8000000 in
set_option maxRecDepth 100000 in
theorem JO (HL : ∀ W, Globs W → Calls qf 6 #[] W fun e w' => e = .returned (.bool true) ∧ Below W.heap.size W w') (B : Bk) (years more : Int) (hh : 0 ≤ years ∧ years ≤ 255) (ho : 0 ≤ more ∧ more ≤ 255) (w : World) (hG : Globs w) (hB : BookIn w B) (hc : B.gs.length ≤ B.gc) (hf : fitB B = true) :
 Calls qf 3 #[bv B, .int .u8 years, .int .u8 more] w fun e w' => e = .returned (.bool true) ∧ Below w.heap.size w w' := by
 have hfi := fun W (h : Below w.heap.size w W) => XU B W (hB.keep h) hc
 obtain ⟨hmo, hck, hV⟩ := qeS hf
 simp only [hf] at hfi
 have hat := hB.at (ZB hmo) hc
 have hg0 := hV.num.2.1.1
 have hg1 := hV.num.2.1.2
 have hl1 := hV.len1
 have hl4 := hV.len4
 have ww1 : IntKind.i64.wrap years = years := by rw [IntKind.wrap_i64]; omega
 have ww2 : IntKind.i64.wrap more = more := by rw [IntKind.wrap_i64]; omega
 have e7 : years.tmod 7 = years % 7 := Int.tmod_eq_emod_of_nonneg hh.1
 have e30 : more.tmod 30 = more % 30 := Int.tmod_eq_emod_of_nonneg ho.1
 obtain ⟨nN, en, hn6⟩ : ∃ n : Nat, years.tmod 7 = n ∧ n ≤ 6 := ⟨(years.tmod 7).toNat, by omega, by omega⟩
 obtain ⟨mN, em, hm0, hm1⟩ : ∃ m : Int, more.tmod 30 = m ∧ 0 ≤ m ∧ m < 30 := ⟨more.tmod 30, rfl, by omega, by omega⟩
 clear e7 e30
 have ww3 : IntKind.i64.wrap (B.growth + mN) = B.growth + mN := by rw [IntKind.wrap_i64]; omega
 obtain ⟨r, er⟩ : ∃ r : Int, (if B.growth + mN < 100 then B.growth + mN else 100) = r := ⟨_, rfl⟩
 have hr0 : B.growth ≤ r := by rw [← er]; split <;> omega
 have hr1 : r ≤ 100 := by rw [← er]; split <;> omega
 have hy1 := fun W (h : Below w.heap.size w W) => QR B W (hat.keep h) (hG.keep h)
 have hy2 := fun W (h : Below w.heap.size w W) => QR { B with growth := r } W (XZ (hat.keep h) r) (hG.keep h)
 unfold qgK at hy1 hy2
 simp only [if_pos hck, if_pos (JZ hck (show 0 ≤ r by omega) hr1)] at hy1 hy2
 obtain ⟨y, k, z, i, fd, so, ey, e1, e2, hy6, hkl, hfd, hfd0⟩ := qgM hck hr0
 rw [e1] at hy1
 rw [e2] at hy2
 have hasks := qgL hck ey hn6
 have hgw := fun W (h : Below w.heap.size w W) => qej B nN W (hat.keep h) (hG.keep h) hck hn6
 have hi1 := fun W => yE (y : Int) 0 6 W ⟨by omega, by omega⟩
 have hi2 := fun W => yE (k : Int) 0 ((B.gs.length : Int) - 1) W ⟨by omega, by omega⟩
 have hrow := hB.row hl1
 have HA := Lib.hid hasks
 have HS := Lib.hid hat.small
 have HE := Lib.hid ey
 have HGW := Lib.hid hgw
 have HF0 := Lib.hid hfd0
 have HF1 := Lib.hid hfd
 clear e1 e2 ey hasks hat hf hmo hc hB hV hgw hck hfd hfd0
 obtain ⟨b, o, hga, _⟩ := hrow
 obtain ⟨lim, gr, hr, gs, ga, gc⟩ := B
 simp only [bv] at *
 subst hga
 have ww4 : IntKind.i64.wrap ((gs.length : Int) - 1) = (gs.length : Int) - 1 := by rw [IntKind.wrap_i64]; omega
 go_enter s3, ntmps3
 go_upto_region 3 with (go_at_call 5; (with_reducible refine (hfi _ (by go_grown)).mono ?_); rintro e w1 ⟨rfl, hB1⟩; (first | (replace hB := Below.call (by with_reducible assumption) hB1 (Nat.le_refl _)) | (replace hB := Below.call (by go_grown) hB1 (Nat.le_refl _)) | (have hB := hB1)); (try clear hc hg hz); obtain ⟨hc, hg⟩ := qC hB; have hz := hB.size; clear hB1; (try simp at hz); (try have hlt0 : w.heap.size < w1.heap.size := by omega))
 obtain ⟨wz, hwz⟩ : ∃ wz, wz = w.heap.size := ⟨_, rfl⟩
 have h : KSt w w1 [(⟨wz, 0, none⟩, .int .i64 lim.1), (⟨wz, 1, none⟩, .int .i64 lim.2), (⟨wz, 2, none⟩, .int .i64 gr), (⟨wz, 3, none⟩, .int .i64 hr), (⟨wz, 4, none⟩, .slice (some ⟨b, o, none⟩) gs.length gc)] := by
  have hBW : Below w.heap.size w w1 := Below.call (B := w.heap.size) (by go_grown) hB (Nat.le_refl _)
  refine ⟨fun p hp => ?_, hG.keep hBW, hBW⟩
  simp only [List.mem_cons, List.not_mem_nil, or_false] at hp
  rcases hp with rfl | rfl | rfl | rfl | rfl <;> (rw [hwz]; go_cell)
 obtain ⟨⟨q0, q1, q2, q3, q4⟩, _⟩ := h.c5
 have qz := lt_of_cell q0
 rw [← hwz]
 clear hc hg hB hz hwz hfi
 go_upto_region 4 with (go_at_call 7; (with_reducible refine (hy1 _ h.bw).mono ?_); rintro e w2 ⟨rfl, hB⟩; replace h := h.call hB; clear q0 q1 q2 q3 q4; clear hB; obtain ⟨⟨q0, q1, q2, q3, q4⟩, _⟩ := h.c5; have qz := lt_of_cell q0)
 go_upto_region 6 with fail
 go_upto_region 7 with (go_at_call 7; (refine (hy2 _ (Below.call h.bw (by go_grown) (Nat.le_refl _))).mono ?_); rintro e w3 ⟨rfl, hB⟩; replace h := (h.call (by go_grown)).call hB; clear q0 q1 q2 q3 q4; clear hB; obtain ⟨⟨q0, q1, q2, q3, q4⟩, _⟩ := h.c5; have qz := lt_of_cell q0)
 go_cut [78] from 47 to 77 (fun s wx => s = .bool false ∧ Below w3.heap.size w3 wx)
 case first =>
  cases fd with
  | false =>
    go_wp2_with (first | (go_at_call 8; (with_reducible refine (hi1 _).mono ?_); rintro e w1 ⟨rfl, rfl⟩) | (go_at_call 8; (with_reducible refine (hi2 _).mono ?_); rintro e w1 ⟨rfl, rfl⟩))
    go_meet
    exact ⟨rfl, .refl _ _⟩
  | true =>
    obtain ⟨rfl, hzy⟩ := HF1.out rfl
    have hzy : ¬ (y : Int) < (z : Int) := by omega
    go_wp2_with (first | (go_at_call 8; (with_reducible refine (hi1 _).mono ?_); rintro e w1 ⟨rfl, rfl⟩) | (go_at_call 8; (with_reducible refine (hi2 _).mono ?_); rintro e w1 ⟨rfl, rfl⟩))
    go_meet
    exact ⟨rfl, .refl _ _⟩
 case rest =>
  obtain ⟨rfl, hB⟩ := hcut
  replace h := h.call hB
  clear q0 q1 q2 q3 q4; clear hB; obtain ⟨⟨q0, q1, q2, q3, q4⟩, _⟩ := h.c5; have qz := lt_of_cell q0
  clear hy1 hy2 hi1 hi2
  rcases HA.out with ⟨h1, rfl, hyn⟩ | ⟨h0, ha1, ha2, ha3⟩
  ·have hyn : (y : Int) ≤ (nN : Int) := by omega
   have hgw1 : ∀ W, Below w.heap.size w W → Calls qf 9 #[.agg #[.int .i64 lim.1, .int .i64 lim.2, .int .i64 gr, .int .i64 hr, .slice (some ⟨b, o, none⟩) gs.length gc], .int .i64 nN] W fun e w' => e = .returned (.tuple #[bz, .int .i64 1]) ∧ Below W.heap.size W w' := fun W hW => (HGW.out W hW).mono fun e w' k => ⟨by
    have k1 := k.1
    unfold Xv at k1
    rw [if_pos (by rw [h1]; decide), h1] at k1
    exact k1, k.2⟩
   simp only [bz] at hgw1
   clear HGW h1 HA HE HS
   go_wp2_with (first | (go_at_call 9; (with_reducible refine (hgw1 _ h.bw).mono ?_); rintro e w4 ⟨rfl, hB⟩; replace h := h.call hB; clear q0 q1 q2 q3 q4; clear hB; obtain ⟨⟨q0, q1, q2, q3, q4⟩, _⟩ := h.c5; have qz := lt_of_cell q0) | (go_at_call 6; (refine (HL _ (h.call (by go_grown)).gl).mono ?_); rintro e w9 ⟨rfl, hB9⟩))
   go_ret
   exact ⟨rfl, ((h.call (by go_grown)).call hB9).bw⟩
  ·have hgw0 : ∀ W, Below w.heap.size w W → Calls qf 9 #[.agg #[.int .i64 lim.1, .int .i64 lim.2, .int .i64 gr, .int .i64 hr, .slice (some ⟨b, o, none⟩) gs.length gc], .int .i64 nN] W fun e w' => (∃ g gc' l tb, e = .returned (.tuple #[bv ⟨lim, gr, hr, l, some ⟨g, 0, none⟩, gc'⟩, .int .i64 0]) ∧ Xk W.heap.size ⟨lim, gr, hr, gs, some ⟨b, o, none⟩, gc⟩ nN w' g gc' l tb) ∧ Below W.heap.size W w' := fun W hW => (HGW.out W hW).mono fun e w' k => ⟨by
    have k1 := k.1
    unfold Xv at k1
    rw [if_neg (by rw [h0]; decide)] at k1
    exact k1, k.2⟩
   have HV := Lib.hid (qp h0)
   have hLi := Lib.hid (goodY_in (qp h0))
   have hLl := goodY_le ⟨lim, gr, hr, gs, some ⟨b, o, none⟩, gc⟩ nN
   have hgd := Lib.hid fun (g gc' : Nat) (l : List Grp) hs W hb hG => qdn (B := ⟨lim, gr, hr, gs, some ⟨b, o, none⟩, gc⟩) (n := nN) (g := g) (gc' := gc') (l := l) hs h0 W hb hG
   have hLp : (jl ⟨lim, gr, hr, gs, some ⟨b, o, none⟩, gc⟩ nN).Pairwise (· < ·) := jL _ _ _
   simp only at hLl ha1 ha2 ha3 hLi
   generalize jl ⟨lim, gr, hr, gs, some ⟨b, o, none⟩, gc⟩ nN = L at *
   have HLp := Lib.hid hLp
   clear HGW h0 HA HE hLp
   go_upto_region 13 with (go_at_call 9; (with_reducible refine (hgw0 _ h.bw).mono ?_); rintro e w4 ⟨⟨g, gc', l, tb, rfl, hN⟩, hB⟩; simp only [bv]; replace h := h.call hB; clear q0 q1 q2 q3 q4; clear hB; obtain ⟨⟨q0, q1, q2, q3, q4⟩, _⟩ := h.c5; have qz := lt_of_cell q0)
   have hbk := Lib.hid (hN.book HS.out)
   have hSg := Lib.hid hN.1
   clear hN HS
   go_upto_region 14 with (go_at_call 10; (refine (hgd.out g gc' l hSg.out _ (hbk.out.keep (by go_grown)) (h.call (by go_grown)).gl).mono ?_); rintro e w5 ⟨⟨a5, c5, rfl, hI⟩, hB⟩; replace h := (h.call (by go_grown)).call hB; clear q0 q1 q2 q3 q4; clear hB; obtain ⟨⟨q0, q1, q2, q3, q4⟩, _⟩ := h.c5; have qz := lt_of_cell q0)
   have hI := Lib.hid hI
   clear hbk hSg hgd
   go_upto_region 16 with (go_at_call 11; (refine (XR _ L gs.length ⟨by omega, by omega⟩ (by omega) hLi.out HLp.out _ hI.out).mono ?_); rintro e w6 ⟨rfl, hB⟩; replace hI := Lib.hid (hI.out.keep hB); replace h := h.call hB; clear q0 q1 q2 q3 q4; clear hB; obtain ⟨⟨q0, q1, q2, q3, q4⟩, _⟩ := h.c5; have qz := lt_of_cell q0)
   have hHas := Lib.hid fun (n : Int) => qcY _ L n (by omega) _ hI.out
   by_cases hc1 : fd = false ∨ nN < y
   ·have hLe := ha1 hc1
    clear ha1 ha2 ha3 hHas hLi HLp hI
    cases fd with
    | false =>
      obtain ⟨rfl, rfl⟩ := HF0.out rfl
      clear hc1 HF0 HF1
      go_wp2_with (go_at_call 6; (refine (HL _ h.gl).mono ?_); rintro e w9 ⟨rfl, hB9⟩)
      go_ret
      exact ⟨rfl, (h.call hB9).bw⟩
    | true =>
      have hny : (nN : Int) < (y : Int) := by have := hc1.resolve_left (by decide); omega
      clear hc1 HF0 HF1
      go_wp2_with (go_at_call 6; (refine (HL _ h.gl).mono ?_); rintro e w9 ⟨rfl, hB9⟩)
      go_ret
      exact ⟨rfl, (h.call hB9).bw⟩
   ·have hfd : fd = true := by
     cases fd with
     | true => rfl
     | false => exact absurd (.inl rfl) hc1
    subst hfd
    have hny : ¬ (nN : Int) < (y : Int) := by have := fun h => hc1 (.inr h); omega
    clear hc1 HF0 HF1 ha1
    by_cases hc2 : y < nN
    ·have hLt := ha2 rfl hc2
     have hLt : (L.length : Int) < (gs.length : Int) := by omega
     have hc2 : (y : Int) < (nN : Int) := by omega
     clear ha2 ha3 hHas hLi HLp hI
     go_wp2_with (go_at_call 6; (refine (HL _ h.gl).mono ?_); rintro e w9 ⟨rfl, hB9⟩)
     go_ret
     exact ⟨rfl, (h.call hB9).bw⟩
    ·obtain ⟨hy, hn⟩ := ha3 rfl (by omega)
     have hc2 : ¬ (y : Int) < (nN : Int) := by omega
     have hHk := hHas.out (k : Int)
     rw [hasI_no hn] at hHk
     have HY := Lib.hid fun (j : Nat) (hj : j < k) => (hasI_yes (hy j hj)) ▸ hHas.out (j : Int)
     clear ha2 ha3 hHas hLi HLp hI hy hn
     go_wp2
     go_loop [19] (fun i => ∃ j : Nat, i = .int .i64 j ∧ j ≤ k) (fun i => k - (intOf i).toNat)
     case atStart => exact ⟨0, rfl, Nat.zero_le _⟩
     case round =>
      obtain ⟨j, rfl, hj⟩ := hrel
      by_cases hlt : j < k
      ·have hh := HY.out j hlt
       have i1 : (j : Int) < (k : Int) := by omega
       go_wp2_with (go_at_call 12; (with_reducible refine (hh).mono ?_); rintro e w1 ⟨rfl, rfl⟩)
       go_round
       case rel => exact ⟨j + 1, by go_num, by omega⟩
       case measure => simp [intOf]; omega
      ·obtain rfl : j = k := by omega
       go_wp2_with (first | (go_at_call 12; (with_reducible refine (hHk).mono ?_); rintro e w1 ⟨rfl, rfl⟩) | (go_at_call 6; (refine (HL _ h.gl).mono ?_); rintro e w9 ⟨rfl, hB9⟩))
       go_ret
       exact ⟨rfl, (h.call hB9).bw⟩
theorem qbb (HL : ∀ W, Globs W → Calls qf 6 #[] W fun e w' => e = .returned (.bool true) ∧ Below W.heap.size W w') (B : Bk) (years more : Int) (hh : 0 ≤ years ∧ years ≤ 255) (ho : 0 ≤ more ∧ more ≤ 255) (w : World) (hG : Globs w) (hB : BookIn w B) (hc : B.gs.length ≤ B.gc) :
 Calls qf 3 #[bv B, .int .u8 years, .int .u8 more] w fun e w' => e = .returned (.bool true) ∧ Below w.heap.size w w' := by
 cases hf : fitB B with
 | false => exact Xm HL B years more w hG hB hc hf
 | true => exact JO HL B years more hh ho w hG hB hc hf
end Go.Proofs.Tryz
end
