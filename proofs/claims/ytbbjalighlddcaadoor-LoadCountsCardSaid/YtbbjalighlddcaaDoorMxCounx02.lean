/-
  A part of the proof (C60 C61 C62): lemmas about the program and about the machine that the last text of this claim rests upon; no condition.
-/
import Derived.Maps.AppendAt
import Derived.Test.YtbbjalighlddcaaDoorM12
import Derived.Test.YtbbjalighlddcaaDoorM04
import Derived.Test.YtbbjalighlddcaaDoorM06
set_option linter.unusedSimpArgs false
set_option linter.unusedVariables false
section
namespace Go.Proofs.Tryd
open Go Go.Load Go.RowKit
def chN (q : List Int) (i : Nat) : Int := (q[i]?).getD 0
def pkN (l : List (Int × Int)) (q : List Int) (i : Nat) : Int := (l.getD i (0, 0)).1 + chN q i % ((l.getD i (0, 0)).2 - (l.getD i (0, 0)).1 + 1)
def realN (l : List (Int × Int)) (q : List Int) (k : Nat) : List (Int × Int) := (List.range k).map fun i => (pkN l q i, pkN l q i)
def oneAt (l : List (Int × Int)) (q : List Int) (m : Nat) (i : Nat) : Int × Int := if i = m then (pkN l q i, (l.getD i (0, 0)).2) else l.getD i (0, 0)
def oneN (l : List (Int × Int)) (q : List Int) (m k : Nat) : List (Int × Int) := (List.range k).map (oneAt l q m)
theorem realN_snoc (l : List (Int × Int)) (q : List Int) (k : Nat) : realN l q (k + 1) = realN l q k ++ [(pkN l q k, pkN l q k)] := by unfold realN; rw [List.range_succ, List.map_append]; rfl
theorem oneN_snoc (l : List (Int × Int)) (q : List Int) (m k : Nat) : oneN l q m (k + 1) = oneN l q m k ++ [oneAt l q m k] := by unfold oneN; rw [List.range_succ, List.map_append]; rfl
theorem realN_length (l : List (Int × Int)) (q : List Int) (k : Nat) : (realN l q k).length = k := by simp [realN]
theorem oneN_length (l : List (Int × Int)) (q : List Int) (m k : Nat) : (oneN l q m k).length = k := by simp [oneN]
theorem sum1_snoc (l : List (Int × Int)) (x : Int × Int) : sum1 (l ++ [x]) = sum1 l + x.1 := by simp [sum1]
theorem sum2_snoc (l : List (Int × Int)) (x : Int × Int) : sum2 (l ++ [x]) = sum2 l + x.2 := by simp [sum2]
theorem getDP_of {l : List (Int × Int)} {k : Nat} {x : Int × Int} (h : l[k]? = some x) : l.getD k (0, 0) = x := by rw [List.getD_eq_getElem?_getD, h]; rfl
theorem pk_in {l : List (Int × Int)} {q : List Int} {k : Nat} {x : Int × Int} (h : l[k]? = some x) (hc : Cnt x) : pkN l q k = x.1 + chN q k % (x.2 - x.1 + 1) ∧ x.1 ≤ pkN l q k ∧ pkN l q k ≤ x.2 := by
 have e : pkN l q k = x.1 + chN q k % (x.2 - x.1 + 1) := by unfold pkN; rw [getDP_of h]
 obtain ⟨h1, h2, h3⟩ := hc
 have a := Int.emod_nonneg (chN q k) (show x.2 - x.1 + 1 ≠ 0 by omega)
 have b := Int.emod_lt_of_pos (chN q k) (show 0 < x.2 - x.1 + 1 by omega)
 exact ⟨e, by omega, by omega⟩
theorem one_in {l : List (Int × Int)} {q : List Int} {m k : Nat} {x : Int × Int} (h : l[k]? = some x) (hc : Cnt x) : x.1 ≤ (oneAt l q m k).1 ∧ (oneAt l q m k).2 = x.2 ∧ Cnt (oneAt l q m k) := by
 obtain ⟨_, h1, h2⟩ := pk_in (q := q) h hc
 unfold oneAt
 rw [getDP_of h]
 split
 ·refine ⟨h1, rfl, ?_, h2, hc.2.2⟩
  have := hc.1
  show 0 ≤ pkN l q k
  omega
 ·exact ⟨Int.le_refl _, rfl, hc⟩
structure MadeN (l : List (Int × Int)) (q : List Int) (m k : Nat) : Prop where
 c1 : ∀ x ∈ realN l q k, Cnt x
 c2 : ∀ x ∈ oneN l q m k, Cnt x
 same : sum2 (realN l q k) = sum1 (realN l q k)
 lo : sum1 (l.take k) ≤ sum1 (realN l q k)
 hi : sum1 (realN l q k) ≤ sum2 (l.take k)
 on : sum1 (l.take k) ≤ sum1 (oneN l q m k)
 ot : sum2 (oneN l q m k) = sum2 (l.take k)
theorem made_n {l : List (Int × Int)} {q : List Int} {m : Nat} (h : ∀ x ∈ l, Cnt x) : ∀ k, k ≤ l.length → MadeN l q m k
 | 0, _ => ⟨by simp [realN], by simp [oneN], rfl, by simp [realN, sum1], by simp [realN, sum1, sum2], by simp [oneN, sum1], by simp [oneN, sum2]⟩
 | k + 1, hk => by
   have ih := made_n (q := q) (m := m) h k (by omega)
   obtain ⟨x, hx⟩ : ∃ x, l[k]? = some x := ⟨l[k]'(by omega), by simp⟩
   have hc := h x (List.mem_of_getElem? hx)
   obtain ⟨_, p1, p2⟩ := pk_in (q := q) hx hc
   obtain ⟨o1, o2, o3⟩ := one_in (q := q) (m := m) hx hc
   have a := ih.same
   have b := ih.lo
   have c := ih.hi
   have d := ih.on
   have e := ih.ot
   have g0 := hc.1
   have g9 := hc.2.2
   refine ⟨fun y hy => ?_, fun y hy => ?_, ?_, ?_, ?_, ?_, ?_⟩
   ·rw [realN_snoc] at hy
    rcases List.mem_append.1 hy with hy | hy
    ·exact ih.c1 y hy
    ·obtain rfl := List.mem_singleton.1 hy
     exact ⟨by show 0 ≤ pkN l q k; omega, Int.le_refl _, by show pkN l q k ≤ 9; omega⟩
   ·rw [oneN_snoc] at hy
    rcases List.mem_append.1 hy with hy | hy
    ·exact ih.c2 y hy
    ·obtain rfl := List.mem_singleton.1 hy
     exact o3
   ·rw [realN_snoc, sum2_snoc, sum1_snoc]; show _ + pkN l q k = _ + pkN l q k; omega
   ·rw [realN_snoc, sum1_snoc, sum1_take hx]; show _ ≤ _ + pkN l q k; omega
   ·rw [realN_snoc, sum1_snoc, sum2_take hx]; show _ + pkN l q k ≤ _; omega
   ·rw [oneN_snoc, sum1_snoc, sum1_take hx]; omega
   ·rw [oneN_snoc, sum2_snoc, sum2_take hx]; omega
theorem real_small {l : List (Int × Int)} {q : List Int} {m k : Nat} (h : MadeN l q m k) : 0 ≤ sum1 (realN l q k) ∧ sum1 (realN l q k) ≤ 9 * k := by
 have := sum1_in (l := realN l q k) (m := 9) fun x hx => ⟨(h.c1 x hx).1, by have := h.c1 x hx; have a := this.2.1; have b := this.2.2; omega⟩
 rwa [realN_length] at this
theorem made_take {l : List (Int × Int)} {q : List Int} {k : Nat} (hk : k ≤ l.length) (h : ∀ x ∈ l.take k, Cnt x) : 0 ≤ sum1 (realN l q k) ∧ sum1 (realN l q k) ≤ 9 * k := by
 induction k with
 | zero => simp [realN, sum1]
 | succ k ih =>
   obtain ⟨x, hx⟩ : ∃ x, l[k]? = some x := ⟨l[k]'(by omega), by simp⟩
   have hm : x ∈ l.take (k + 1) := by
    rw [List.mem_iff_getElem?]
    exact ⟨k, by rw [List.getElem?_take, if_pos (by omega)]; exact hx⟩
   have hc := h x hm
   obtain ⟨_, p1, p2⟩ := pk_in (q := q) hx hc
   obtain ⟨a, b⟩ := ih (by omega) fun y hy => h y (by
    rw [List.take_add_one]; exact List.mem_append_left _ hy)
   have g0 := hc.1
   have g9 := hc.2.2
   rw [realN_snoc, sum1_snoc]
   show 0 ≤ _ + pkN l q k ∧ _ + pkN l q k ≤ _
   omega
theorem counts_law {l : List (Int × Int)} {q : List Int} {m : Nat} (h : ∀ x ∈ l, Cnt x) {d : Int} (hd : 1 ≤ d) (hl : 1 ≤ l.length) :
 let N : Int := l.length
 let S := sum1 (realN l q l.length)
 let y := d * S / N
 y * N ≤ d * S ∧ d * S < (y + 1) * N ∧ d * sum1 l / N ≤ y ∧ y ≤ d * sum2 l / N ∧ d * sum1 l / N ≤ d * sum1 (oneN l q m l.length) / N ∧ d * sum2 (oneN l q m l.length) / N ≤ d * sum2 l / N := by
 intro N S y
 have M := made_n (q := q) (m := m) h l.length (Nat.le_refl _)
 have hN : 0 < N := by show (0 : Int) < (l.length : Int); omega
 have a := M.lo
 have b := M.hi
 have c := M.on
 have e := M.ot
 rw [List.take_length] at a b c e
 have k := fun {x z : Int} (h : x ≤ z) => Int.ediv_le_ediv hN (Int.mul_le_mul_of_nonneg_left h (show 0 ≤ d by omega))
 refine ⟨Int.ediv_mul_le _ (by omega), Int.lt_ediv_add_one_mul_self _ hN, k a, k b, k c, ?_⟩
 rw [e]; exact Int.le_refl _
end Go.Proofs.Tryd
end
section
namespace Go.Proofs.Tryd
open Go Go.Load Go.RowKit Go.Instr Go.Maps
theorem spB : srcP.underlying 43 = some (.struct (srcP.fieldsOf 43)) := by kernel_rfl
theorem hpB : srcP.stoodInHeld 43 = false := by kernel_rfl
theorem eqb (d : Nat) (a b a' b' : Int) (w : World) : (Op.equalIn (d + 2) 43 (.agg #[.int .i64 a, .int .i64 b]) (.agg #[.int .i64 a', .int .i64 b'])).run srcP w = .ok (a == a' && b == b') w := by
 rw [run_equalIn_agg w (d + 1) 43 _ _ spB hpB]
 have e0 : (Op.eqFields (d + 1) #[.int .i64 a, .int .i64 b] #[.int .i64 a', .int .i64 b'] (srcP.fieldsOf 43).toList).run srcP w = (if (!(a == a')) = true then (pure false : Sem Bool) else Op.eqFields (d + 1) #[.int .i64 a, .int .i64 b] #[.int .i64 a', .int .i64 b'] (srcP.fieldsOf 43).toList.tail).run srcP w := by kernel_rfl
 rw [e0]
 cases h : (a == a') with
 | false => simp
 | true =>
   have e1 : (Op.eqFields (d + 1) #[.int .i64 a, .int .i64 b] #[.int .i64 a', .int .i64 b'] (srcP.fieldsOf 43).toList.tail).run srcP w = (if (!(b == b')) = true then (pure false : Sem Bool) else pure true).run srcP w := by kernel_rfl
   simp only [Bool.not_true, Bool.false_eq_true, if_false]
   rw [e1]
   cases h : (b == b') <;> simp
@[go_sem] theorem eqb_run (a b a' b' : Int) (w : World) : (Op.equalIn 10000 43 (.agg #[.int .i64 a, .int .i64 b]) (.agg #[.int .i64 a', .int .i64 b'])).run srcP w = .ok (a == a' && b == b') w := eqb 9998 a b a' b' w
@[go_sem] theorem eqlb_run (a b a' b' : Int) (w : World) : (binOp .eql 43 (.agg #[.int .i64 a, .int .i64 b]) (.agg #[.int .i64 a', .int .i64 b'])).run srcP w = .ok (.bool (a == a' && b == b')) w := by
  rw [run_eql_struct, eqb_run]; rfl
theorem hmB : srcP.eqGuardType srcP.depth 43 = false := by kernel_rfl
@[go_sem] theorem guardb_run (op : BinOp) (p q : Operand) (xs ys : Array Value) (w : World) : (eqGuard op 43 p q (.agg xs) (.agg ys)).run srcP w = .ok () w := run_eqGuard_agg w op _ p q xs ys hmB
set_option maxRecDepth 100000 in
theorem Inside_yes (x : Int × Int) (w : World) (h : Cnt x) : Calls srcP 25 #[.agg #[.int .i64 x.1, .int .i64 x.2], .int .i64 0, .int .i64 9] w fun e w' => e = .returned (.bool true) ∧ Below w.heap.size w w' := by
 obtain ⟨h1, h2, h3⟩ := h
 go_enter s25, ntmps25
 go_wp2
 go_ret
 exact ⟨by simp_all, by go_grown⟩
set_option maxRecDepth 100000 in
theorem Inside_no (x : Int × Int) (w : World) (h : ¬ Cnt x) : Calls srcP 25 #[.agg #[.int .i64 x.1, .int .i64 x.2], .int .i64 0, .int .i64 9] w fun e w' => e = .returned (.bool false) ∧ Below w.heap.size w w' := by
 obtain ⟨x1, x2⟩ := x
 have h' : ¬ (0 ≤ x1 ∧ x1 ≤ x2 ∧ x2 ≤ 9) := h
 by_cases h2 : x1 ≤ x2
 ·by_cases h1 : 0 ≤ x1
  ·have h3 : ¬ x2 ≤ 9 := by omega
   go_enter s25, ntmps25
   go_wp2
   go_ret
   exact ⟨by simp_all, by go_grown⟩
  ·go_enter s25, ntmps25
   go_wp2
   go_ret
   exact ⟨by simp_all, by go_grown⟩
 ·go_enter s25, ntmps25
  go_wp2
  go_ret
  exact ⟨by simp_all, by go_grown⟩
def U16At (w : World) (b o : Nat) (q : List Int) : Prop := ∀ (i : Nat) (x : Int), q[i]? = some x → w.cell? ⟨b, o + i, none⟩ = some (.int .u16 x)
theorem U16At.keep {w w1 : World} {b o : Nat} {q : List Int} (h : U16At w b o q) (hB : Below w.heap.size w w1) : U16At w1 b o q := fun i x hx => keep_cell _ hB (h i x hx)
set_option maxRecDepth 100000 in
theorem Choice_any (q : List Int) (a : Option Addr) (c k : Nat) (hk : k ≤ 20) (hq : ∀ x ∈ q, 0 ≤ x ∧ x ≤ 65535) (w : World) (hP : 1 ≤ q.length → ∃ b o, a = some ⟨b, o, none⟩ ∧ U16At w b o q) :
 Calls srcP 27 #[.slice a q.length c, .int .i64 k] w fun e w' => e = .returned (.int .i64 (chN q k)) ∧ w = w' := by
 unfold chN
 by_cases h : k < q.length
 ·obtain ⟨b, o, rfl, hu⟩ := hP (by omega)
  obtain ⟨x, hx⟩ : ∃ x, q[k]? = some x := ⟨q[k], by simp [h]⟩
  have hc := hu k x hx
  have hx2 := hq x (List.mem_of_getElem? hx)
  rw [hx]
  clear hu hP hq hx
  have hi : (k : Int) < (q.length : Int) := by omega
  go_enter s27, ntmps27
  go_wp2
  go_ret
  exact ⟨rfl, rfl⟩
 ·have e : q[k]? = none := by simp; omega
  rw [e]
  have hi : (q.length : Int) ≤ (k : Int) := by omega
  clear hP hq e
  go_enter s27, ntmps27
  go_wp2
  go_ret
  exact ⟨rfl, rfl⟩
set_option maxRecDepth 100000 in
theorem Pick_any (x : Int × Int) (n : Int) (h : Cnt x) (hn : 0 ≤ n) (hn2 : n ≤ 65535) (w : World) :
 Calls srcP 26 #[.agg #[.int .i64 x.1, .int .i64 x.2], .int .i64 n] w fun e w' => e = .returned (.int .i64 (x.1 + n % (x.2 - x.1 + 1))) ∧ Below w.heap.size w w' := by
 obtain ⟨x1, x2⟩ := x
 obtain ⟨h1, h2, h3⟩ := h
 simp only at h1 h2 h3 ⊢
 have m1 := Int.emod_nonneg n (show x2 - x1 + 1 ≠ 0 by omega)
 have m2 := Int.emod_lt_of_pos n (show 0 < x2 - x1 + 1 by omega)
 have e1 : IntKind.i64.wrap (x2 - x1) = x2 - x1 := IntWalk.i64_in _ (by omega)
 have e2 : IntKind.i64.wrap (x2 - x1 + 1) = x2 - x1 + 1 := IntWalk.i64_in _ (by omega)
 have e3 : IntKind.i64.wrap (x1 + n % (x2 - x1 + 1)) = x1 + n % (x2 - x1 + 1) := IntWalk.i64_in _ (by omega)
 have z1 : (x2 - x1 + 1 == 0) = false := by rw [beq_eq_false_iff_ne]; omega
 have z2 : 0 < x2 - x1 + 1 := by omega
 go_enter s26, ntmps26
 go_wp2
 go_quiet (fail)
 go_wp2
 go_ret
 exact ⟨rfl, below_drewN ((Below.refl _ w).alloc (Nat.le_refl _) _) _⟩
end Go.Proofs.Tryd
end
section
namespace Go.Proofs.Tryd
open Go Go.Load Go.RowKit Go.Maps
theorem s8 : srcP.funcs[8]? = some f8 := by kernel_rfl
theorem info_band : (Tryd.prog.info? 43).map (fun i => (i.zero, i.size, i.bytes)) = some (some (.agg #[.int .i64 0, .int .i64 0]), 2, 16) := by kernel_rfl
def Apt (v1 v2 : Value) : Prop := v2.ownBlock = none ∨ v2.ownBlock ≠ v1.ownBlock
theorem Apt.left {w : World} {base e s n z : Nat} {xs : List Value} {v1 v1' v2 : Value} (h : Apt v1 v2) (h2 : w.ownsRow base e s v2 n xs) (hz : w.heap.size ≤ z) (hat : v1'.ownBlock = v1.ownBlock ∨ v1'.ownBlock = some z) : Apt v1' v2 := by
 rcases hat with e | e
 ·unfold Apt; rw [e]; exact h
 ·rcases hb : v2.ownBlock with _ | g
  ·exact .inl hb
  ·refine .inr ?_
   have := (h2.lt g hb).2
   rw [hb, e]
   intro h; cases h; omega
theorem Apt.right {w : World} {base e s n z : Nat} {xs : List Value} {v1 v2' v2 : Value} (h : Apt v1 v2) (h1 : w.ownsRow base e s v1 n xs) (hz : w.heap.size ≤ z) (hat : v2'.ownBlock = v2.ownBlock ∨ v2'.ownBlock = some z) : Apt v1 v2' := by
 rcases hat with e | e
 ·unfold Apt; rw [e]; exact h
 ·refine .inr ?_
  rw [e]
  intro h
  have := (h1.lt z h.symm).2
  omega
theorem Apt.flip {v1 v2 : Value} (h : Apt v1 v2) : v1.ownBlock = none ∨ v1.ownBlock ≠ v2.ownBlock := by
 rcases h1 : v1.ownBlock with _ | g
 ·exact .inl rfl
 ·refine .inr ?_
  rcases h with h | h
  ·rw [h]; simp
  ·rw [h1] at h; exact fun e => h e.symm
theorem pairCells_snoc (l : List (Int × Int)) (x : Int × Int) : pairCells (l ++ [x]) = pairCells l ++ [.int .i64 x.1, .int .i64 x.2] := by simp [pairCells]
theorem cell_two_new (w : World) (x y : Value) (t : TypeId) : ∀ j u, [x, y][j]? = some u → (w.alloc (.cells #[x, y] t)).cell? ((⟨w.heap.size, 0, none⟩ : Addr).add j) = some u := by
 intro j u hu
 have ha : (⟨w.heap.size, 0, none⟩ : Addr).add j = ⟨w.heap.size, j, none⟩ := by unfold Addr.add; split <;> simp_all
 rw [ha]
 have hj : j < 2 := (List.getElem?_eq_some_iff.1 hu).1
 rw [new_cell w #[x, y] t j hj]
 rcases (show j = 0 ∨ j = 1 by omega) with rfl | rfl
 ·simpa using hu
 ·simpa using hu
theorem ints_two (a b : Int) : ∀ u ∈ [Value.int .i64 a, .int .i64 b], u.oneCell' = true := by
 intro u hu
 rcases List.mem_cons.1 hu with rfl | hu
 ·rfl
 ·obtain rfl := List.mem_singleton.1 hu; rfl
structure CRel (l : List (Int × Int)) (q : List Int) (m B k : Nat) (W : World) (v1 v2 : Value) (wr : World) : Prop where
 bw : Below W.heap.size W wr
 o1 : wr.ownsRow B 43 2 v1 k (pairCells (realN l q k))
 o2 : wr.ownsRow B 43 2 v2 k (pairCells (oneN l q m k))
 ap : Apt v1 v2
abbrev RSb (W : World) (b o : Nat) (a : Int × Int) (X : World) : Prop := X.cell? ⟨b, o, none⟩ = some (.int .i64 a.1) ∧ X.cell? ⟨b, o + 1, none⟩ = some (.int .i64 a.2) ∧ Below W.heap.size W X
theorem RSb.call {W X Y : World} {b o : Nat} {a : Int × Int} (h : RSb W b o a X) (hB : Below X.heap.size X Y) : RSb W b o a Y := ⟨keep_cell _ hB h.1, keep_cell _ hB h.2.1, Below.call h.2.2 hB (Nat.le_refl _)⟩
theorem RSb.drew {W X : World} {b o : Nat} {a : Int × Int} (h : RSb W b o a X) : RSb W b o a X.drew := ⟨h.1, h.2.1, ⟨h.2.2.os, h.2.2.tape, h.2.2.output, h.2.2.size, h.2.2.block⟩⟩
theorem RSb.bel {W X : World} {b o : Nat} {a : Int × Int} (h : RSb W b o a X) : Below W.heap.size W X := h.2.2
set_option maxHeartbeats 16000000 in
set_option maxRecDepth 100000 in
theorem LoadCounts_out (HL : ∀ W, Globs W → Calls srcP 14 #[] W fun e w' => e = .returned (.bool true) ∧ Below W.heap.size W w') (n : Nat) (a a2 : Option Addr) (c n2 c2 : Nat) (parts which : Int) (hn : ¬ (1 ≤ n ∧ n ≤ 4)) (w : World) (hG : Globs w) :
 Calls srcP 8 #[.slice a n c, .int .u8 parts, .slice a2 n2 c2, .int .u8 which] w fun e w' => e = .returned (.bool true) ∧ Below w.heap.size w w' := by
 by_cases h0 : n = 0
 ·subst h0
  go_enter s8, ntmps8
  go_wp2_with (go_at_call 14; refine (HL _ hG).mono ?_; rintro e w' ⟨rfl, hB⟩)
  go_ret
  exact ⟨rfl, hB⟩
 ·have h4 : decide ((4 : Int) < (n : Int)) = true := decide_eq_true (by omega)
  have h5 : (4 : Int) < (n : Int) := by omega
  have h1 : ((n : Int) == 0) = false := by rw [beq_eq_false_iff_ne]; omega
  go_enter s8, ntmps8
  go_wp2_with (go_at_call 14; refine (HL _ hG).mono ?_; rintro e w' ⟨rfl, hB⟩)
  go_ret
  exact ⟨rfl, hB⟩
set_option maxHeartbeats 16000000 in
set_option maxRecDepth 100000 in
theorem LoadCounts_in (HL : ∀ W, Globs W → Calls srcP 14 #[] W fun e w' => e = .returned (.bool true) ∧ Below W.heap.size W w') (l : List (Int × Int)) (q : List Int) (b o : Nat) (a2 : Option Addr) (c c2 : Nat) (parts which : Int) (hn : 1 ≤ l.length ∧ l.length ≤ 4)
 (hp : 0 ≤ parts ∧ parts ≤ 255) (hw : 0 ≤ which ∧ which ≤ 255) (hq : ∀ x ∈ q, 0 ≤ x ∧ x ≤ 65535) (w : World) (hG : Globs w) (hP : PairsAt w b o l) (hQ : 1 ≤ q.length → ∃ b o, a2 = some ⟨b, o, none⟩ ∧ U16At w b o q) :
 Calls srcP 8 #[.slice (some ⟨b, o, none⟩) l.length c, .int .u8 parts, .slice a2 q.length c2, .int .u8 which] w fun e w' => e = .returned (.bool true) ∧ Below w.heap.size w w' := by
 obtain ⟨i0, hi, hz0, hz1, hz2⟩ := info_parts info_band
 have hi := (src_info 43).trans hi
 have hU : srcP.underlying 40 = some (.slice 43) := (src_und _).trans Tryd.underlying40
 obtain ⟨d, ed, hd⟩ : ∃ d : Nat, 1 + parts % 4 = (d : Int) ∧ 1 ≤ d ∧ d ≤ 4 := ⟨(1 + parts % 4).toNat, by omega, by omega, by omega⟩
 have hN0 : ¬ (l.length : Int) = 0 := by omega
 have hN1 : (0 : Int) < (l.length : Int) := by omega
 have hNb : ((l.length : Int) == 0) = false := by rw [beq_eq_false_iff_ne]; omega
 have hN4 : decide ((4 : Int) < (l.length : Int)) = false := decide_eq_false (by omega)
 obtain ⟨m, em, hm⟩ : ∃ m : Nat, which % (l.length : Int) = m ∧ m < l.length := by
  have h1 := Int.emod_nonneg which hN0
  have h2 := Int.emod_lt_of_pos which hN1
  exact ⟨(which % (l.length : Int)).toNat, by omega, by omega⟩
 obtain ⟨x1, x2, s, hV⟩ : ∃ x1 x2 s : Int, Hid (fitsV l d = tv (x1, x2) s ∧ ((∀ x ∈ l, Cnt x) → x1 = d * sum1 l / l.length ∧ x2 = d * sum2 l / l.length ∧ s = 0) ∧ (¬ (∀ x ∈ l, Cnt x) → x1 = 0 ∧ x2 = 0 ∧ s = 1)) := by
  unfold fitsV
  rw [if_pos hn]
  by_cases h : ∀ x ∈ l, Cnt x
  ·rw [if_pos ⟨h, by omega, by omega⟩]
   exact ⟨_, _, _, Lib.hid ⟨rfl, fun _ => ⟨rfl, rfl, rfl⟩, fun h' => absurd h h'⟩⟩
  ·rw [if_neg fun h' => h h'.1]
   exact ⟨_, _, _, Lib.hid ⟨rfl, fun h' => absurd h' h, fun _ => ⟨rfl, rfl, rfl⟩⟩⟩
 have hfi := fun (W : World) (hB : Below w.heap.size w W) => Fits_any l (some ⟨b, o, none⟩) c (d : Int) W fun _ => ⟨b, o, rfl, hP.keep hB⟩
 rw [hV.out.1] at hfi
 simp only [tv, fv] at hfi
 have HF := Lib.hid hfi
 have HP := Lib.hid hP
 have HQ := Lib.hid fun (k : Nat) (hk : k ≤ 20) (W : World) (hB : Below w.heap.size w W) => Choice_any q a2 c2 k hk hq W fun h => by
  obtain ⟨b, o, e, hu⟩ := hQ h
  exact ⟨b, o, e, hu.keep hB⟩
 have HQ2 : Hid (∀ k, 0 ≤ chN q k ∧ chN q k ≤ 65535) := Lib.hid fun k => by
  unfold chN
  rcases h : q[k]? with _ | x
  ·simp
  ·exact hq x (List.mem_of_getElem? h)
 have HE := Lib.hid em
 clear hfi hP hQ hq em
 go_enter s8, ntmps8
 go_wp2
 try simp only [ed]
 go_at_call 24
 refine (HF.out _ (Below.refl _ _)).mono ?_
 rintro e w' ⟨rfl, hB⟩
 have h : KSt w w' [] := ⟨fun p hp => (by cases hp), hG.keep hB, hB⟩
 clear hB hG HF
 replace h := h.box2 (.int .i64 x1) (.int .i64 x2) 43
 go_wp2
 generalize w'.alloc (.cells #[.int .i64 x1, .int .i64 x2] 43) = W at h ⊢
 generalize w'.heap.size = z1 at h ⊢
 go_loopw [12, 13, 14, 15] (fun v1 v2 sv i wr => ∃ k : Nat, i = .int .i64 k ∧ k ≤ l.length ∧ sv = .int .i64 (sum1 (realN l q k)) ∧ CRel l q m W.heap.size k W v1 v2 wr ∧ Hid (∀ x ∈ l.take k, Cnt x)) (fun _ _ _ i _ => l.length - (intOf i).toNat)
 case atStart => exact ⟨0, rfl, Nat.zero_le _, rfl, ⟨Below.refl _ _, World.ownsRow_nil _ _ _ _, World.ownsRow_nil _ _ _ _, .inl rfl⟩, Lib.hid (by simp)⟩
 case round =>
  obtain ⟨k, rfl, hk, rfl, hC, HT⟩ := hrel
  have hBw : Below w.heap.size w wr := Below.call h.bw hC.bw (Nat.le_refl _)
  by_cases hlt : k < l.length
  ·obtain ⟨x, hx⟩ : ∃ x, l[k]? = some x := ⟨l[k], by simp [hlt]⟩
   have hlti : (k : Int) < (l.length : Int) := by omega
   have hk0 : (0 : Int) ≤ (k : Int) := by omega
   obtain ⟨c0, c1⟩ := HP.out k x hx
   have d0 := keep_cell _ hBw c0
   have d1 := keep_cell _ hBw c1
   by_cases hcx : Cnt x
   ·have hins := fun W => Inside_yes x W hcx
    have hpk := fun W => Pick_any x (chN q k) hcx (HQ2.out k).1 (HQ2.out k).2 W
    obtain ⟨ep, p1, p2⟩ := pk_in (q := q) hx hcx
    rw [← ep] at hpk
    have sm := made_take (q := q) hk HT.out
    have hcho := fun W hB => HQ.out k (by omega) W hB
    have HT2 : Hid (∀ y ∈ l.take (k + 1), Cnt y) := Lib.hid fun y hy => by
     rw [List.take_succ_eq_append_getElem hlt] at hy
     rcases List.mem_append.1 hy with hy | hy
     ·exact HT.out y hy
     ·obtain rfl := List.mem_singleton.1 hy
      rw [(List.getElem?_eq_some_iff.1 hx).2]; exact hcx
    have HR : Hid (realN l q (k + 1) = realN l q k ++ [(pkN l q k, pkN l q k)]) := Lib.hid (realN_snoc l q k)
    have HO : Hid (oneN l q m (k + 1) = oneN l q m k ++ [if k = m then (pkN l q k, x.2) else x]) := Lib.hid (by rw [oneN_snoc]; unfold oneAt; rw [getDP_of hx])
    have HS : Hid (sum1 (realN l q (k + 1)) = sum1 (realN l q k) + pkN l q k) := Lib.hid (by rw [realN_snoc, sum1_snoc])
    have b1 := hcx.1
    have b2 := hcx.2.2
    generalize sum1 (realN l q k) = S at *
    generalize pkN l q k = n at *
    generalize chN q k = cn at *
    have HM := Lib.hid hm
    clear hx hm ep hcx
    obtain ⟨y1, y2⟩ := x
    simp only at p1 p2 b1 b2 c0 c1 d0 d1 hins hpk
    have e1 : IntKind.i64.wrap (S + n) = S + n := IntWalk.i64_in _ (by omega)
    go_wp2_with (go_at_call 25; refine (hins _).mono ?_; rintro e w1 ⟨rfl, hB1⟩)
    have hB2 := Below.call hBw hB1 (Nat.le_refl _)
    have hS0 : RSb w1 b (o + k * 2) (y1, y2) w1 := ⟨keep_cell _ hB1 d0, keep_cell _ hB1 d1, Below.refl _ _⟩
    go_region_held3 (RSb w1 b (o + k * 2) (y1, y2)) (first | exact RSb.drew hS0 | (refine RSb.call ?_ hB; with_reducible assumption) | (refine RSb.call ?_ hB; assumption)) (first | (go_at_call 27; (with_reducible refine (hcho _ (Below.call hB2 (RSb.bel (by assumption)) (Nat.le_refl _))).mono ?_); rintro e wx ⟨rfl, rfl⟩) | (go_at_call 26; (with_reducible refine (hpk _).mono ?_); rintro e wx ⟨rfl, hB⟩))
    all_goals
     rename_i hH
     have hB3 := Below.call hB2 (RSb.bel hH) (Nat.le_refl _)
     have hBx := Below.call hB1 (RSb.bel hH) (Nat.le_refl _)
     have o1 := owns_keep hC.o1 hBx
     have o2 := owns_keep hC.o2 hBx
     have ap := hC.ap
     have hBW := Below.call hC.bw hBx (Nat.le_refl _)
     have sz := hBW.size
     have l1 := lt_of_cell c0
     have l2 := h.bw.size
     clear hS0 hH hB2 hBx hC hB1 d0 d1
     go_wp2_with (first | (at_builtin; refine wpList_append_own_at _ rfl (.tmp 70) (.tmp 74) 40 rfl W.heap.size 43 i0 (.agg #[.int .i64 0, .int .i64 0]) 2 16 hU hi hz0 hz1 hz2 rfl (by decide) _ _ _ rfl (o1.alloc _) ⟨_, 0, none⟩ 1 1 [.int .i64 n, .int .i64 n] rfl rfl (cell_two_new _ _ _ _) (ints_two n n) (by unfold maxLen; omega) (by omega) (by simp; omega) ?_; intro u1 w3 f1 g1 nil1 at1; have hB4 : Below W.heap.size W w3 := (hBW.alloc (by omega) _).grown g1 (by simp; omega) (fun j hj => (o1.lt j hj).1); have sz4 := hB4.size; have hB5 := Below.call h.bw hB4 (Nat.le_refl _); have c0' := keep_cell _ hB5 c0; have c1' := keep_cell _ hB5 c1; have f2 := (o2.alloc _).kept g1 ap; have ap1 := ap.left (o2.alloc _) (Nat.le_refl _) at1) | (at_builtin; refine wpList_append_own_at _ rfl (.tmp 86) (.tmp 94) 40 rfl W.heap.size 43 i0 (.agg #[.int .i64 0, .int .i64 0]) 2 16 hU hi hz0 hz1 hz2 rfl (by decide) _ _ _ rfl (f2.alloc _) ⟨_, 0, none⟩ 1 1 [.int .i64 n, .int .i64 y2] rfl rfl (cell_two_new _ _ _ _) (ints_two n y2) (by unfold maxLen; omega) (by omega) (by simp; omega) ?_; intro u2 w4 f3 g2 nil2 at2) | (at_builtin; refine wpList_append_own_at _ rfl (.tmp 96) (.tmp 101) 40 rfl W.heap.size 43 i0 (.agg #[.int .i64 0, .int .i64 0]) 2 16 hU hi hz0 hz1 hz2 rfl (by decide) _ _ _ rfl (f2.alloc _) ⟨_, 0, none⟩ 1 1 [.int .i64 y1, .int .i64 y2] rfl rfl (cell_two_new _ _ _ _) (ints_two y1 y2) (by unfold maxLen; omega) (by omega) (by simp; omega) ?_; intro u2 w4 f3 g2 nil2 at2))
     all_goals
      have hB6 : Below W.heap.size W w4 := (hB4.alloc (by omega) _).grown g2 (by simp; omega) (fun j hj => (f2.lt j hj).1)
      have r1 : w4.ownsRow W.heap.size 43 2 u1 (k + 1) (pairCells (realN l q (k + 1))) := by rw [HR.out, pairCells_snoc]; exact (f1.alloc _).kept g2 ap1.flip
      have r2 : w4.ownsRow W.heap.size 43 2 u2 (k + 1) (pairCells (oneN l q m (k + 1))) := by
       rw [HO.out, pairCells_snoc]
       have e := HE.out
       first
        | (have h' := beq_iff_eq.1 ‹((k : Int) == which % (l.length : Int)) = true›; rw [if_pos (by omega)]; exact f3)
        | (have h' := beq_eq_false_iff_ne.1 ‹((k : Int) == which % (l.length : Int)) = false›; rw [if_neg (by omega)]; exact f3)
      have r3 := ap1.right (f1.alloc _) (Nat.le_refl _) at2
      go_roundw
      case rel => exact ⟨k + 1, rfl, by omega, by rw [HS.out], ⟨hB6, r1, r2, r3⟩, HT2⟩
      case measure => simp [intOf]; omega
   ·have hins := fun W => Inside_no x W hcx
    have hno : ¬ ∀ x ∈ l, Cnt x := fun h => hcx (h x (List.mem_of_getElem? hx))
    obtain ⟨rfl, rfl, rfl⟩ := hV.out.2.2 hno
    replace h := h.call hC.bw
    have HM := Lib.hid hm
    clear hno hx hcx hm hC
    obtain ⟨y1, y2⟩ := x
    simp only at d0 d1 hins
    go_wp2_with (first | (go_at_call 25; refine (hins _).mono ?_; rintro e w1 ⟨rfl, hB1⟩; replace h := h.call hB1; have k0 := h.cell (⟨z1, 0, none⟩, .int .i64 0) (by simp); have k1 := h.cell (⟨z1, 1, none⟩, .int .i64 0) (by simp); simp only at k0 k1) | (go_at_call 14; refine (HL _ h.gl).mono ?_; rintro e w2 ⟨rfl, hB2⟩))
    go_ret
    exact ⟨rfl, (h.call hB2).bw⟩
  ·obtain rfl : k = l.length := by omega
   have hall : ∀ x ∈ l, Cnt x := by have := HT.out; rwa [List.take_length] at this
   have law := counts_law (q := q) (m := m) hall (d := (d : Int)) (by omega) hn.1
   have M := made_n (q := q) (m := m) hall l.length (Nat.le_refl _)
   have sm := real_small M
   obtain ⟨ex1, ex2, rfl⟩ := hV.out.2.1 hall
   have nn : ∀ {v : Value} {xs : List Value}, wr.ownsRow W.heap.size 43 2 v l.length xs → v ≠ .slice none 0 0 := fun h e => by
    rcases h.2 with ⟨_, h0⟩ | ⟨g, cap, cur, e2, _⟩
    ·omega
    ·rw [e2] at e; cases e
   obtain ⟨g1, cp1, rfl, _, _, _, w1⟩ := own_of_owns hC.o1 (nn hC.o1)
   obtain ⟨g2, cp2, rfl, _, _, _, w2⟩ := own_of_owns hC.o2 (nn hC.o2)
   have hf1 := fun (X : World) (hB : Below wr.heap.size wr X) => Fits_any (realN l q l.length) (some ⟨g1, 0, none⟩) cp1 (d : Int) X fun _ => ⟨g1, 0, rfl, (own_pairs w1).keep hB⟩
   have hf2 := fun (X : World) (hB : Below wr.heap.size wr X) => Fits_any (oneN l q m l.length) (some ⟨g2, 0, none⟩) cp2 (d : Int) X fun _ => ⟨g2, 0, rfl, (own_pairs w2).keep hB⟩
   unfold fitsV at hf1 hf2
   rw [realN_length] at hf1
   rw [oneN_length] at hf2
   simp only [if_pos hn, if_pos (show (∀ x ∈ realN l q l.length, Cnt x) ∧ 1 ≤ (d : Int) ∧ (d : Int) ≤ 4 from ⟨M.c1, by omega, by omega⟩), if_pos (show (∀ x ∈ oneN l q m l.length, Cnt x) ∧ 1 ≤ (d : Int) ∧ (d : Int) ≤ 4 from ⟨M.c2, by omega, by omega⟩), M.same] at hf1 hf2
   simp only [← ex1, ← ex2] at law
   replace h := h.call hC.bw
   clear ex1 ex2 M hall HT nn w1 w2 hC
   generalize sum1 (realN l q l.length) = S at *
   generalize sum1 (oneN l q m l.length) = O1 at *
   generalize sum2 (oneN l q m l.length) = O2 at *
   have yN := Int.ediv_nonneg (Int.mul_nonneg (Int.natCast_nonneg d) sm.1) (Int.natCast_nonneg l.length)
   have yd : (d : Int) * S ≤ 4 * 36 := Int.mul_le_mul (by omega) (by omega) sm.1 (by omega)
   have yd0 : 0 ≤ (d : Int) * S := Int.mul_nonneg (by omega) sm.1
   generalize (d : Int) * S / (l.length : Int) = y at *
   generalize (d : Int) * O1 / (l.length : Int) = q1 at *
   generalize (d : Int) * O2 / (l.length : Int) = q2 at *
   obtain ⟨a1, a2', a3, a4, a5, a6⟩ := law
   have yn0 := Int.mul_nonneg yN (Int.le_of_lt hN1)
   have ys : (y + 1) * (l.length : Int) = y * l.length + l.length := by rw [Int.add_mul, Int.one_mul]
   have yb : y ≤ y * (l.length : Int) := by have := Int.mul_le_mul_of_nonneg_left (show (1 : Int) ≤ (l.length : Int) by omega) yN; rwa [Int.mul_one] at this
   have p1 : IntKind.i64.wrap (y * l.length) = y * l.length := IntWalk.i64_in _ (by omega)
   have p2 : IntKind.i64.wrap ((d : Int) * S) = d * S := IntWalk.i64_in _ (by omega)
   have p3 : IntKind.i64.wrap (y + 1) = y + 1 := IntWalk.i64_in _ (by omega)
   have p4 : IntKind.i64.wrap ((y + 1) * l.length) = (y + 1) * l.length := IntWalk.i64_in _ (by omega)
   have q1' : decide (y * (l.length : Int) ≤ d * S) = true := decide_eq_true a1
   have q2' : decide ((d : Int) * S < (y + 1) * l.length) = true := decide_eq_true a2'
   have q3' : decide (x1 ≤ q1) = true := decide_eq_true a5
   have q4' : decide (q2 ≤ x2) = true := decide_eq_true a6
   have hin := fun W => In_yes y x1 x2 W ⟨a3, a4⟩
   simp only [tv, fv] at hf1 hf2
   have F1 := Lib.hid hf1
   have F2 := Lib.hid hf2
   have HM := Lib.hid hm
   clear hf1 hf2 hm ys
   go_wp2
   go_at_call 24
   refine (F1.out _ (Below.refl _ _)).mono ?_
   rintro e w' ⟨rfl, hB⟩
   have hBq := hB.alloc hB.size (.cells #[.int .i64 y, .int .i64 y] 43)
   replace h := (h.call hB).box2 (.int .i64 y) (.int .i64 y) 43
   clear hB F1
   go_wp2
   generalize w'.alloc (.cells #[.int .i64 y, .int .i64 y] 43) = W2 at h hBq ⊢
   generalize w'.heap.size = z2 at h ⊢
   go_at_call 24
   refine (F2.out _ hBq).mono ?_
   rintro e w' ⟨rfl, hB⟩
   replace h := (h.call hB).box2 (.int .i64 q1) (.int .i64 q2) 43
   clear hB F2 hBq
   have k0a := h.cell (⟨z1, 0, none⟩, .int .i64 x1) (by simp)
   have k0b := h.cell (⟨z1, 1, none⟩, .int .i64 x2) (by simp)
   have k1a := h.cell (⟨z2, 0, none⟩, .int .i64 y) (by simp)
   have k1b := h.cell (⟨z2, 1, none⟩, .int .i64 y) (by simp)
   have k2a := h.cell (⟨w'.heap.size, 0, none⟩, .int .i64 q1) (by simp)
   have k2b := h.cell (⟨w'.heap.size, 1, none⟩, .int .i64 q2) (by simp)
   simp only at k0a k0b k1a k1b k2a k2b
   go_wp2_with (first | (go_at_call 22; refine (hin _).mono ?_; rintro e w2 ⟨rfl, rfl⟩) | (go_at_call 14; refine (HL _ h.gl).mono ?_; rintro e w2 ⟨rfl, hB2⟩))
   go_ret
   exact ⟨rfl, (h.call hB2).bw⟩
theorem LoadCounts_of (HL : ∀ W, Globs W → Calls srcP 14 #[] W fun e w' => e = .returned (.bool true) ∧ Below W.heap.size W w') (l : List (Int × Int)) (q : List Int) (a a2 : Option Addr) (c c2 : Nat) (parts which : Int)
 (hp : 0 ≤ parts ∧ parts ≤ 255) (hw : 0 ≤ which ∧ which ≤ 255) (hq : ∀ x ∈ q, 0 ≤ x ∧ x ≤ 65535) (w : World) (hG : Globs w) (hP : 1 ≤ l.length → ∃ b o, a = some ⟨b, o, none⟩ ∧ PairsAt w b o l) (hQ : 1 ≤ q.length → ∃ b o, a2 = some ⟨b, o, none⟩ ∧ U16At w b o q) :
 Calls srcP 8 #[.slice a l.length c, .int .u8 parts, .slice a2 q.length c2, .int .u8 which] w fun e w' => e = .returned (.bool true) ∧ Below w.heap.size w w' := by
 by_cases hn : 1 ≤ l.length ∧ l.length ≤ 4
 ·obtain ⟨b, o, rfl, hp2⟩ := hP hn.1
  exact LoadCounts_in HL l q b o a2 c c2 parts which hn hp hw hq w hG hp2 hQ
 ·exact LoadCounts_out HL l.length a a2 c q.length c2 parts which hn w hG
end Go.Proofs.Tryd
end
