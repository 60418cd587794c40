/-
  Lemmas about the program and the machine (B11 to B11), upon which the last text of this claim rests; no condition.
-/
import Derived.Test.YtnnhaklgndahdaaGreatDoorM07
set_option linter.unusedSimpArgs false
set_option linter.unusedVariables false
namespace Go.Proofs.Tryz
open Go Go.Sim Go.Load Go.RowKit
def hasI (l : List Int) (n : Int) : Bool := l.any fun x => x == n
set_option maxHeartbeats 2000000 in
set_option maxRecDepth 100000 in
theorem XU (v : Value) (L : List Int) (n : Int) (hl : L.length ≤ 100) (w : World) (h : yJ w v L) : Calls qf 12 #[v, .int .i64 n] w fun e w' => e = .returned (.bool (hasI L n)) ∧ w = w' := by
 obtain ⟨a, c, rfl, hc⟩ := h
 have HC := Lib.hid hc
 clear hc
 go_enter s12, ntmps12
 go_wp2
 go_loop [5] (fun i => ∃ k : Nat, i = .int .i64 k ∧ k ≤ L.length ∧ Hid (∀ (j : Nat) x, j < k → L[j]? = some x → (x == n) = false)) (fun i => L.length - (intOf i).toNat)
 case atStart => exact ⟨0, rfl, Nat.zero_le _, Lib.hid fun j x hj => absurd hj (Nat.not_lt_zero _)⟩
 case round =>
  obtain ⟨k, rfl, hk, HK⟩ := hrel
  by_cases hlt : k < L.length
  ·obtain ⟨x, hx⟩ : ∃ x, L[k]? = some x := ⟨L[k], by simp [hlt]⟩
   obtain ⟨b, rfl, hcs⟩ := HC.out (by omega)
   have c0 := hcs k x hx
   have hm : x ∈ L := List.mem_of_getElem? hx
   cases hq : (x == n) with
   | true =>
     have hh : hasI L n = true := List.any_eq_true.2 ⟨x, hm, hq⟩
     clear hx hm hcs
     go_wp2
     go_ret
     exact ⟨rfl, rfl⟩
   | false =>
     have HN : Hid (∀ (j : Nat) y, j < k + 1 → L[j]? = some y → (y == n) = false) := Lib.hid fun j y hj hy => by
      rcases Nat.lt_succ_iff_lt_or_eq.1 hj with h1 | rfl
      ·exact HK.out j y h1 hy
      ·rw [hx] at hy
       cases hy
       exact hq
     clear hx hm hcs
     go_wp2
     go_round
     case rel => exact ⟨k + 1, by go_num, by omega, HN⟩
     case measure => simp [intOf]; omega
  ·obtain rfl : k = L.length := by omega
   have hh : hasI L n = false := by
    unfold hasI
    rw [List.any_eq_false]
    intro x hx
    obtain ⟨j, hj, rfl⟩ := List.getElem_of_mem hx
    rw [HK.out j L[j] hj (by simp [hj])]
    decide
   go_wp2
   go_ret
   exact ⟨rfl, rfl⟩
set_option maxHeartbeats 2000000 in
set_option maxRecDepth 100000 in
theorem Jp (v : Value) (L : List Int) (n : Int) (hn : 0 ≤ n ∧ n ≤ 100) (hl : L.length ≤ 100) (hA : ∀ x ∈ L, 0 ≤ x ∧ x ≤ n - 1) (hp : L.Pairwise (· < ·)) (w : World) (h : yJ w v L) : Calls qf 10 #[v, .int .i64 n] w fun e w' => e = .returned (.int .i64 0) ∧ Below w.heap.size w w' := by
 obtain ⟨a, c, rfl, hc⟩ := h
 have HC := Lib.hid hc
 have HA := Lib.hid hA
 have HP : Hid (∀ (k : Nat) x y, L[k]? = some x → L[k + 1]? = some y → x < y) := Lib.hid fun k x y hx hy => by
  obtain ⟨h1, rfl⟩ := List.getElem?_eq_some_iff.1 hx
  obtain ⟨h2, rfl⟩ := List.getElem?_eq_some_iff.1 hy
  exact List.pairwise_iff_getElem.1 hp k (k + 1) h1 h2 (by omega)
 have hin := fun (x : Int) (hx : x ∈ L) W => yI x 0 (n - 1) W (hA x hx)
 have HI := Lib.hid hin
 have wn : IntKind.i64.wrap (n - 1) = n - 1 := by rw [IntKind.wrap_i64]; omega
 clear hc hA hp hin
 go_enter s10, ntmps10
 go_wp2
 go_loopw [5] (fun i wr => ∃ k : Nat, i = .int .i64 k ∧ k ≤ L.length ∧ Below w.heap.size w wr) (fun i _ => L.length - (intOf i).toNat)
 case atStart => exact ⟨0, rfl, Nat.zero_le _, .refl _ _⟩
 case round =>
  obtain ⟨k, rfl, hk, hBr⟩ := hrel
  by_cases hlt : k < L.length
  ·obtain ⟨x, hx⟩ : ∃ x, L[k]? = some x := ⟨L[k], by simp [hlt]⟩
   obtain ⟨b, rfl, hcs⟩ := HC.out (by omega)
   have c0 := qb _ hBr (hcs k x hx)
   have hi := HI.out x (List.mem_of_getElem? hx)
   by_cases h0 : k = 0
   ·subst h0
    clear hx hcs
    go_wp2_with (go_at_call 11; (with_reducible refine (hi _).mono ?_); rintro e w1 ⟨rfl, rfl⟩)
    go_quiet (fail)
    go_wp2
    go_roundw
    case rel => exact ⟨1, rfl, by omega, below_drewN hBr _⟩
    case measure => simp [intOf]; omega
   ·obtain ⟨m, rfl⟩ : ∃ m, k = m + 1 := ⟨k - 1, by omega⟩
    obtain ⟨y, hy⟩ : ∃ y, L[m]? = some y := ⟨L[m]'(by omega), List.getElem?_eq_getElem _⟩
    have c1 := qb _ hBr (hcs m y hy)
    have hlt2 := HP.out m y x hy hx
    have em : ((m + 1 : Nat) : Int) - 1 = (m : Int) := by omega
    clear hx hy hcs
    go_wp2_with (go_at_call 11; (with_reducible refine (hi _).mono ?_); rintro e w1 ⟨rfl, rfl⟩)
    go_quiet (fail)
    go_wp2
    go_roundw
    case rel => exact ⟨m + 2, rfl, by omega, below_drewN hBr _⟩
    case measure => simp [intOf]; omega
  ·obtain rfl : k = L.length := by omega
   go_wp2
   go_ret
   exact ⟨rfl, hBr⟩
end Go.Proofs.Tryz
