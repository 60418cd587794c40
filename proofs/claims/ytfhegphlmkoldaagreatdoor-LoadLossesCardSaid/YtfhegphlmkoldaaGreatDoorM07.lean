/-
  A part of the proof (R6 C41 C24): lemmas about the program and about the machine that the last text of this claim rests upon; no condition.
-/
import Derived.Deep.DeepCutAuto
import Derived.Test.YtfhegphlmkoldaaGreatDoorM06
import Derived.Test.YtfhegphlmkoldaaGreatDoorM04
import Derived.Test.YtfhegphlmkoldaaGreatDoorM02
set_option linter.unusedSimpArgs false
set_option linter.unusedVariables false
section
namespace Go.Proofs.Tryz
open Go Go.Load Go.RowKit
theorem s3 : qg.funcs[3]? = some f3 := by kernel_rfl
open Go.Instr in
@[go_sem] theorem eqlf_run (a b a' b' : Int) (w : World) : (binOp .eql 23 (.agg #[.int .i64 a, .int .i64 b]) (.agg #[.int .i64 a', .int .i64 b'])).run qg w = .ok (.bool (a == a' && b == b')) w := by
  rw [run_eql_struct, qdZ]; rfl
structure BS4 (w W : World) (z1 z2 z3 z4 : Nat) (a l x y : Int × Int) : Prop where
 a0 : W.cell? ⟨z1, 0, none⟩ = some (.int .i64 a.1)
 a1 : W.cell? ⟨z1, 1, none⟩ = some (.int .i64 a.2)
 l0 : W.cell? ⟨z2, 0, none⟩ = some (.int .i64 l.1)
 l1 : W.cell? ⟨z2, 1, none⟩ = some (.int .i64 l.2)
 x0 : W.cell? ⟨z3, 0, none⟩ = some (.int .i64 x.1)
 x1 : W.cell? ⟨z3, 1, none⟩ = some (.int .i64 x.2)
 y0 : W.cell? ⟨z4, 0, none⟩ = some (.int .i64 y.1)
 y1 : W.cell? ⟨z4, 1, none⟩ = some (.int .i64 y.2)
 fx0 : W.frozen? ⟨z3, 0, none⟩ = false
 fx1 : W.frozen? ⟨z3, 1, none⟩ = false
 fy0 : W.frozen? ⟨z4, 0, none⟩ = false
 fy1 : W.frozen? ⟨z4, 1, none⟩ = false
 gl : Globs w
 bw : Below w.heap.size w W
section
variable {w W X : World} {z1 z2 z3 z4 : Nat} {a l x y : Int × Int}
theorem BS4.call (h : BS4 w W z1 z2 z3 z4 a l x y) (hB : Below W.heap.size W X) : BS4 w X z1 z2 z3 z4 a l x y :=
 ⟨qb _ hB h.a0, qb _ hB h.a1, qb _ hB h.l0, qb _ hB h.l1, qb _ hB h.x0, qb _ hB h.x1, qb _ hB h.y0, qb _ hB h.y1,
   qf _ hB h.x0 h.fx0, qf _ hB h.x1 h.fx1, qf _ hB h.y0 h.fy0, qf _ hB h.y1 h.fy1, h.gl, Below.call h.bw hB (Nat.le_refl _)⟩
theorem BS4.putx (h : BS4 w W z1 z2 z3 z4 a l x y) (e1 : z1 < z3) (e2 : z2 < z3) (e3 : z3 < z4) (hw : w.heap.size ≤ z3) (u v : Int) : BS4 w ((W.setCell ⟨z3, 0, none⟩ (.int .i64 u)).setCell ⟨z3, 1, none⟩ (.int .i64 v)) z1 z2 z3 z4 a l (u, v) y := by
 obtain ⟨a0, a1, l0, l1, x0, x1, y0, y1, f0, f1, f2, f3, g, b⟩ := h
 have hB : Below w.heap.size w ((W.setCell ⟨z3, 0, none⟩ (.int .i64 u)).setCell ⟨z3, 1, none⟩ (.int .i64 v)) := (b.setCell (by simpa using hw) _).setCell (by simpa using hw) _
 have n3 : z4 ≠ z3 := by omega
 have n1 : z1 ≠ z3 := by omega
 have n2 : z2 ≠ z3 := by omega
 have hp := xX (.int .i64 u) (.int .i64 v) x0 x1
 refine ⟨?_, ?_, ?_, ?_, hp.1, hp.2, ?_, ?_, by simpa using f0, by simpa using f1, by simpa using f2, by simpa using f3, g, hB⟩
 all_goals
  refine qc (by simp <;> omega) (qc (by simp <;> omega) ?_)
  assumption
theorem BS4.puty (h : BS4 w W z1 z2 z3 z4 a l x y) (e1 : z1 < z3) (e2 : z2 < z3) (e3 : z3 < z4) (hw : w.heap.size ≤ z3) (u v : Int) : BS4 w ((W.setCell ⟨z4, 0, none⟩ (.int .i64 u)).setCell ⟨z4, 1, none⟩ (.int .i64 v)) z1 z2 z3 z4 a l x (u, v) := by
 obtain ⟨a0, a1, l0, l1, x0, x1, y0, y1, f0, f1, f2, f3, g, b⟩ := h
 have hB : Below w.heap.size w ((W.setCell ⟨z4, 0, none⟩ (.int .i64 u)).setCell ⟨z4, 1, none⟩ (.int .i64 v)) := (b.setCell (by simp; omega) _).setCell (by simp; omega) _
 have n3 : z3 ≠ z4 := by omega
 have n1 : z1 ≠ z4 := by omega
 have n2 : z2 ≠ z4 := by omega
 have hp := xX (.int .i64 u) (.int .i64 v) y0 y1
 refine ⟨?_, ?_, ?_, ?_, ?_, ?_, hp.1, hp.2, by simpa using f0, by simpa using f1, by simpa using f2, by simpa using f3, g, hB⟩
 all_goals
  refine qc (by simp <;> omega) (qc (by simp <;> omega) ?_)
  assumption
end
theorem qed (T p : Int) (l : Int × Int) : ∃ r a, YI T p l = tv r a := by unfold YI; split <;> exact ⟨_, _, rfl⟩
theorem overN_tv (m n : Int) (x : Int × Int) : ∃ r a, qaP m n x = tv r a := by unfold qaP; split; exact xw ..; exact ⟨_, _, rfl⟩
theorem XJ (x l : Int × Int) : ∃ (n : Int) (b : Bool) (a : Int), jG x l = .tuple #[.int .i64 n, .bool b, .int .i64 a] := by
 unfold jG
 split
 ·split <;> exact ⟨_, _, _, rfl⟩
 ·exact ⟨_, _, _, rfl⟩
set_option maxHeartbeats 16000000 in
set_option maxRecDepth 100000 in
theorem XT (HL : ∀ W, Globs W → Calls qg 16 #[] W fun e w' => e = .returned (.bool true) ∧ Below W.heap.size W w') (a l : Int × Int) (n p s : Int) (w : World) (hG : Globs w) :
 Calls qg 3 #[fv a, fv l, .int .i64 n, .int .i64 p, .int .i64 s] w fun e w' => e = .returned (.bool true) ∧ Below w.heap.size w w' := by
 have c1 := fun W => qbG n a W
 have c2 := fun W => qdB n a W
 have c3 := fun W => qbF n a W
 have c4 := fun W => qey n a W
 have c5 := fun W => YN n a W
 have c6 := fun W => JK n a W
 have c7 := fun W => Xc a l W
 have c8 := fun W => qaX a l W
 have c9 := fun W => JM n p l W
 have c10 := fun W => qcm n p l W
 have c11 := fun W => qbI n s a W
 have c12 := fun W => qdt n s a W
 obtain ⟨⟨p1, p2⟩, p3, e1⟩ := xw qO a n
 obtain ⟨⟨q1, q2⟩, q3, e2⟩ := xw qK a n
 obtain ⟨⟨r1, r2⟩, r3, e3⟩ := xw yf a n
 obtain ⟨m1, m2, m3, e4⟩ := XJ a l
 obtain ⟨⟨b1, b2⟩, b3, e5⟩ := qed n p l
 obtain ⟨⟨o1, o2⟩, o3, e6⟩ := overN_tv n s a
 simp only [e1, e2, e3, e4, e5, e6] at *
 clear e1 e2 e3 e4 e5 e6
 obtain ⟨a1, a2⟩ := a
 obtain ⟨l1, l2⟩ := l
 simp only [tv, fv] at *
 go_enter s3, ntmps3
 go_wp2_with fail
 have h : KSt w w [] := ⟨fun p hp => (by cases hp), hG, Below.refl _ _⟩
 replace h := (h.box2 (.int .i64 a1) (.int .i64 a2) 23).box2 (.int .i64 l1) (.int .i64 l2) 23
 simp only [asz] at h
 have hw0 : w.heap.size < w.heap.size + 1 := Nat.lt_succ_self _
 have hzz : w.heap.size + 1 < ((w.alloc (.cells #[.int .i64 a1, .int .i64 a2] 23)).alloc (.cells #[.int .i64 l1, .int .i64 l2] 23)).heap.size := by rw [asz, asz]; exact Nat.lt_succ_self _
 generalize (w.alloc (.cells #[.int .i64 a1, .int .i64 a2] 23)).alloc (.cells #[.int .i64 l1, .int .i64 l2] 23) = W at *
 generalize w.heap.size + 1 = z2 at *
 go_at_call 4
 refine (c1 _).mono ?_
 rintro e w' ⟨rfl, hB⟩
 have hsz := hB.size
 replace h := (h.call hB).box2 (.int .i64 p1) (.int .i64 p2) 23
 clear hB
 have fx0 := yP w' #[.int .i64 p1, .int .i64 p2] 23 0 (by show 0 < 2; decide)
 have fx1 := yP w' #[.int .i64 p1, .int .i64 p2] 23 1 (by show 1 < 2; decide)
 have hz2z3 : z2 < w'.heap.size := Nat.lt_of_lt_of_le hzz hsz
 have hzn : w'.heap.size < (w'.alloc (.cells #[.int .i64 p1, .int .i64 p2] 23)).heap.size := by rw [asz]; exact Nat.lt_succ_self _
 clear hzz hsz
 have k0a := h.cell (⟨w.heap.size, 0, none⟩, .int .i64 a1) (by simp)
 have k0b := h.cell (⟨w.heap.size, 1, none⟩, .int .i64 a2) (by simp)
 simp only at k0a k0b
 go_wp2
 clear k0a k0b
 generalize w'.alloc (.cells #[.int .i64 p1, .int .i64 p2] 23) = W at *
 generalize w'.heap.size = z3 at *
 have hzz := hzn
 clear hzn
 go_at_call 5
 refine (c2 _).mono ?_
 rintro e w' ⟨rfl, hB⟩
 replace fx0 := qf _ hB (h.cell (⟨z3, 0, none⟩, .int .i64 p1) (by simp)) fx0
 replace fx1 := qf _ hB (h.cell (⟨z3, 1, none⟩, .int .i64 p2) (by simp)) fx1
 replace fx0 := qm (o := .cells #[.int .i64 p1, .int .i64 p2] 23) ((h.call hB).cell (⟨z3, 0, none⟩, .int .i64 p1) (by simp)) fx0
 replace fx1 := qm (o := .cells #[.int .i64 p1, .int .i64 p2] 23) ((h.call hB).cell (⟨z3, 1, none⟩, .int .i64 p2) (by simp)) fx1
 have hsz := hB.size
 replace h := (h.call hB).box2 (.int .i64 p1) (.int .i64 p2) 23
 clear hB
 have fy0 := yP w' #[.int .i64 p1, .int .i64 p2] 23 0 (by show 0 < 2; decide)
 have fy1 := yP w' #[.int .i64 p1, .int .i64 p2] 23 1 (by show 1 < 2; decide)
 have hz3z4 : z3 < w'.heap.size := Nat.lt_of_lt_of_le hzz hsz
 have hzn : w'.heap.size < (w'.alloc (.cells #[.int .i64 p1, .int .i64 p2] 23)).heap.size := by rw [asz]; exact Nat.lt_succ_self _
 clear hzz hsz
 have k0a := h.cell (⟨w.heap.size, 0, none⟩, .int .i64 a1) (by simp)
 have k0b := h.cell (⟨w.heap.size, 1, none⟩, .int .i64 a2) (by simp)
 have k1a := h.cell (⟨z3, 0, none⟩, .int .i64 p1) (by simp)
 have k1b := h.cell (⟨z3, 1, none⟩, .int .i64 p2) (by simp)
 have k2a := h.cell (⟨w'.heap.size, 0, none⟩, .int .i64 p1) (by simp)
 have k2b := h.cell (⟨w'.heap.size, 1, none⟩, .int .i64 p2) (by simp)
 simp only at k0a k0b k1a k1b k2a k2b
 go_wp2
 clear k0a k0b k1a k1b k2a k2b
 generalize w'.alloc (.cells #[.int .i64 p1, .int .i64 p2] 23) = W at *
 generalize w'.heap.size = z4 at *
 have hzz := hzn
 clear hzn
 have n13 : ¬ w.heap.size = z3 := by omega
 have n14 : ¬ w.heap.size = z4 := by omega
 have n23 : ¬ z2 = z3 := by omega
 have n24 : ¬ z2 = z4 := by omega
 have n34 : ¬ z3 = z4 := by omega
 have n43 : ¬ z4 = z3 := by omega
 have B : BS4 w W w.heap.size z2 z3 z4 (a1, a2) (l1, l2) (p1, p2) (p1, p2) := ⟨h.cell (⟨w.heap.size, 0, none⟩, .int .i64 a1) (by simp), h.cell (⟨w.heap.size, 1, none⟩, .int .i64 a2) (by simp), h.cell (⟨z2, 0, none⟩, .int .i64 l1) (by simp), h.cell (⟨z2, 1, none⟩, .int .i64 l2) (by simp), h.cell (⟨z3, 0, none⟩, .int .i64 p1) (by simp), h.cell (⟨z3, 1, none⟩, .int .i64 p2) (by simp), h.cell (⟨z4, 0, none⟩, .int .i64 p1) (by simp), h.cell (⟨z4, 1, none⟩, .int .i64 p2) (by simp), fx0, fx1, fy0, fy1, hG, h.bw⟩
 clear h fx0 fx1 fy0 fy1 hzz
 go_at_call 6
 refine (c3 _).mono ?_
 rintro e w' ⟨rfl, hB⟩
 replace B := B.call hB
 clear hB
 obtain ⟨ka0, ka1, kl0, kl1, kx0, kx1, ky0, ky1, kf0, kf1, kf2, kf3, kgl, kbw⟩ := B
 simp only at ka0 ka1 kl0 kl1 kx0 kx1 ky0 ky1
 go_wp2
 have B : BS4 w w' w.heap.size z2 z3 z4 (a1, a2) (l1, l2) (p1, p2) (p1, p2) := ⟨ka0, ka1, kl0, kl1, kx0, kx1, ky0, ky1, kf0, kf1, kf2, kf3, kgl, kbw⟩
 clear ka0 ka1 kl0 kl1 kx0 kx1 ky0 ky1 kf0 kf1 kf2 kf3 kgl kbw
 replace B := B.putx (by omega) (by omega) (by omega) (by omega) q1 q2
 generalize (w'.setCell ⟨z3, 0, none⟩ (.int .i64 q1)).setCell ⟨z3, 1, none⟩ (.int .i64 q2) = W at B ⊢
 go_at_call 7
 refine (c4 _).mono ?_
 rintro e w' ⟨rfl, hB⟩
 replace B := B.call hB
 clear hB
 obtain ⟨ka0, ka1, kl0, kl1, kx0, kx1, ky0, ky1, kf0, kf1, kf2, kf3, kgl, kbw⟩ := B
 simp only at ka0 ka1 kl0 kl1 kx0 kx1 ky0 ky1
 go_wp2
 have B : BS4 w w' w.heap.size z2 z3 z4 (a1, a2) (l1, l2) (q1, q2) (p1, p2) := ⟨ka0, ka1, kl0, kl1, kx0, kx1, ky0, ky1, kf0, kf1, kf2, kf3, kgl, kbw⟩
 clear ka0 ka1 kl0 kl1 kx0 kx1 ky0 ky1 kf0 kf1 kf2 kf3 kgl kbw
 replace B := B.puty (by omega) (by omega) (by omega) (by omega) q1 q2
 generalize (w'.setCell ⟨z4, 0, none⟩ (.int .i64 q1)).setCell ⟨z4, 1, none⟩ (.int .i64 q2) = W at B ⊢
 go_at_call 8
 refine (c5 _).mono ?_
 rintro e w' ⟨rfl, hB⟩
 replace B := B.call hB
 clear hB
 obtain ⟨ka0, ka1, kl0, kl1, kx0, kx1, ky0, ky1, kf0, kf1, kf2, kf3, kgl, kbw⟩ := B
 simp only at ka0 ka1 kl0 kl1 kx0 kx1 ky0 ky1
 go_wp2
 have B : BS4 w w' w.heap.size z2 z3 z4 (a1, a2) (l1, l2) (q1, q2) (q1, q2) := ⟨ka0, ka1, kl0, kl1, kx0, kx1, ky0, ky1, kf0, kf1, kf2, kf3, kgl, kbw⟩
 clear ka0 ka1 kl0 kl1 kx0 kx1 ky0 ky1 kf0 kf1 kf2 kf3 kgl kbw
 replace B := B.putx (by omega) (by omega) (by omega) (by omega) r1 r2
 generalize (w'.setCell ⟨z3, 0, none⟩ (.int .i64 r1)).setCell ⟨z3, 1, none⟩ (.int .i64 r2) = W at B ⊢
 go_at_call 9
 refine (c6 _).mono ?_
 rintro e w' ⟨rfl, hB⟩
 replace B := B.call hB
 clear hB
 obtain ⟨ka0, ka1, kl0, kl1, kx0, kx1, ky0, ky1, kf0, kf1, kf2, kf3, kgl, kbw⟩ := B
 simp only at ka0 ka1 kl0 kl1 kx0 kx1 ky0 ky1
 go_wp2
 have B : BS4 w w' w.heap.size z2 z3 z4 (a1, a2) (l1, l2) (r1, r2) (q1, q2) := ⟨ka0, ka1, kl0, kl1, kx0, kx1, ky0, ky1, kf0, kf1, kf2, kf3, kgl, kbw⟩
 clear ka0 ka1 kl0 kl1 kx0 kx1 ky0 ky1 kf0 kf1 kf2 kf3 kgl kbw
 replace B := B.puty (by omega) (by omega) (by omega) (by omega) r1 r2
 generalize (w'.setCell ⟨z4, 0, none⟩ (.int .i64 r1)).setCell ⟨z4, 1, none⟩ (.int .i64 r2) = W at B ⊢
 go_at_call 10
 refine (c7 _).mono ?_
 rintro e w' ⟨rfl, hB⟩
 replace B := B.call hB
 clear hB
 obtain ⟨ka0, ka1, kl0, kl1, kx0, kx1, ky0, ky1, kf0, kf1, kf2, kf3, kgl, kbw⟩ := B
 simp only at ka0 ka1 kl0 kl1 kx0 kx1 ky0 ky1
 go_wp2
 have B : BS4 w w' w.heap.size z2 z3 z4 (a1, a2) (l1, l2) (r1, r2) (r1, r2) := ⟨ka0, ka1, kl0, kl1, kx0, kx1, ky0, ky1, kf0, kf1, kf2, kf3, kgl, kbw⟩
 clear ka0 ka1 kl0 kl1 kx0 kx1 ky0 ky1 kf0 kf1 kf2 kf3 kgl kbw
 go_at_call 11
 refine (c8 _).mono ?_
 rintro e w' ⟨rfl, hB⟩
 replace B := B.call hB
 clear hB
 obtain ⟨ka0, ka1, kl0, kl1, kx0, kx1, ky0, ky1, kf0, kf1, kf2, kf3, kgl, kbw⟩ := B
 simp only at ka0 ka1 kl0 kl1 kx0 kx1 ky0 ky1
 go_wp2
 have B : BS4 w w' w.heap.size z2 z3 z4 (a1, a2) (l1, l2) (r1, r2) (r1, r2) := ⟨ka0, ka1, kl0, kl1, kx0, kx1, ky0, ky1, kf0, kf1, kf2, kf3, kgl, kbw⟩
 clear ka0 ka1 kl0 kl1 kx0 kx1 ky0 ky1 kf0 kf1 kf2 kf3 kgl kbw
 go_at_call 12
 refine (c9 _).mono ?_
 rintro e w' ⟨rfl, hB⟩
 replace B := B.call hB
 clear hB
 obtain ⟨ka0, ka1, kl0, kl1, kx0, kx1, ky0, ky1, kf0, kf1, kf2, kf3, kgl, kbw⟩ := B
 simp only at ka0 ka1 kl0 kl1 kx0 kx1 ky0 ky1
 go_wp2
 have B : BS4 w w' w.heap.size z2 z3 z4 (a1, a2) (l1, l2) (r1, r2) (r1, r2) := ⟨ka0, ka1, kl0, kl1, kx0, kx1, ky0, ky1, kf0, kf1, kf2, kf3, kgl, kbw⟩
 clear ka0 ka1 kl0 kl1 kx0 kx1 ky0 ky1 kf0 kf1 kf2 kf3 kgl kbw
 replace B := B.putx (by omega) (by omega) (by omega) (by omega) b1 b2
 generalize (w'.setCell ⟨z3, 0, none⟩ (.int .i64 b1)).setCell ⟨z3, 1, none⟩ (.int .i64 b2) = W at B ⊢
 go_at_call 13
 refine (c10 _).mono ?_
 rintro e w' ⟨rfl, hB⟩
 replace B := B.call hB
 clear hB
 obtain ⟨ka0, ka1, kl0, kl1, kx0, kx1, ky0, ky1, kf0, kf1, kf2, kf3, kgl, kbw⟩ := B
 simp only at ka0 ka1 kl0 kl1 kx0 kx1 ky0 ky1
 go_wp2
 have B : BS4 w w' w.heap.size z2 z3 z4 (a1, a2) (l1, l2) (b1, b2) (r1, r2) := ⟨ka0, ka1, kl0, kl1, kx0, kx1, ky0, ky1, kf0, kf1, kf2, kf3, kgl, kbw⟩
 clear ka0 ka1 kl0 kl1 kx0 kx1 ky0 ky1 kf0 kf1 kf2 kf3 kgl kbw
 replace B := B.puty (by omega) (by omega) (by omega) (by omega) b1 b2
 generalize (w'.setCell ⟨z4, 0, none⟩ (.int .i64 b1)).setCell ⟨z4, 1, none⟩ (.int .i64 b2) = W at B ⊢
 go_at_call 14
 refine (c11 _).mono ?_
 rintro e w' ⟨rfl, hB⟩
 replace B := B.call hB
 clear hB
 obtain ⟨ka0, ka1, kl0, kl1, kx0, kx1, ky0, ky1, kf0, kf1, kf2, kf3, kgl, kbw⟩ := B
 simp only at ka0 ka1 kl0 kl1 kx0 kx1 ky0 ky1
 go_wp2
 have B : BS4 w w' w.heap.size z2 z3 z4 (a1, a2) (l1, l2) (b1, b2) (b1, b2) := ⟨ka0, ka1, kl0, kl1, kx0, kx1, ky0, ky1, kf0, kf1, kf2, kf3, kgl, kbw⟩
 clear ka0 ka1 kl0 kl1 kx0 kx1 ky0 ky1 kf0 kf1 kf2 kf3 kgl kbw
 replace B := B.putx (by omega) (by omega) (by omega) (by omega) o1 o2
 generalize (w'.setCell ⟨z3, 0, none⟩ (.int .i64 o1)).setCell ⟨z3, 1, none⟩ (.int .i64 o2) = W at B ⊢
 go_at_call 15
 refine (c12 _).mono ?_
 rintro e w' ⟨rfl, hB⟩
 replace B := B.call hB
 clear hB
 obtain ⟨ka0, ka1, kl0, kl1, kx0, kx1, ky0, ky1, kf0, kf1, kf2, kf3, kgl, kbw⟩ := B
 simp only at ka0 ka1 kl0 kl1 kx0 kx1 ky0 ky1
 go_wp2
 have B : BS4 w w' w.heap.size z2 z3 z4 (a1, a2) (l1, l2) (o1, o2) (b1, b2) := ⟨ka0, ka1, kl0, kl1, kx0, kx1, ky0, ky1, kf0, kf1, kf2, kf3, kgl, kbw⟩
 clear ka0 ka1 kl0 kl1 kx0 kx1 ky0 ky1 kf0 kf1 kf2 kf3 kgl kbw
 replace B := B.puty (by omega) (by omega) (by omega) (by omega) o1 o2
 generalize (w'.setCell ⟨z4, 0, none⟩ (.int .i64 o1)).setCell ⟨z4, 1, none⟩ (.int .i64 o2) = W at B ⊢
 go_at_call 16
 refine (HL _ (B.gl.keep B.bw)).mono ?_
 rintro e w' ⟨rfl, hB⟩
 go_wp2
 go_ret
 exact ⟨rfl, Below.call B.bw hB (Nat.le_refl _)⟩
end Go.Proofs.Tryz
end
section
namespace Go.Proofs.Tryz
open Go Go.Load Go.RowKit
def xq (w : World) (v : Value) (L : List Int) : Prop := ∃ a c, v = .slice a L.length c ∧ (1 ≤ L.length → ∃ b, a = some ⟨b, 0, none⟩ ∧ ∀ i x, L[i]? = some x → w.cell? ⟨b, i, none⟩ = some (.int .i64 x))
theorem xq.keep {w w1 : World} {v : Value} {L : List Int} (h : xq w v L) (hB : Below w.heap.size w w1) : xq w1 v L := by
 obtain ⟨a, c, e, f⟩ := h
 exact ⟨a, c, e, fun hl => let ⟨b, e1, e2⟩ := f hl; ⟨b, e1, fun i x hx => qb _ hB (e2 i x hx)⟩⟩
def qbH : List Int → List Int → Bool
 | [], [] => false
 | [], _ :: _ => true
 | _ :: _, [] => false
 | a :: A, b :: B => if a ≠ b then decide (a < b) else qbH A B
theorem JU : ∀ A B : List Int, (!qbH A B && !qbH B A) = decide (A = B)
 | [], [] => rfl
 | [], _ :: _ => rfl
 | _ :: _, [] => rfl
 | a :: A, b :: B => by
   simp only [qbH]
   by_cases e : a = b
   ·subst e
    simp only [ne_eq, not_true_eq_false, if_false, JU A B]
    simp
   ·have e' : b ≠ a := Ne.symm e
    simp only [ne_eq, e, e', not_false_eq_true, if_true]
    have h1 : (a :: A = b :: B) ↔ False := by simp [e]
    rw [decide_eq_false (by simp [e] : ¬ (a :: A = b :: B))]
    rcases Int.lt_or_gt_of_ne e with h | h
    ·rw [decide_eq_true h]; rfl
    ·rw [decide_eq_true (show b < a from h)]; simp
theorem qeW {A B : List Int} {k : Nat} {a b : Int} (ha : A[k]? = some a) (hb : B[k]? = some b) : qbH (A.drop k) (B.drop k) = if a ≠ b then decide (a < b) else qbH (A.drop (k + 1)) (B.drop (k + 1)) := by
 obtain ⟨h1, rfl⟩ := List.getElem?_eq_some_iff.1 ha
 obtain ⟨h2, rfl⟩ := List.getElem?_eq_some_iff.1 hb
 rw [List.drop_eq_getElem_cons h1, List.drop_eq_getElem_cons h2]
 rfl
theorem lexN_end {A B : List Int} {k : Nat} (h : A.length ≤ k ∨ B.length ≤ k) (hk1 : k ≤ A.length) (hk2 : k ≤ B.length) : qbH (A.drop k) (B.drop k) = decide (A.length < B.length) := by
 by_cases h1 : A.length ≤ k
 ·rw [List.drop_eq_nil_of_le h1]
  by_cases h2 : B.length ≤ k
  ·rw [List.drop_eq_nil_of_le h2, decide_eq_false (by omega)]; rfl
  ·rw [List.drop_eq_getElem_cons (show k < B.length by omega), decide_eq_true (by omega)]; rfl
 ·rw [List.drop_eq_getElem_cons (show k < A.length by omega), List.drop_eq_nil_of_le (show B.length ≤ k by omega), decide_eq_false (by omega)]; rfl
set_option maxHeartbeats 2000000 in
set_option maxRecDepth 100000 in
theorem Xu (va vb : Value) (A B : List Int) (w : World) (hA : xq w va A) (hB : xq w vb B) (h1 : A.length ≤ 100) (h2 : B.length ≤ 100) : Calls qg 105 #[va, vb] w fun e w' => e = .returned (.bool (qbH A B)) ∧ Below w.heap.size w w' := by
 obtain ⟨aa, ca, rfl, ha⟩ := hA
 obtain ⟨ab, cb, rfl, hb⟩ := hB
 have HA := Lib.hid ha
 have HB := Lib.hid hb
 have HD := Lib.hid fun (k : Nat) (a b : Int) (ha : A[k]? = some a) (hb : B[k]? = some b) => qeW ha hb
 have HE := Lib.hid fun (k : Nat) (h : A.length ≤ k ∨ B.length ≤ k) (hk1 : k ≤ A.length) (hk2 : k ≤ B.length) => lexN_end h hk1 hk2
 have H0 : Hid (qbH A B = qbH (A.drop 0) (B.drop 0)) := Lib.hid rfl
 clear ha hb
 go_enter s105, ntmps105
 go_wp2
 go_loopw [5] (fun i wr => ∃ k : Nat, i = .int .i64 k ∧ k ≤ A.length ∧ k ≤ B.length ∧ Below w.heap.size w wr ∧ Hid (qbH A B = qbH (A.drop k) (B.drop k))) (fun i _ => A.length - (intOf i).toNat)
 case atStart => exact ⟨0, rfl, by omega, by omega, .refl _ _, H0⟩
 case round =>
  obtain ⟨k, rfl, hk1, hk2, hBr, HL⟩ := hrel
  have hk0 : (0 : Int) ≤ (k : Int) := Int.natCast_nonneg k
  by_cases hlt : k < A.length ∧ k < B.length
  ·obtain ⟨l1, l2⟩ := hlt
   obtain ⟨a, ha⟩ : ∃ a, A[k]? = some a := ⟨A[k], by simp [l1]⟩
   obtain ⟨b, hb⟩ : ∃ b, B[k]? = some b := ⟨B[k], by simp [l2]⟩
   obtain ⟨ba, rfl, ra⟩ := HA.out (by omega)
   obtain ⟨bb, rfl, rb⟩ := HB.out (by omega)
   have c0 := qb _ hBr (ra k a ha)
   have c1 := qb _ hBr (rb k b hb)
   have hd := Lib.hid (HD.out k a b ha hb)
   have i1 : (k : Int) < (A.length : Int) := by omega
   have i2 : (k : Int) < (B.length : Int) := by omega
   clear ra rb ha hb
   by_cases e : a = b
   ·subst e
    go_wp2
    go_quiet (fail)
    go_wp2
    go_roundw
    case rel => exact ⟨k + 1, rfl, by omega, by omega, below_drewN hBr _, Lib.hid (HL.out.trans (by rw [hd.out, if_neg (by simp)]))⟩
    case measure => simp [intOf]; omega
   ·have hab : (a == b) = false := by simp [e]
    have hab' : (a != b) = true := by simp [e]
    have hL : Hid (qbH A B = decide (a < b)) := Lib.hid (HL.out.trans (by rw [hd.out, if_pos e]))
    clear e
    go_wp2
    go_quiet (fail)
    go_wp2
    go_quiet (fail)
    go_wp2
    go_ret
    exact ⟨by rw [hL.out]; rfl, below_drewN (below_drewN hBr _) _⟩
  ·have hE := Lib.hid (HL.out.trans (HE.out k (by omega) hk1 hk2))
   by_cases l1 : k < A.length
   ·have i1 : (k : Int) < (A.length : Int) := by omega
    have i2 : ¬ (k : Int) < (B.length : Int) := by omega
    go_wp2
    go_ret
    refine ⟨?_, hBr⟩
    rw [hE.out]; simp
   ·have i1 : ¬ (k : Int) < (A.length : Int) := by omega
    go_wp2
    go_ret
    refine ⟨?_, hBr⟩
    rw [hE.out]; simp
set_option maxHeartbeats 1000000 in
theorem qao (va vb : Value) (A B : List Int) (w : World) (hA : xq w va A) (hB : xq w vb B) (h1 : A.length ≤ 100) (h2 : B.length ≤ 100) : Calls qg 80 #[va, vb] w fun e w' => e = .returned (.bool (decide (A = B))) ∧ Below w.heap.size w w' := by
 have hl1 := fun W (h : Below w.heap.size w W) => Xu va vb A B W (hA.keep h) (hB.keep h) h1 h2
 have hl2 := fun W (h : Below w.heap.size w W) => Xu vb va B A W (hB.keep h) (hA.keep h) h2 h1
 have hb := Lib.hid (JU A B)
 obtain ⟨aa, ca, rfl, _⟩ := hA
 obtain ⟨ab, cb, rfl, _⟩ := hB
 cases h3 : qbH A B with
 | true =>
   simp only [h3] at hl1 hb
   go_enter s80, ntmps80
   go_wp2_with (go_at_call 105; refine (hl1 _ (by go_grown)).mono ?_; rintro e w1 ⟨rfl, hB1⟩)
   go_ret
   exact ⟨by rw [← hb.out]; rfl, hB1⟩
 | false =>
   simp only [h3] at hl1 hb
   go_enter s80, ntmps80
   go_wp2_with (first | (go_at_call 105; (with_reducible refine (hl1 _ (.refl _ _)).mono ?_); rintro e w1 ⟨rfl, hB1⟩) | (go_at_call 105; (with_reducible refine (hl2 _ (by assumption)).mono ?_); rintro e w2 ⟨rfl, hB2⟩))
   go_ret
   exact ⟨by rw [← hb.out]; rfl, Below.call hB1 hB2 (Nat.le_refl _)⟩
theorem XE (va vb : Value) (A B : List Int) (w : World) (hA : xq w va A) (hB : xq w vb B) (h1 : A.length ≤ 100) (h2 : B.length ≤ 100) : Calls qg 47 #[va, vb] w fun e w' => e = .returned (.bool (decide (A = B))) ∧ Below w.heap.size w w' := by
 have hs := qao va vb A B w hA hB h1 h2
 obtain ⟨aa, ca, rfl, _⟩ := hA
 obtain ⟨ab, cb, rfl, _⟩ := hB
 go_enter s47, ntmps47
 go_wp2_with (go_at_call 80; refine hs.mono ?_; rintro e w1 ⟨rfl, hB1⟩)
 go_ret
 exact ⟨rfl, hB1⟩
theorem jh {base : Nat} {W : World} {v : Value} {L : List Int} (h : SliceOf base W v L) : xq W v L := by
 have hform : ∃ a c, v = .slice a L.length c := by
  obtain ⟨_, ⟨h1, h2⟩ | ⟨g, cap, cur, rfl, _⟩⟩ := h
  ·exact ⟨none, 0, by rw [h1]; simp_all⟩
  ·exact ⟨_, _, rfl⟩
 obtain ⟨a, c, rfl⟩ := hform
 refine ⟨a, c, rfl, fun hl => ?_⟩
 cases a with
 | none =>
   obtain ⟨_, ⟨h1, h2⟩ | ⟨g, cap, cur, e, _⟩⟩ := h
   ·exact absurd h2 (by omega)
   ·cases e
 | some ad =>
   obtain ⟨_, ⟨h1, h2⟩ | ⟨g, cap, cur, e, hb, hg, hn, _, hs, ht⟩⟩ := h
   ·cases h1
   ·obtain rfl : ad = ⟨g, 0, none⟩ := by injection e with e1; exact Option.some.inj e1
    refine ⟨g, rfl, fun i x hx => ?_⟩
    have hx' : (L.map (Value.int .i64))[i]? = some (.int .i64 x) := by rw [List.getElem?_map, hx]; rfl
    rw [← ht, List.getElem?_take] at hx'
    split at hx'
    ·have hu : cur[i]? = some (.int .i64 x) := by simpa using hx'
     unfold World.cell?; rw [hg]; simp [hu]
    ·cases hx'
end Go.Proofs.Tryz
end
section
namespace Go.Proofs.Tryz
open Go Go.Load Go.RowKit
def yS (g : Grp) (j k : Nat) : Int × Int := if j < k then (match g.traffic[j]? with | some x => qK (low x.1 x.2) g.trunks.toNat | none => (0, 0)) else (0, 0)
theorem qcj (w : World) : (isAgg 107).run qg w = .ok true w := (zy _ _).trans (Tryz.isAgg107 w)
theorem qbe (w : World) : (Go.sizeOf 107).run qg w = .ok 6 w := (zX _ _).trans (Tryz.sizeOf107 w)
theorem qbd {g : Grp} {j k : Nat} (h : j ≠ k) : yS g j (k + 1) = yS g j k := by
 unfold yS
 by_cases a : j < k
 ·rw [if_pos a, if_pos (by omega)]
 ·rw [if_neg a, if_neg (by omega)]
theorem qcx {g : Grp} {k : Nat} {x : Int × Int} (h : g.traffic[k]? = some x) : yS g k (k + 1) = qK (low x.1 x.2) g.trunks.toNat := by
 unfold yS; rw [if_pos (by omega), h]
theorem qea {g : Grp} {j : Nat} (h : g.traffic.length ≤ 3) : yS g j 3 = yS g j g.traffic.length := by
 unfold yS
 by_cases a : j < g.traffic.length
 ·rw [if_pos a, if_pos (by omega)]
 ·rw [if_neg a, List.getElem?_eq_none (by omega)]; split <;> rfl
def hv (f : Nat → Int × Int) : Value := .agg #[.int .i64 (f 0).1, .int .i64 (f 0).2, .int .i64 (f 1).1, .int .i64 (f 1).2, .int .i64 (f 2).1, .int .i64 (f 2).2]
def YZ (W : World) (ab : Nat) (f : Nat → Int × Int) : Prop := ∀ j, j < 3 → W.cell? ⟨ab, j * 2, none⟩ = some (.int .i64 (f j).1) ∧ W.cell? ⟨ab, j * 2 + 1, none⟩ = some (.int .i64 (f j).2) ∧ W.frozen? ⟨ab, j * 2, none⟩ = false ∧ W.frozen? ⟨ab, j * 2 + 1, none⟩ = false
theorem YZ.keep {W w1 : World} {ab : Nat} {f : Nat → Int × Int} (h : YZ W ab f) (hB : Below W.heap.size W w1) : YZ w1 ab f := fun j hj =>
 let ⟨a, b, c, d⟩ := h j hj
 ⟨qb _ hB a, qb _ hB b, qf _ hB a c, qf _ hB b d⟩
theorem YZ.set {W : World} {ab k : Nat} {f g : Nat → Int × Int} (h : YZ W ab f) (hk : k < 3) (hg : ∀ j, j ≠ k → g j = f j) :
 YZ ((W.setCell ⟨ab, k * 2, none⟩ (.int .i64 (g k).1)).setCell ⟨ab, k * 2 + 1, none⟩ (.int .i64 (g k).2)) ab g := fun j hj => by
 obtain ⟨a, b, c, d⟩ := h j hj
 refine ⟨?_, ?_, by simpa using c, by simpa using d⟩
 ·by_cases e : j = k
  ·subst e; exact qc (by simp) (qV (qy a))
  ·rw [hg j e]; exact qc (by simp <;> omega) (qc (by simp <;> omega) a)
 ·by_cases e : j = k
  ·subst e; exact qV (qA (qy b))
  ·rw [hg j e]; exact qc (by simp <;> omega) (qc (by simp <;> omega) b)
structure But2 (W0 : World) (ab k : Nat) (W : World) : Prop where
 size : W0.heap.size ≤ W.heap.size
 cell : ∀ p v, W0.cell? p = some v → p ≠ ⟨ab, k * 2, none⟩ → p ≠ ⟨ab, k * 2 + 1, none⟩ → W.cell? p = some v
 fz : ∀ p v, W0.cell? p = some v → W0.frozen? p = false → W.frozen? p = false
 there : ∀ p v, W0.cell? p = some v → (W.cell? p).isSome = true
theorem But2.refl (W0 : World) (ab k : Nat) : But2 W0 ab k W0 := ⟨Nat.le_refl _, fun _ _ h _ _ => h, fun _ _ _ h => h, fun _ _ h => qy h⟩
theorem But2.call {W0 W w1 : World} {ab k : Nat} (h : But2 W0 ab k W) (hB : Below W.heap.size W w1) : But2 W0 ab k w1 :=
 ⟨Nat.le_trans h.size hB.size, fun p v a b c => qb _ hB (h.cell p v a b c), fun p v a b => by
   obtain ⟨u, hu⟩ := Option.isSome_iff_exists.1 (h.there p v a)
   exact qf _ hB hu (h.fz p v a b), fun p v a => by
   obtain ⟨u, hu⟩ := Option.isSome_iff_exists.1 (h.there p v a)
   exact qy (qb _ hB hu)⟩
theorem But2.put {W0 W : World} {ab k : Nat} (u v : Value) (h : But2 W0 ab k W) : But2 W0 ab k ((W.setCell ⟨ab, k * 2, none⟩ u).setCell ⟨ab, k * 2 + 1, none⟩ v) :=
 ⟨by simpa using h.size, fun p x a b c => qc (Ne.symm c) (qc (Ne.symm b) (h.cell p x a b c)), fun p x a b => by simpa using h.fz p x a b, fun p x a => qA (qA (h.there p x a))⟩
abbrev QN (w W0 : World) (hb xb ab T : Nat) (x : Int × Int) (k : Nat) (W : World) : Prop :=
 W.cell? ⟨xb, 0, none⟩ = some (.int .i64 x.1) ∧ W.cell? ⟨xb, 1, none⟩ = some (.int .i64 x.2) ∧ W.cell? ⟨hb, 1, none⟩ = some (.int .i64 T) ∧ W.cell? ⟨ab, k * 2, none⟩ = some (atD W ⟨ab, k * 2, none⟩) ∧ W.cell? ⟨ab, k * 2 + 1, none⟩ = some (atD W ⟨ab, k * 2 + 1, none⟩) ∧
  W.frozen? ⟨ab, k * 2, none⟩ = false ∧ W.frozen? ⟨ab, k * 2 + 1, none⟩ = false ∧ Below w.heap.size w W ∧ But2 W0 ab k W
theorem QN.call {w W0 W w1 : World} {hb xb ab T : Nat} {x : Int × Int} {k : Nat} (h : QN w W0 hb xb ab T x k W) (hB : Below W.heap.size W w1) : QN w W0 hb xb ab T x k w1 := by
 obtain ⟨a, b, c, d, e, f, g, i, j⟩ := h
 exact ⟨qb _ hB a, qb _ hB b, qb _ hB c, qL (qy (qb _ hB d)), qL (qy (qb _ hB e)), qf _ hB d f, qf _ hB e g, Below.call i hB (Nat.le_refl _), j.call hB⟩
theorem QN.put {w W0 W : World} {hb xb ab T : Nat} {x : Int × Int} {k : Nat} (u v : Value) (h : QN w W0 hb xb ab T x k W) (h1 : ab ≠ xb) (h2 : ab ≠ hb) (h3 : w.heap.size ≤ ab) : QN w W0 hb xb ab T x k ((W.setCell ⟨ab, k * 2, none⟩ u).setCell ⟨ab, k * 2 + 1, none⟩ v) := by
 obtain ⟨a, b, c, d, e, f, g, i, j⟩ := h
 have n1 : ∀ p q, (⟨ab, p, none⟩ : Addr) ≠ ⟨xb, q, none⟩ := fun p q h => h1 (congrArg Addr.block h)
 have n2 : ∀ p q, (⟨ab, p, none⟩ : Addr) ≠ ⟨hb, q, none⟩ := fun p q h => h2 (congrArg Addr.block h)
 exact ⟨qc (n1 _ _) (qc (n1 _ _) a), qc (n1 _ _) (qc (n1 _ _) b), qc (n2 _ _) (qc (n2 _ _) c), qL (qA (qA (qy d))), qL (qA (qA (qy e))), by simpa using f, by simpa using g, (i.setCell h3 _).setCell h3 _, j.put u v⟩
set_option maxHeartbeats 4000000 in
set_option maxRecDepth 100000 in
theorem qdr (B : Bk) (i : Nat) (g : Grp) (hg : B.gs[i]? = some g) (w : World) (h : BookAt w B) (hG : GoodGrp B.hours g) (hh : B.hours ≤ 3) :
 Calls qg 71 #[bv B, .int .i64 i] w fun e w' => e = .returned (hv fun j => yS g j 3) ∧ Below w.heap.size w w' := by
 obtain ⟨hi, rfl⟩ := List.getElem?_eq_some_iff.1 hg
 obtain ⟨b, o, hga, hc⟩ := h.row (by omega)
 obtain ⟨c0, c1, c2⟩ := hc i _ hg
 have hlen := hG.len
 generalize hgg : B.gs[i] = g at *
 have hm : g ∈ B.gs := List.mem_of_getElem? hg
 have HF := Lib.hid (h.traf g hm)
 have HT := Lib.hid hG.traf
 obtain ⟨T, hT⟩ := Int.eq_ofNat_of_zero_le hG.tr0
 have hT7 : T ≤ 7 := by have := hG.tr7; omega
 rw [hT] at c1
 have HTT := Lib.hid hT
 obtain ⟨lim, gr, hr, gs, ga, gc⟩ := B
 simp only at hga hlen hh hi
 subst hga
 simp only [bv]
 have hlb : b < w.heap.size := lt_of_cell c0
 have hlb2 : b < w.heap.size + 1 := by omega
 have hlb3 : b < w.heap.size + 1 + 1 := by omega
 have hl3 : g.traffic.length ≤ 3 := by omega
 have HO := Lib.hid fun (j k : Nat) (h : j ≠ k) => qbd (g := g) h
 have HH := Lib.hid fun (k : Nat) (x : Int × Int) (h : g.traffic[k]? = some x) => qcx h
 have HE := Lib.hid fun (j : Nat) => qea (g := g) (j := j) hl3
 have HZ : Hid (∀ j, yS g j 0 = (0, 0)) := Lib.hid fun j => by simp [yS]
 rw [hT] at HH
 obtain ⟨N, hN⟩ : ∃ N, N = yS g := ⟨_, rfl⟩
 simp only [← hN] at HO HH HE HZ ⊢
 clear hN hT hG hc hg hgg hm h
 go_enter s71, ntmps71
 go_wp2
 obtain ⟨W, hW⟩ : ∃ W, (((w.alloc (Obj.cells #[.int .i64 lim.1, .int .i64 lim.2, .int .i64 gr, .int .i64 hr, .slice (some ⟨b, o, none⟩) gs.length gc] 80)).alloc (Obj.cells #[.int .i64 0, .int .i64 0, .int .i64 0, .int .i64 0, .int .i64 0, .int .i64 0] 107)).alloc (Obj.cells #[.int .i64 0, .int .i64 0, .int .i64 0, .int .i64 0, .int .i64 0, .int .i64 0] 107)).alloc (Obj.cells #[.string g.name, .int .i64 T, .slice g.ta g.traffic.length g.tc] 69) = W := ⟨_, rfl⟩
 have hRes : YZ W (w.heap.size + 1) (fun _ => (0, 0)) := fun j hj => by
  subst hW
  rcases (show j = 0 ∨ j = 1 ∨ j = 2 by omega) with rfl | rfl | rfl
  ·exact ⟨by go_cell, by go_cell, by go_cell, by go_cell⟩
  ·exact ⟨by go_cell, by go_cell, by go_cell, by go_cell⟩
  ·exact ⟨by go_cell, by go_cell, by go_cell, by go_cell⟩
 have t1 : W.cell? ⟨w.heap.size + 1 + 1 + 1, 1, none⟩ = some (.int .i64 T) := by subst hW; go_cell
 have hArr : YZ W (w.heap.size + 1 + 1) (fun j => N j 0) := fun j hj => by
  simp only [HZ.out]
  subst hW
  rcases (show j = 0 ∨ j = 1 ∨ j = 2 by omega) with rfl | rfl | rfl
  ·exact ⟨by go_cell, by go_cell, by go_cell, by go_cell⟩
  ·exact ⟨by go_cell, by go_cell, by go_cell, by go_cell⟩
  ·exact ⟨by go_cell, by go_cell, by go_cell, by go_cell⟩
 have hBW : Below w.heap.size w W := by subst hW; go_grown
 have hsW : W.heap.size = w.heap.size + 4 := by subst hW; simp
 rw [hW]
 clear hW
 go_loopw [18] (fun i wr => ∃ k : Nat, i = .int .i64 k ∧ k ≤ g.traffic.length ∧ Below w.heap.size w wr ∧ w.heap.size + 4 ≤ wr.heap.size ∧ wr.cell? ⟨w.heap.size + 1 + 1 + 1, 1, none⟩ = some (.int .i64 T) ∧ Hid (YZ wr (w.heap.size + 1 + 1) (fun j => N j k)) ∧ Hid (YZ wr (w.heap.size + 1) (fun _ => (0, 0)))) (fun i _ => g.traffic.length - (intOf i).toNat)
 case atStart => exact ⟨0, rfl, by omega, hBW, by omega, t1, Lib.hid hArr, Lib.hid hRes⟩
 case round =>
  clear t1 hArr hRes hBW hsW
  obtain ⟨k, rfl, hk, hBr, hsz, t1, HArr, HRes⟩ := hrel
  have s1 : w.heap.size + 1 < wr.heap.size := by omega
  have s2 : w.heap.size + 1 + 1 < wr.heap.size := by omega
  have s3 : w.heap.size + 1 + 1 + 1 < wr.heap.size := by omega
  by_cases hlt : k < g.traffic.length
  ·obtain ⟨x, hx⟩ : ∃ x, g.traffic[k]? = some x := ⟨g.traffic[k], by simp [hlt]⟩
   have hx2 := HT.out x (List.mem_of_getElem? hx)
   obtain ⟨tb, t0, hta, hpa⟩ := HF.out (by omega)
   have hta' := hta
   obtain ⟨e0, e1⟩ := hpa k x hx
   have e0 := qb _ hBr e0
   have e1 := qb _ hBr e1
   obtain ⟨a0, a1, a2, a3⟩ := HArr.out k (by omega)
   obtain ⟨k1, k2, k3, k4⟩ := jE hx2.1.1 hx2.1.2 hx2.2.1 hx2.2.2
   have hof := fun W => ZW x W hx2.1.1 (by have := hx2.2.1; omega) (by have := hx2.1.2; omega) (by have := hx2.2.2; omega)
   have hlo := fun W => Qf T (low x.1 x.2) k1 k2 k3 k4 hT7 W
   have hth := HH.out k x hx
   rw [Int.toNat_natCast] at hth
   generalize qK (low x.1 x.2) T = r at *
   generalize low x.1 x.2 = y at *
   have HN := Lib.hid hth
   have hkk : (k : Int) < 3 := by omega
   have hk0 : (0 : Int) ≤ (k : Int) := Int.natCast_nonneg k
   simp only [fv] at hof hlo
   rw [hta]
   clear hth hx hx2 hpa k1 k2 k3 k4 hta
   have hX : QN w (wr.alloc (.cells #[.int .i64 x.1, .int .i64 x.2] 23)).drew (w.heap.size + 1 + 1 + 1) wr.heap.size (w.heap.size + 1 + 1) T x k (wr.alloc (.cells #[.int .i64 x.1, .int .i64 x.2] 23)).drew :=
    ⟨by go_cell, by go_cell, qi t1, qL (qy (qi a0)), qL (qy (qi a1)), qm a0 a2, qm a1 a3, (hBr.alloc (by omega) _).drew, .refl _ _ _⟩
   go_wp2
   go_region_held3 (fun w' => w'.cell? ⟨wr.heap.size, 0, none⟩ = some (.int .i64 x.1) ∧ w'.cell? ⟨wr.heap.size, 1, none⟩ = some (.int .i64 x.2) ∧ w'.cell? ⟨w.heap.size + 1 + 1 + 1, 1, none⟩ = some (.int .i64 T) ∧ w'.cell? ⟨w.heap.size + 1 + 1, k * 2, none⟩ = some (atD w' ⟨w.heap.size + 1 + 1, k * 2, none⟩) ∧ w'.cell? ⟨w.heap.size + 1 + 1, k * 2 + 1, none⟩ = some (atD w' ⟨w.heap.size + 1 + 1, k * 2 + 1, none⟩) ∧ w'.frozen? ⟨w.heap.size + 1 + 1, k * 2, none⟩ = false ∧ w'.frozen? ⟨w.heap.size + 1 + 1, k * 2 + 1, none⟩ = false ∧ Below w.heap.size w w' ∧ But2 (wr.alloc (.cells #[.int .i64 x.1, .int .i64 x.2] 23)).drew (w.heap.size + 1 + 1) k w')
    (first | exact hX | ((with_reducible refine QN.call ?_ hB); assumption) | ((with_reducible refine QN.put _ _ ?_ ?_ ?_ ?_); assumption; omega; omega; omega))
    (first | (go_at_call 49; refine (hof _).mono ?_; rintro e w1 ⟨rfl, hB⟩) | (go_at_call 21; refine (hlo _).mono ?_; rintro e w1 ⟨rfl, hB⟩))
   rename_i hH
   obtain ⟨_, _, _, q0, q1, q2, q3, q4, q5⟩ := hH
   go_wp2
   go_roundw
   case rel =>
    have hcells : ∀ p v, wr.cell? p = some v → p ≠ ⟨w.heap.size + 1 + 1, k * 2, none⟩ → p ≠ ⟨w.heap.size + 1 + 1, k * 2 + 1, none⟩ → _ := fun p v hp h1 h2 => q5.cell p v (qi hp) h1 h2
    refine ⟨k + 1, rfl, by omega, q4, ?_, hcells _ _ t1 (by simp) (by simp), Lib.hid fun j hj => ?_, Lib.hid fun j hj => ?_⟩
    ·have := q5.size; simp at this ⊢; omega
    ·obtain ⟨b0, b1, b2, b3⟩ := HArr.out j hj
     by_cases e : j = k
     ·subst e
      simp only [HN.out]
      refine ⟨qc (by simp) (qV (zb (zb (qy q0)))), qV (zb (qy q1)), q2, q3⟩
     ·simp only [HO.out j k e]
      exact ⟨hcells _ _ b0 (by simp <;> omega) (by simp <;> omega), hcells _ _ b1 (by simp <;> omega) (by simp <;> omega), q5.fz _ _ (qi b0) (qm b0 b2), q5.fz _ _ (qi b1) (qm b1 b3)⟩
    ·obtain ⟨b0, b1, b2, b3⟩ := HRes.out j hj
     exact ⟨hcells _ _ b0 (by simp) (by simp), hcells _ _ b1 (by simp) (by simp), q5.fz _ _ (qi b0) (qm b0 b2), q5.fz _ _ (qi b1) (qm b1 b3)⟩
   case measure => simp [intOf]; omega
  ·obtain rfl : k = g.traffic.length := by omega
   have e0 := (HArr.out 0 (by omega)).1
   have e1 := (HArr.out 0 (by omega)).2.1
   have e2 := (HArr.out 1 (by omega)).1
   have e3 := (HArr.out 1 (by omega)).2.1
   have e4 := (HArr.out 2 (by omega)).1
   have e5 := (HArr.out 2 (by omega)).2.1
   obtain ⟨r0, r1, f0, f1⟩ := HRes.out 0 (by omega)
   obtain ⟨r2, r3, f2, f3⟩ := HRes.out 1 (by omega)
   obtain ⟨r4, r5, f4, f5⟩ := HRes.out 2 (by omega)
   simp only [Nat.zero_mul, Nat.one_mul, Nat.reduceMul, Nat.reduceAdd, Nat.zero_add] at e0 e1 e2 e3 e4 e5 r0 r1 r2 r3 r4 r5 f0 f1 f2 f3 f4 f5
   have HR : Hid (hv (fun j => N j 3) = .agg #[.int .i64 (N 0 g.traffic.length).1, .int .i64 (N 0 g.traffic.length).2, .int .i64 (N 1 g.traffic.length).1, .int .i64 (N 1 g.traffic.length).2, .int .i64 (N 2 g.traffic.length).1, .int .i64 (N 2 g.traffic.length).2]) := Lib.hid (by simp only [hv, HE.out])
   go_wp2
   exact ret_c6 results71 qcj qbe rfl r0 r1 r2 r3 r4 r5 ⟨by rw [HR.out], Below.set6 hBr (Nat.le_succ _)⟩
end Go.Proofs.Tryz
end
