/-
  A part of the proof (PhK): lemmas about the program and about the machine that the last text of this claim rests upon; no condition.
-/
import Derived.Test.YtbbjalighlddcaaDoorM19
set_option linter.unusedSimpArgs false
set_option linter.unusedVariables false
section
namespace Go.Proofs.Tryd
open Go Go.Conc Go.Sim Go.Load Go.RowKit
abbrev XB (X : Nat → Prop) (b : Nat) : Prop := X b ∧ ¬ gB b = true
inductive PlainX (X : Nat → Prop) : Value → Prop
 | int (k : IntKind) (n : Int) : PlainX X (.int k n)
 | str (s : ByteArray) : PlainX X (.string s)
 | snil (l c : Nat) : PlainX X (.slice none l c)
 | slice (a : Addr) (l c : Nat) : X a.block → PlainX X (.slice (some a) l c)
theorem PlainX.pl_eq {X : Nat → Prop} {v : Value} (h : PlainX X v) : pl (fun b => XB X b ∨ gB b = true) v = v := by
 cases h with
 | int k n => exact pl_int
 | str s => exact pl_string
 | snil l c => exact pl_snil
 | slice a l c h =>
   refine pl_slice ?_
   by_cases hg : gB a.block = true
   ·exact .inr hg
   ·exact .inl ⟨h, hg⟩
theorem run_law_at {f : FuncId} {args : Array Value} {W : World} {e0 e1 : TypeId} {f0 f1 : Nat × Nat} {X : Nat → Prop} (hf : cB f = true) (hne : f ≠ 32) (hX : ∀ b, X b → ∃ c e f, W.heap[b]? = some (.cells c e f)) (hargs : ∀ (C : FuncId → Prop) (R : Nat → Nat → Prop), (∀ b, X b → R b b) → AR C R args args) (hng : Tryd.prog.globals.size ≤ W.heap.size)
 (hn : W.heap[0]? = some (.cells #[.int .i64 0, .int .i64 1] e0 f0)) (hc : W.heap[1]? = some (.cells #[fnum, fgrp] e1 f1))
 (hC : ∀ w, Globs w → (∀ b o v, X b → W.cell? ⟨b, o, none⟩ = some v → PlainX X v → w.cell? ⟨b, o, none⟩ = some v) → Calls srcP f args w fun e w' => e = .returned (.bool true) ∧ Below w.heap.size w w') :
 ∃ N last o w' t', runNT Tryd.prog (N + 1) (solo (G (Frame.enter Tryd.prog f args .normal) []) W) #[] = (.ended o w', t') ∧ runN Tryd.prog N (solo (G (Frame.enter Tryd.prog f args .normal) []) W) = .next last ∧ step Tryd.prog last = .ended o w' ∧
   Conc.Good Tryd.prog (fun v w' => (∃ _ : World, v = .bool true) ∧ (∀ k, k < W.heap.size → w'.heap[k]? = W.heap[k]?) ∧ W.heap.size ≤ w'.heap.size ∧ w'.os = W.os ∧ w'.output = W.output ∧ w'.tape = W.tape) last o w' t' := by
 obtain ⟨bs, hbs⟩ : ∃ bs, bs = gBs e0 e1 f0 f1 := ⟨_, rfl⟩
 have hGlobs : ∀ w : World, (∀ n, gB n = true → w.heap[n]? = bs[n]?) → Globs w := fun w h => gBs_globs (e0 := e0) (e1 := e1) (f0 := f0) (f1 := f1) (by rw [← hbs]; exact h)
 have hfz : ∀ n, gB n = true → ∃ c e hi, bs[n]? = some (.cells c e (0, hi)) ∧ c.size ≤ hi := fun n h => by rw [hbs]; exact gBs_fz h
 have hrel : ∀ (C : FuncId → Prop) (D : FuncId → Code → Prop) (R : Nat → Nat → Prop), C 124 → C 125 → ∀ n, gB n = true → ∃ o o', bs[n]? = some o ∧ W.heap[n]? = some o' ∧ OR C D R o o' := fun C D R h1 h2 n h => by rw [hbs]; exact gBs_rel h1 h2 hn hc h
 have hself : ∀ (C : FuncId → Prop) (D : FuncId → Code → Prop) (R : Nat → Nat → Prop), C 124 → C 125 → ∀ n, gB n = true → ∃ o, bs[n]? = some o ∧ OR C D R o o := fun C D R h1 h2 n h => by rw [hbs]; exact gBs_self h1 h2 h
 have hcell : ∀ b o v, gB b = true → W.cell? ⟨b, o, none⟩ = some v → ∀ w : World, w.heap[b]? = bs[b]? → w.cell? ⟨b, o, none⟩ = some v := fun b o v hg hv w hw => by
  rw [hbs] at hw
  rcases gB_cases hg with rfl | rfl
  ·rw [gBs_nothing] at hw
   unfold World.cell? at hv ⊢
   simp only [hn] at hv
   simp only [hw]
   exact hv
  ·rw [gBs_checks] at hw
   unfold World.cell? at hv ⊢
   simp only [hc] at hv
   simp only [hw]
   exact hv
 obtain ⟨n1, n2, n3, n4⟩ := c_num
 obtain ⟨m1, m2⟩ := c_num'
 have hlt : ∀ n, gB n = true → n < W.heap.size := fun n h => by
  obtain ⟨_, _, _, e, _⟩ := hrel (fun _ => True) (fun _ _ => True) (fun _ _ => True) trivial trivial n h
  exact (Array.getElem?_eq_some_iff.1 e).1
 obtain ⟨Ws, hWs⟩ : ∃ Ws, Ws = smallW (XB X) (fun n => gB n = true) bs W := ⟨_, rfl⟩
 obtain ⟨K, hK⟩ : ∃ K, K = cfgOf srcP Tryd.prog cB gB (fun n => XB X n ∨ gB n = true) Ws.heap W.heap := ⟨_, rfl⟩
 have hgs : ∀ n, gB n = true → Ws.heap[n]? = bs[n]? := fun n h => by
  obtain ⟨o, e, _⟩ := hself (fun _ => True) (fun _ _ => True) (fun _ _ => True) trivial trivial n h
  rw [hWs, e]
  exact small_glob (hlt n h) h e
 have H : Grounds K c0B gB := by
  rw [hK]
  refine ⟨cov_o, cov_os, n3, n4, rfl, fun n h => .inr h, ⟨fun n h => ?_, fun n h => ?_⟩, fun n h => ?_, fun w h => hGlobs w fun n hg => (h n hg).trans (hgs n hg)⟩
  ·show ∃ c e hi, Ws.heap[n]? = _ ∧ _
   rw [hgs n h]; exact hfz n h
  ·show ∃ o o', Ws.heap[n]? = _ ∧ W.heap[n]? = _ ∧ _
   rw [hgs n h]; exact hrel _ _ _ n1 n2 n h
  ·show ∃ o, Ws.heap[n]? = _ ∧ _
   rw [hgs n h]; exact hself _ _ _ n1 n2 n h
 have hd : ∀ b, XB X b → ¬ gB b = true := fun b h => h.2
 have hXX : ∀ b, XB X b → ∃ c e f, W.heap[b]? = some (.cells c e f) := fun b h => hX b h.1
 have hRX : ∀ b, X b → RS (XB X) (fun n => gB n = true) b b := fun b h => ⟨rfl, by
  by_cases hg : gB b = true
  ·exact .inr hg
  ·exact .inl ⟨h, hg⟩⟩
 have h0 : W0 (cfgOf srcP Tryd.prog cB gB (fun n => XB X n ∨ gB n = true) Ws.heap W.heap) (RS (XB X) fun n => gB n = true) Ws W := by
  rw [hWs]; exact small_w0 hXX hng (hrel _ _ _ m1 m2) hfz hd fun b => Iff.rfl
 have h0s : W0 (cfgOf srcP srcP cB gB (fun n => XB X n ∨ gB n = true) Ws.heap W.heap) (RS (XB X) fun n => gB n = true) Ws Ws := by
  rw [hWs]; exact small_self hXX hng (fun b h => ⟨hlt b h, hself _ _ _ m1 m2 b h⟩) hfz hd fun b => Iff.rfl
 have hcells : ∀ b o v, X b → W.cell? ⟨b, o, none⟩ = some v → PlainX X v → Ws.cell? ⟨b, o, none⟩ = some v := fun b o v hb hv hp => by
  by_cases hg : gB b = true
  ·exact hcell b o v hg hv Ws (hgs b hg)
  ·rw [hWs, small_cell hv ⟨hb, hg⟩ hg, hp.pl_eq]
 rw [hK] at H
 refine run_of_lone (cov_a _ Ws.heap W.heap) (cov_as (fun n => XB X n ∨ gB n = true) Ws.heap W.heap) (Post := fun v _ => v = .bool true) (phase_needs (cov_as _ _ _) H) hf hne (hargs _ _ hRX) (hargs _ _ hRX) hf h0 h0s (by rw [hWs]; exact small_noDef hfz) (fun n h => ⟨rfl, .inr h⟩) (fun b c h => h.2) (fun n h => ⟨⟨rfl, h⟩, rfl, rfl⟩) (fun _ _ _ h => h) (fun v _ h => by rw [h]; rfl) fun t => ?_
 refine (hC (Ws.tp t) ?_ ?_).mono fun e w' ⟨h1, _⟩ => ⟨_, h1, rfl⟩
 ·exact globs_tp (hGlobs Ws hgs)
 ·exact hcells
end Go.Proofs.Tryd
end
