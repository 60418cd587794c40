/-
  A part of the proof (C63 C64): lemmas about the program and about the machine that the last text of this claim rests upon; no condition.
-/
import Derived.ReadAgain
import Derived.ChangeCalls
import Derived.Deep.SlicePairs
import Derived.ChangeSlices
import Derived.WideShapes
import Derived.Test.YtbbjalighlddcaaDoorM20
import Derived.Test.YtbbjalighlddcaaDoorMxCounx03
import Derived.Test.YtbbjalighlddcaaDoorMxCounx01
import Derived.Test.YtbbjalighlddcaaDoorMxCounx02
set_option linter.unusedSimpArgs false
set_option linter.unusedVariables false
section
namespace Go.Proofs.YtbbjalighlddcaaDoor
open Go Go.Conc Go.Sim Go.Load Go.RowKit Go.ChangeShapes Go.WideShapes Go.ChangeAt
open Go.Proofs.Tryd
set_option maxRecDepth 100000 in
theorem slices_full : ∀ t e, t < Tryd.prog.types.size → Tryd.prog.underlying t = some (.slice e) → 0 < Tryd.prog.cellsOf e := slices_full_of Tryd.prog (by kernel_rfl)
set_option maxRecDepth 100000 in
theorem kids_all : Kids Tryd.prog (· < Tryd.prog.types.size) := kids_rows (by kernel_rfl) (by kernel_rfl)
def ArgsRead {H : Type} (enc : TypeId × Value → H) (fn : Func) (W : World) (args : Array Value) (ds : List (DataW H)) : Prop :=
 ∃ p r b0, args.size = fn.params.size ∧ DataW.TrodAll enc Tryd.prog W 0 (fun _ => true) true fn.params.toList args.toList ds p ∧ ∀ (j : Nat) (t : TypeId) v, fn.params[j]? = some t → args[j]? = some v → Value.okWide Tryd.prog W r b0 t v
def LoneTrue (f : FuncId) (W : World) (args : Array Value) : Prop :=
 ∃ X : Nat → Prop, (∀ b, X b → ∃ c e f, W.heap[b]? = some (.cells c e f)) ∧ (∀ (C : FuncId → Prop) (R : Nat → Nat → Prop), (∀ b, X b → R b b) → AR C R args args) ∧
   ∀ w, Globs w → (∀ b o v, X b → W.cell? ⟨b, o, none⟩ = some v → PlainX X v → w.cell? ⟨b, o, none⟩ = some v) → Calls srcP f args w fun e w' => e = .returned (.bool true) ∧ Below w.heap.size w w'
set_option maxRecDepth 100000 in
theorem law_at {f : FuncId} {fn : Func} {s : ChangeSpec} (os : Os) (started : os.Started) (H : Type) (enc : TypeId × Value → H) (hfn : Tryd.prog.funcs[f]? = some fn) (hres : fn.resultTypes = #[4]) (hvars : s.vars = [])
 (hspec : ∀ ds : List (DataW H), ds.length = fn.params.size → s.fn H ds = { results := [.lit (.bool true)], args := ds }) (hpar : ∀ t ∈ fn.params.toList, t < Tryd.prog.types.size) (hf : cB f = true) (hne : f ≠ 32)
 (hC : ∀ W args ds, ArgsRead enc fn W args ds → LoneTrue f W args)
 (witness : ∃ (w : World) (tape : Tape) (i : Input), w.os = os ∧ (w.forCall tape i).Shaped Tryd.checked.prog ∧ i.vars = [] ∧ Input.okWide Tryd.checked.prog (w.forCall tape i) .any w.heap.size f i ∧
   ((s.pre enc Tryd.checked.prog fn [] false (w.forCall tape i).memory i.args ∧ laidMetH Tryd.checked.prog laidAll (w.forCall tape i).memory) ∧ sizedMet enc Tryd.checked.prog fn (OpenSpec.ofChange s) false (w.forCall tape i).memory i.args) ∧ ({} : Assume).holds Tryd.checked.prog (lone (Frame.enter Tryd.checked.prog f i.args .normal) [] (w.forCall tape i))) :
 ReturnsInLeavingWide {} Tryd.checked os f .any (fun w args => (s.pre enc Tryd.prog fn [] false w args ∧ laidMetH Tryd.prog laidAll w) ∧ sizedMet enc Tryd.prog fn (OpenSpec.ofChange s) false w args) (s.post enc Tryd.prog fn false true false false) := by
 refine returnsInLeavingWide_of_good ownK started witness ?_
 intro w tape i _ _ _ hok hpre hholds
 obtain ⟨_, _, _, fn', hfn', _, _, _, hsz, hval⟩ := hok
 have e : fn' = fn := Option.some.inj (hfn'.symm.trans hfn)
 subst e
 obtain ⟨⟨⟨ds, gs, before, hw, _⟩, hL⟩, _⟩ := hpre
 have hw' := DataW.Whole.of_heap (w' := w.forCall tape i) (by rfl) hw
 have hL' := of_laid (laidMetH.of_heap (w' := w.forCall tape i) (by rfl) hL)
 have hval' : ∃ b0, ∀ (j : Nat) (t : TypeId) v, fn'.params[j]? = some t → i.args[j]? = some v → Value.okWide Tryd.prog (w.forCall tape i) .any b0 t v := ⟨_, hval⟩
 clear hval hL hw hholds witness
 revert hL' hval' hw'
 generalize w.forCall tape i = W
 intro hw' hL' hval'
 obtain ⟨e0, e1, f0, f1, hn, hc⟩ := hL'
 obtain ⟨b0, hval'⟩ := hval'
 have hwhole := hw'
 rw [hvars] at hw'
 obtain ⟨p, q, hA, hV, hpq, _, _⟩ := hw'
 obtain ⟨hgs, rfl⟩ := trodVars_none hV
 subst hgs
 obtain ⟨X, hX, hargs, hcalls⟩ := hC W i.args ds ⟨p, _, b0, hsz, hA, hval'⟩
 have hng : Tryd.prog.globals.size ≤ W.heap.size := by
  have h1 : Tryd.prog.globals.size = 2 := by kernel_rfl
  have h2 := (Array.getElem?_eq_some_iff.1 hc).1
  have h3 := (Array.getElem?_eq_some_iff.1 hn).1
  omega
 have hlen : ds.length = fn'.params.size := by
  have := (trodAll_length hA).2
  simpa using this
 obtain ⟨N, last, o, w', t', r1, r2, r3, r4⟩ := run_law_at hf hne hX hargs hng hn hc hcalls
 refine ⟨N, last, o, w', t', r1, r2, r3, r4.mono fun v hp => ChangeSpec.post_blind ?_⟩
 obtain ⟨⟨_, rfl⟩, h1, h2, h3, h4, _⟩ := hp
 refine ⟨ds, [], _, [], p, [], hwhole, ?_, ?_, ?_, kept_of h3 h4 h1 _, fun h => by cases h⟩
 ·rw [List.append_nil, hspec _ hlen, hres]
  exact trodAll_mk1 (shut_bool Tryd.underlying4 _)
 ·rw [List.append_nil, hspec _ hlen]
  exact args_behind kids_all slices_full h1 hpar hA
 ·rw [List.append_nil, hspec _ hlen, hvars]
  rfl
end Go.Proofs.YtbbjalighlddcaaDoor
end
section
namespace Go.Proofs.YtbbjalighlddcaaDoor
open Go Go.Conc Go.Sim Go.Load Go.RowKit Go.ChangeShapes Go.WideShapes Go.ChangeAt
open Go.Proofs.Tryd
set_option maxRecDepth 100000 in
theorem slice_block {W : World} {r : Reach} {b0 : Nat} {t e : TypeId} {a : Addr} {n c : Nat} (ht : Tryd.prog.underlying t = some (.slice e)) (h : Value.okWide Tryd.prog W r b0 t (.slice (some a) n c)) : a.spot = none ∧ ∃ cs e f, W.heap[a.block]? = some (.cells cs e f) := by
 unfold Value.okWide at h
 rw [ht] at h
 simp only at h
 unfold Cell.okWide at h
 rw [ht] at h
 simp only at h
 unfold Cell.ok at h
 rw [ht] at h
 simp only at h
 obtain ⟨_, _, _, h1, row, cells, h2, _⟩ := h
 refine ⟨h1, ?_⟩
 unfold World.shape? at h2
 split at h2
 ·exact ⟨_, _, _, by assumption⟩
 ·cases h2
theorem addr_add (a : Addr) (i : Nat) (h : a.spot = none) : a.add i = ⟨a.block, a.off + i, none⟩ := by
 obtain ⟨b, o, s⟩ := a
 obtain rfl : s = none := h
 unfold Addr.add
 split
 ·rename_i e; subst e; rfl
 ·rfl
def AddrOk (W : World) (a : Option Addr) : Prop := ∀ x, a = some x → x.spot = none ∧ ∃ cs e f, W.heap[x.block]? = some (.cells cs e f)
section
variable {H : Type} {enc : TypeId × Value → H} {W : World} {t e : TypeId} {r : Reach} {b0 : Nat} {v : Value} {d : DataW H} {ps : List MemPlace}
set_option maxRecDepth 100000 in
theorem read_pairs {f0 f1 : Field} (ht : Tryd.prog.underlying t = some (.slice e)) (he : Tryd.prog.underlying e = some (.struct #[f0, f1])) (ce : Tryd.prog.cellsOf e = 2) (o0 : f0.offset = 0) (o1 : f1.offset = 1) (t0 : f0.type = 3) (t1 : f1.type = 3)
 (hv : Value.okWide Tryd.prog W r b0 t v) (h : DataW.Trod enc Tryd.prog W 0 (fun _ => true) true t v d ps) :
 ∃ (l : List (Int × Int)) (a : Option Addr) (c : Nat), v = .slice a l.length c ∧ AddrOk W a ∧ (1 ≤ l.length → ∃ b o, a = some ⟨b, o, none⟩ ∧ PairsAt W b o l) := by
 obtain ⟨a, n, c, rfl⟩ := okWide_slice ht hv
 obtain ⟨fuel, h⟩ := h
 rcases Go.Deep.open_slice_pairs ht he ce o0 o1 (by rw [t0]; exact cInt) (by rw [t1]; exact cInt) h with ⟨hc, _⟩ | ⟨a', len, cap, m, k, V0, V1, D0, D1, P0, P1, hc, _, hlc, _, hm, _, hx⟩
 ·simp only [Value.cells, List.cons.injEq, and_true] at hc
  cases hc
  exact ⟨[], none, 0, rfl, fun x e => (by cases e), fun h => (by simp at h)⟩
 ·simp only [Value.cells, List.cons.injEq, and_true] at hc
  cases hc
  have hb := slice_block ht hv
  have hm' : m = c := by simpa using hm
  have one : ∀ i, i < n → ∃ x : Int × Int, V0 i = .int .i64 x.1 ∧ V1 i = .int .i64 x.2 := fun i hi => by
   obtain ⟨_, _, q0, q1⟩ := hx i (by omega)
   rw [t0] at q0
   rw [t1] at q1
   obtain ⟨n0, e0, _⟩ := DataW.trod_int Tryd.underlying3 q0
   obtain ⟨n1, e1, _⟩ := DataW.trod_int Tryd.underlying3 q1
   simp only [List.cons.injEq, and_true] at e0 e1
   exact ⟨(n0, n1), e0, e1⟩
  have num : ∀ i, ∃ x : Int × Int, i < n → V0 i = .int .i64 x.1 ∧ V1 i = .int .i64 x.2 := fun i => by
   by_cases hi : i < n
   ·obtain ⟨x, hx⟩ := one i hi
    exact ⟨x, fun _ => hx⟩
   ·exact ⟨(0, 0), fun h => absurd h hi⟩
  obtain ⟨g, hg⟩ := Classical.axiomOfChoice num
  refine ⟨(List.range n).map g, some a', c, by simp, fun x e => (by cases e; exact hb), fun _ => ⟨a'.block, a'.off, ?_, fun i x hi => ?_⟩⟩
  ·obtain ⟨b, o, s⟩ := a'
   obtain rfl : s = none := hb.1
   rfl
  ·rw [List.getElem?_map, Option.map_eq_some_iff] at hi
   obtain ⟨j, hj, rfl⟩ := hi
   have hjn : i < n := by have := (List.getElem?_eq_some_iff.1 hj).1; simpa using this
   have hji : j = i := by rw [List.getElem?_range hjn] at hj; exact (Option.some.inj hj).symm
   subst hji
   obtain ⟨q0, q1, _⟩ := hx j (by omega)
   rw [addr_add _ _ hb.1] at q0 q1
   rw [(hg j hjn).1] at q0
   rw [(hg j hjn).2] at q1
   exact ⟨q0, q1⟩
set_option maxRecDepth 100000 in
theorem read_u16 (ht : Tryd.prog.underlying t = some (.slice e)) (he : Tryd.prog.underlying e = some (.int .u16)) (ce : Tryd.prog.cellsOf e = 1)
 (hv : Value.okWide Tryd.prog W r b0 t v) (h : DataW.Trod enc Tryd.prog W 0 (fun _ => true) true t v d ps) :
 ∃ (q : List Int) (a : Option Addr) (c : Nat), v = .slice a q.length c ∧ AddrOk W a ∧ (∀ x ∈ q, 0 ≤ x ∧ x ≤ 65535) ∧ (1 ≤ q.length → ∃ b o, a = some ⟨b, o, none⟩ ∧ U16At W b o q) := by
 obtain ⟨a, n, c, rfl⟩ := okWide_slice ht hv
 obtain ⟨fuel, h⟩ := h
 rcases open_ints ht he ce h with ⟨hc, _⟩ | ⟨a', len, cap, zs, hc, _, hlc, _, hl, _, hx, hw⟩
 ·simp only [Value.cells, List.cons.injEq, and_true] at hc
  cases hc
  exact ⟨[], none, 0, rfl, fun x e => (by cases e), by simp, fun h => (by simp at h)⟩
 ·simp only [Value.cells, List.cons.injEq, and_true] at hc
  cases hc
  have hb := slice_block ht hv
  have hl' : zs.length = c := by simpa using hl
  refine ⟨zs.take n, some a', c, by simp; omega, fun x e => (by cases e; exact hb), fun x hx => ?_, fun _ => ⟨a'.block, a'.off, ?_, fun i x hi => ?_⟩⟩
  ·have h1 := hw x (List.mem_of_mem_take hx)
   have e : (Lit.int .u16 x).wf = (decide ((0 : Int) ≤ x) && decide (x ≤ 65535)) := rfl
   rw [e, Bool.and_eq_true, decide_eq_true_iff, decide_eq_true_iff] at h1
   exact h1
  ·obtain ⟨b, o, s⟩ := a'
   obtain rfl : s = none := hb.1
   rfl
  ·have hi2 : zs[i]? = some x := by
    rw [List.getElem?_take] at hi
    split at hi
    ·exact hi
    ·cases hi
   have hz := (List.getElem?_eq_some_iff.1 hi2).1
   have := hx i hz
   rw [addr_add _ _ hb.1, List.getD_eq_getElem?_getD, hi2] at this
   exact this
end
theorem vr_slice {C : FuncId → Prop} {R : Nat → Nat → Prop} (a : Option Addr) (n c : Nat) (h : ∀ x, a = some x → R x.block x.block) : VR C R (.slice a n c) (.slice a n c) := by
 cases a with
 | none => exact .snil _ _
 | some x => exact .slice _ _ ⟨h x rfl, rfl, rfl⟩
end Go.Proofs.YtbbjalighlddcaaDoor
end
