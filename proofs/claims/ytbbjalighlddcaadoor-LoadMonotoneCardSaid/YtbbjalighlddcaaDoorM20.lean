/-
  A part of the proof (C53 C47 C49): lemmas about the program and about the machine that the last text of this claim rests upon; no condition.
-/
import Derived.Test.YtbbjalighlddcaaDoorCards
import Derived.Test.YtbbjalighlddcaaDoorTie
import Derived.ProofKit
import Derived.LaidMore
import Derived.OpenShut
import Derived.Stop.Joined
import Derived.Conc.Holds
import Derived.Conc.LeavingOf
import Derived.SevenTiedAt
import Derived.Test.YtbbjalighlddcaaDoorM19
import Derived.Test.YtbbjalighlddcaaDoorM06
import Derived.Test.YtbbjalighlddcaaDoorM04
import Derived.Test.YtbbjalighlddcaaDoorM11
import Derived.Test.YtbbjalighlddcaaDoorM12
set_option linter.unusedSimpArgs false
set_option linter.unusedVariables false
section
namespace Go.Proofs.YtbbjalighlddcaaDoor
open Go Go.Conc Go.Sim Go.Load Go.RowKit Go.ChangeShapes Go.WideShapes Go.ChangeAt
open Go.Proofs.Tryd
abbrev laidAll : List (String × DataW Unit) := [("baudot/load.checks", Rows.laid_baudot_load_checks), ("baudot/load.nothing", Rows.laid_baudot_load_nothing)]
theorem ownK : ownKnob Tryd.prog.godebug = none := by kernel_rfl
theorem gNothing : Tryd.prog.globalNamed "baudot/load.nothing" = some 0 := by kernel_rfl
theorem gChecks : Tryd.prog.globalNamed "baudot/load.checks" = some 1 := by kernel_rfl
theorem tNothing : (Tryd.prog.globals[0]?).map (·.type) = some 74 := by kernel_rfl
theorem tChecks : (Tryd.prog.globals[1]?).map (·.type) = some 143 := by kernel_rfl
theorem cInt : Tryd.prog.cellsOf 3 = 1 := by kernel_rfl
theorem cFn : Tryd.prog.cellsOf 142 = 1 := by kernel_rfl
theorem cPart : Tryd.prog.cellsOf 74 = 2 := by kernel_rfl
theorem cTab : Tryd.prog.cellsOf 143 = 2 := by kernel_rfl
theorem var_heap {P : Program} {w : World} {n : String} {g : Nat} {cs : Array Value} (hg : P.globalNamed n = some g) (h : w.var? P n = some cs) : ∃ e f, w.heap[g]? = some (.cells cs e f) := by
 simp only [World.var?, hg, Option.bind_some] at h
 split at h
 ·rename_i c e f he
  cases h
  exact ⟨_, _, he⟩
 ·cases h
theorem two_cells {cs : Array Value} (h : cs.toList.length = 2) : ∃ x y, cs = #[x, y] := by
 obtain ⟨l⟩ := cs
 match l, h with
 | [x, y], _ => exact ⟨x, y, rfl⟩
set_option maxRecDepth 100000 in
theorem of_laid {W : World} (h : laidMetH Tryd.prog laidAll W) : ∃ e0 e1 f0 f1, W.heap[0]? = some (.cells #[.int .i64 0, .int .i64 1] e0 f0) ∧ W.heap[1]? = some (.cells #[fnum, fgrp] e1 f1) := by
 have h1 := h.funcs (List.mem_cons_self ..)
 obtain ⟨g, t, cs, fuel, p, hg, ht, hv, hd⟩ := h1
 obtain rfl := Option.some.inj (gChecks.symm.trans hg)
 obtain rfl := Option.some.inj (tChecks.symm.trans ht)
 have h2 : laidMet Tryd.prog [("baudot/load.nothing", Rows.laid_baudot_load_nothing)] W := by
  have h' : laidMet Tryd.prog (laidAll.filter fun x => x.2.handleName?.isNone) W := h.1
  exact h'
 obtain ⟨ps, ⟨g0, t0, cs0, fl0, p0, q0, hg0, ht0, hv0, hd0, _⟩, _, _⟩ := h2
 obtain rfl := Option.some.inj (gNothing.symm.trans hg0)
 obtain rfl := Option.some.inj (tNothing.symm.trans ht0)
 obtain ⟨e0, f0, hh0⟩ := var_heap hg0 hv0
 obtain ⟨e1, f1, hh1⟩ := var_heap hg hv
 obtain ⟨xs, m, rfl, hx, hl, hn, hel⟩ := DataW.trod_array Tryd.underlying143 hd
 obtain ⟨ys, m0, rfl, hy, hl0, hn0, hel0⟩ := DataW.trod_struct Tryd.underlying74 hd0
 rw [cTab] at hl
 rw [cPart] at hl0
 obtain ⟨c0, c1, rfl⟩ := two_cells hl
 obtain ⟨d0, d1, rfl⟩ := two_cells hl0
 have k0 := hel 0 (by decide)
 have k1 := hel 1 (by decide)
 rw [cFn] at k0 k1
 have j0 := hel0 0 _ rfl
 have j1 := hel0 1 _ rfl
 match xs, hn, hx, k0, k1 with
 | [x0, x1], _, hx, k0, k1 =>
 match ys, hn0, hy, j0, j1 with
 | [y0, y1], _, hy, j0, j1 =>
   have hx' : (DataW.agg [.held [40, 98, 97, 117, 100, 111, 116, 47, 108, 111, 97, 100, 46, 98, 111, 111, 107, 41, 46, 110, 117, 109, 98, 101, 114, 115], .held [40, 98, 97, 117, 100, 111, 116, 47, 108, 111, 97, 100, 46, 98, 111, 111, 107, 41, 46, 103, 114, 111, 117, 112, 115]] : DataW (List UInt8)) = .agg [x0.1, x1.1] := congrArg Prod.fst hx
   have hy' : (DataW.agg [.lit (.int .i64 0), .lit (.int .i64 1)] : DataW Unit) = .agg [y0.1, y1.1] := congrArg Prod.fst hy
   simp only [DataW.agg.injEq, List.cons.injEq, and_true] at hx' hy'
   obtain ⟨x0, q0⟩ := x0
   obtain ⟨x1, q1⟩ := x1
   obtain ⟨rfl, rfl⟩ := hx'
   obtain ⟨y0, r0⟩ := y0
   obtain ⟨y1, r1⟩ := y1
   obtain ⟨rfl, rfl⟩ := hy'
   have e0' := func_of_trod (f0 := 124) Tryd.underlying142 (by kernel_rfl) (show DataW.trod (funcToken Tryd.prog) Tryd.prog W 0 (fun _ => true) true m 142 [c0] = _ from k0)
   have e1' := func_of_trod (f0 := 125) Tryd.underlying142 (by kernel_rfl) (show DataW.trod (funcToken Tryd.prog) Tryd.prog W 0 (fun _ => true) true m 142 [c1] = _ from k1)
   subst e0' e1'
   have j0' : DataW.trod _ Tryd.prog W 0 _ _ m0 3 ((#[d0, d1].toList.drop 0).take (Tryd.prog.cellsOf 3)) = some (.lit (.int .i64 0), r0) := j0
   have j1' : DataW.trod _ Tryd.prog W 0 _ _ m0 3 ((#[d0, d1].toList.drop 1).take (Tryd.prog.cellsOf 3)) = some (.lit (.int .i64 1), r1) := j1
   rw [cInt] at j0' j1'
   obtain ⟨n0, a0, b0, _⟩ := DataW.trod_int Tryd.underlying3 j0'
   obtain ⟨n1, a1, b1, _⟩ := DataW.trod_int Tryd.underlying3 j1'
   simp at a0 a1 b0 b1
   obtain ⟨rfl, _⟩ := b0
   obtain ⟨rfl, _⟩ := b1
   subst a0 a1
   exact ⟨e0, e1, f0, f1, hh0, hh1⟩
theorem u8s_get {n j : Nat} {t : TypeId} (h : (List.replicate n 5).toArray[j]? = some t) : t = 5 := by
 simp only [List.getElem?_toArray, List.getElem?_replicate] at h
 split at h <;> simp_all
theorem u8_wf (x : Int) : (Lit.int .u8 x).wf = true ↔ 0 ≤ x ∧ x < 256 := by
 have e : (Lit.int .u8 x).wf = (decide ((0 : Int) ≤ x) && decide (x ≤ 255)) := rfl
 rw [e, Bool.and_eq_true, decide_eq_true_iff, decide_eq_true_iff]
 omega
theorem kept_of {w w' : World} (h1 : w'.os = w.os) (h2 : w'.output = w.output) (h3 : ∀ k, k < w.heap.size → w'.heap[k]? = w.heap[k]?) (may : MemPlace → Prop) : w.keptBut w' may := by
 refine ⟨h1, h2, fun i hi => ?_⟩
 rw [h3 i hi]
 rcases w.heap[i]? with _ | o
 ·rfl
 ·cases o <;> simp
set_option maxRecDepth 100000 in
theorem u8_list {H : Type} {r : Reach} {b0 : Nat} {enc : TypeId × Value → H} {w : World} {base : Nat} {spare : Nat → Bool} {held : Bool} : ∀ {n : Nat} {vs : List Value} {ds : List (DataW H)} {ps : List MemPlace}, DataW.TrodAll enc Tryd.prog w base spare held (List.replicate n 5) vs ds ps →
 (∀ (j : Nat) v, vs[j]? = some v → Value.okWide Tryd.prog w r b0 5 v) → ∃ xs : List Int, xs.length = n ∧ (∀ x ∈ xs, 0 ≤ x ∧ x < 256) ∧ vs = xs.map (.int .u8) ∧ ds = xs.map fun x => .lit (.int .u8 x)
 | 0, vs, ds, ps, h, _ => by
   obtain ⟨rfl, rfl, _⟩ := trodAll_nil h
   exact ⟨[], rfl, by simp, rfl, rfl⟩
 | n + 1, vs, ds, ps, h, hv => by
   obtain ⟨v, vs', d, ds', p, q, rfl, rfl, rfl, h1, h2⟩ := trodAll_cons h
   obtain ⟨x, rfl, rfl, _, hw⟩ := open_int Tryd.underlying5 (hv 0 v rfl) h1
   obtain ⟨xs, e1, e2, rfl, rfl⟩ := u8_list h2 fun j v e => hv (j + 1) v e
   refine ⟨x :: xs, by simp [e1], fun y hy => ?_, rfl, rfl⟩
   rcases List.mem_cons.1 hy with rfl | hy
   ·exact (u8_wf _).1 hw
   ·exact e2 y hy
set_option maxRecDepth 100000 in
theorem u8_shut {H : Type} {enc : TypeId × Value → H} {w : World} {base : Nat} {spare : Nat → Bool} {held : Bool} : ∀ {xs : List Int}, (∀ x ∈ xs, 0 ≤ x ∧ x < 256) → DataW.TrodAll enc Tryd.prog w base spare held (List.replicate xs.length 5) (xs.map (.int .u8)) (xs.map fun x => .lit (.int .u8 x)) []
 | [], _ => rfl
 | x :: xs, h => ⟨[], [], shut_int Tryd.underlying5 ((u8_wf _).2 (h x (List.mem_cons_self ..))), u8_shut fun y hy => h y (List.mem_cons_of_mem _ hy), rfl⟩
theorem ar_ints {C : FuncId → Prop} {R : Nat → Nat → Prop} (k : IntKind) : ∀ xs : List Int, AR C R (xs.map (Value.int k)).toArray (xs.map (Value.int k)).toArray := fun xs => ⟨rfl, fun i x x' h h' => by
 rw [h] at h'
 cases h'
 simp only [List.getElem?_toArray, List.getElem?_map, Option.map_eq_some_iff] at h
 obtain ⟨n, _, rfl⟩ := h
 exact .int _ _⟩
theorem tied_goes (Lk : Looks) {p : Pinned} {s : OpenSpec} {c : OpenClaim} (al : List (List PathCond)) (kinds : List LaidKind) (tests : Bool) (har : Bool × String) (lk : Bool)
 (hc : c.holds p s) (hal : ∀ D ∈ al, (c.withDomain D).holds p s) (hw : c.wfByText s = true) (hwal : ∀ D ∈ al, (c.withDomain D).wfByText s = true)
 (htie : c.laidByTextAt Lk p kinds tests)
 (hst : c.start = .entering) (hnb : c.noBlocks = false ∧ c.again = false) (hm : p.checked.prog.mainIs = some (har.1, har.2.toList)) (hn : (!har.1 && har.2.isEmpty && !lk) = false)
 (hl : ∀ f fn, p.checked.prog.funcNamed c.func = some f → p.checked.prog.funcs[f]? = some fn → lk = p.checked.prog.looks [] ∧ ∀ (j : Nat) t, fn.params[j]? = some t → p.checked.prog.wantsStandIn t = false)
 (hg : true = c.goesBy p.checked.prog) :
 Claim7.holds p (.plain s) { stood := { row := c, standIns := [], harness := har, looks := lk }, kinds := [], alts := al, goes := true, laidByText := true, laidKinds := kinds, laidTests := tests, laidLooks := Lk } := by
 have h6 : ∀ r : OpenClaim, Claim7.isSixth { stood := { row := r, standIns := [], harness := har, looks := lk }, kinds := [] } = false := fun r => by simpa [Claim7.isSixth] using hn
 refine ⟨Claim7.tied_new_at Lk kinds tests (Claim7.new_of_sixth hc har lk hst hnb hm (h6 c) hl) hw, fun D hD => ?_, htie, (fun h => by cases h), hg⟩
 exact Claim7.tied_new_at Lk kinds tests (Claim7.new_of_sixth (hal D hD) har lk hst hnb hm (h6 _) hl) (hwal D hD)
set_option maxRecDepth 100000 in
theorem law_u8 {f : FuncId} {fn : Func} {s : ChangeSpec} {n : Nat} (os : Os) (started : os.Started) (H : Type) (enc : TypeId × Value → H) (hfn : Tryd.prog.funcs[f]? = some fn) (hpar : fn.params = (List.replicate n 5).toArray) (hres : fn.resultTypes = #[4]) (hvars : s.vars = [])
 (hspec : ∀ ds : List (DataW H), ds.length = n → s.fn H ds = { results := [.lit (.bool true)], args := ds }) (hf : cB f = true) (hne : f ≠ 32)
 (hC : ∀ xs : List Int, xs.length = n → (∀ x ∈ xs, 0 ≤ x ∧ x < 256) → ∀ w, Globs w → Calls srcP f (xs.map (Value.int .u8)).toArray w fun e w' => e = .returned (.bool true) ∧ Below w.heap.size w w')
 (witness : ∃ (w : World) (tape : Tape) (i : Input), w.os = os ∧ (w.forCall tape i).Shaped Tryd.checked.prog ∧ i.vars = [] ∧ Input.okWide Tryd.checked.prog (w.forCall tape i) .any w.heap.size f i ∧
   ((s.pre enc Tryd.checked.prog fn [] false (w.forCall tape i).memory i.args ∧ laidMetH Tryd.checked.prog laidAll (w.forCall tape i).memory) ∧ sizedMet enc Tryd.checked.prog fn (OpenSpec.ofChange s) false (w.forCall tape i).memory i.args) ∧ ({} : Assume).holds Tryd.checked.prog (lone (Frame.enter Tryd.checked.prog f i.args .normal) [] (w.forCall tape i))) :
 ReturnsInLeavingWide {} Tryd.checked os f .any (fun w args => (s.pre enc Tryd.prog fn [] false w args ∧ laidMetH Tryd.prog laidAll w) ∧ sizedMet enc Tryd.prog fn (OpenSpec.ofChange s) false w args) (s.post enc Tryd.prog fn false true false false) := by
 refine returnsInLeavingWide_of_good ownK started witness ?_
 intro w tape i _ _ _ hok hpre hholds
 obtain ⟨_, _, _, fn', hfn', _, _, _, hsz, hval⟩ := hok
 have e : fn' = fn := Option.some.inj (hfn'.symm.trans hfn)
 subst e
 obtain ⟨⟨⟨ds, gs, before, hw, _⟩, hL⟩, _⟩ := hpre
 have hw' := DataW.Whole.of_heap (w' := w.forCall tape i) (by rfl) hw
 have hL' := of_laid (laidMetH.of_heap (w' := w.forCall tape i) (by rfl) hL)
 have hval' : ∀ (j : Nat) v, i.args.toList[j]? = some v → j < n → Value.okWide Tryd.prog (w.forCall tape i) .any w.heap.size 5 v := fun j v e hj => hval j _ v (by rw [hpar]; simp [hj]) (by simpa using e)
 clear hval hL hw hholds witness
 revert hL' hval' hw'
 generalize w.forCall tape i = W
 intro hw' hL' hval'
 obtain ⟨e0, e1, f0, f1, hn, hc⟩ := hL'
 have hwhole := hw'
 rw [hpar, hvars] at hw'
 obtain ⟨p, q, hA, hV, rfl, _, _⟩ := hw'
 obtain ⟨rfl, rfl⟩ := trodVars_none hV
 have hlen : i.args.size = n := by rw [hsz, hpar]; simp
 obtain ⟨xs, hx1, hx2, hx3, rfl⟩ := u8_list hA fun j v e => hval' j v e (by
  have := (List.getElem?_eq_some_iff.1 e).1
  simpa [hlen] using this)
 have hargs : i.args = (xs.map (Value.int .u8)).toArray := by rw [← hx3]
 rw [hargs] at hwhole ⊢
 have hng : Tryd.prog.globals.size ≤ W.heap.size := by
  have h1 : Tryd.prog.globals.size = 2 := by kernel_rfl
  have h2 := (Array.getElem?_eq_some_iff.1 hc).1
  have h3 := (Array.getElem?_eq_some_iff.1 hn).1
  omega
 obtain ⟨N, last, o, w', t', r1, r2, r3, r4⟩ := run_law hf hne (fun C R => ar_ints .u8 xs) hng hn hc (hC xs hx1 hx2)
 refine ⟨N, last, o, w', t', r1, r2, r3, r4.mono fun v hp => ChangeSpec.post_blind ?_⟩
 obtain ⟨⟨_, rfl⟩, h1, h2, h3, h4, _⟩ := hp
 refine ⟨_, [], _, [], [], [], hwhole, ?_, ?_, ?_, kept_of h3 h4 h1 _, fun h => by cases h⟩
 ·rw [hspec _ (by simpa using hx1), hres]
  exact trodAll_mk1 (shut_bool Tryd.underlying4 _)
 ·rw [hspec _ (by simpa using hx1), hpar, ← hx1]
  simp only [List.append_nil]
  exact u8_shut hx2
 ·rw [hspec _ (by simpa using hx1), hvars]
  rfl
set_option maxRecDepth 100000 in
theorem door_met (os : Os) (args : Array Value) : laidMetH Tryd.prog laidAll ((World.doorLaid Tryd.prog 19 os).forCall (fun _ _ => 0) ⟨#[], args, []⟩).memory :=
 laidMetH_of_parts3 (fuel := 8) (laidMet_of_run' 8 (by kernel_rfl) (by kernel_rfl)) (by kernel_rfl) (by kernel_rfl)
end Go.Proofs.YtbbjalighlddcaaDoor
end
section
namespace Go.Proofs.Tryd
open Go Go.Sim Go.Load Go.RowKit
theorem src_needsF : srcP.funcs[32]? = some srcFn := by kernel_rfl
theorem src_ntmps : srcFn.ntmps = 48 := rfl
@[go_sem] theorem src_needsC (args : Array Value) (w : World) : (callFunc 32 args).run srcP w = .ok (.enter 32 args) w := enter_of src_needsF (by kernel_rfl) (by kernel_rfl) args w
section
variable {w : World} {a b c d e : Value}
theorem field_run {S T : TypeId} {fs : Array Field} {fd : Field} {k : Nat} {cs : Array Value} {z : Value} (hu : srcP.underlying S = some (.struct fs)) (hf : fs[k]? = some fd) (ht : fd.type = T) (ha : (isAgg T).run srcP w = .ok false w) (hz : cs[fd.offset]? = some z) : (Instr.field S (.agg cs) k).run srcP w = .ok z w := by
 simp only [Instr.field, Sem.run_bind, run_underlying hu, Result.andThen_ok, hf, asAgg, Sem.run_pure, part, ht, ha, Bool.false_eq_true, if_false, hz]
@[go_sem] theorem fld_bk1 : (Instr.field 54 (.agg #[a, b, c, d, e]) 1).run srcP w = .ok c w := field_run und_bk bk1 (T := 3) (by kernel_rfl) ag_int (by rw [show (fld 54 1).offset = 2 by kernel_rfl]; rfl)
@[go_sem] theorem fld_bk2 : (Instr.field 54 (.agg #[a, b, c, d, e]) 2).run srcP w = .ok d w := field_run und_bk bk2 (T := 3) (by kernel_rfl) ag_int (by rw [show (fld 54 2).offset = 3 by kernel_rfl]; rfl)
@[go_sem] theorem fld_bk3 : (Instr.field 54 (.agg #[a, b, c, d, e]) 3).run srcP w = .ok e w := field_run und_bk bk3 (T := 52) (by kernel_rfl) ag_grs (by rw [show (fld 54 3).offset = 4 by kernel_rfl]; rfl)
@[go_sem] theorem fld_bk0 : (Instr.field 54 (.agg #[a, b, c, d, e]) 0).run srcP w = .ok (.agg #[a, b]) w := by
  simp only [Instr.field, Sem.run_bind, run_underlying und_bk, Result.andThen_ok, bk0, asAgg, Sem.run_pure, part, show (fld 54 0).type = 23 by kernel_rfl, show (fld 54 0).offset = 0 by kernel_rfl, ag_fr, if_true, sz_fr]
  rfl
@[go_sem] theorem fld_gr0 : (Instr.field 72 (.agg #[a, b, c]) 0).run srcP w = .ok a w := field_run und_gr gr0 (T := 9) (by kernel_rfl) ag_str (by rw [show (fld 72 0).offset = 0 by kernel_rfl]; rfl)
@[go_sem] theorem fld_gr1 : (Instr.field 72 (.agg #[a, b, c]) 1).run srcP w = .ok b w := field_run und_gr gr1 (T := 3) (by kernel_rfl) ag_int (by rw [show (fld 72 1).offset = 1 by kernel_rfl]; rfl)
@[go_sem] theorem fld_gr2 : (Instr.field 72 (.agg #[a, b, c]) 2).run srcP w = .ok c w := field_run und_gr gr2 (T := 70) (by kernel_rfl) ag_frs (by rw [show (fld 72 2).offset = 2 by kernel_rfl]; rfl)
@[go_sem] theorem fld_fr0 : (Instr.field 23 (.agg #[a, b]) 0).run srcP w = .ok a w := field_run und_fr fr0 (T := 3) (by kernel_rfl) ag_int (by rw [show (fld 23 0).offset = 0 by kernel_rfl]; rfl)
@[go_sem] theorem fld_fr1 : (Instr.field 23 (.agg #[a, b]) 1).run srcP w = .ok b w := field_run und_fr fr1 (T := 3) (by kernel_rfl) ag_int (by rw [show (fld 23 1).offset = 1 by kernel_rfl]; rfl)
end
theorem make_run0 {w : World} {n : Nat} (hn : n ≤ 1000) : (Instr.makeSlice 56 (.int .i64 n) (.int .i64 n)).run srcP w = .ok (.slice (some ⟨w.heap.size, 0, none⟩) n n) (w.alloc (.cells (madeCells #[.int .i64 0] n) 3)) := by
 have hi : srcP.info? 3 = some ((Tryd.prog.info? 3).getD default) := by rw [src_info]; kernel_rfl
 have hs : ((Tryd.prog.info? 3).getD default).size = 1 := by kernel_rfl
 have hby : ((Tryd.prog.info? 3).getD default).bytes = 8 := by kernel_rfl
 have hz : ((Tryd.prog.info? 3).getD default).zero = some (.int .i64 0) := by kernel_rfl
 generalize (Tryd.prog.info? 3).getD default = inf at hi hs hby hz
 have hr := run_makeSlice (P := srcP) w 56 3 inf (.int .i64 0) (by rw [src_und]; exact Tryd.underlying56) hi hz .i64 .i64 (n : Int) n (by omega) (by omega) (by rw [hs]; omega) (by rw [hby]; omega) (by omega)
 rw [hs] at hr
 simpa [Value.cells] using hr
def RowI (W : World) (s n : Nat) (L : List Int) (k : Nat) : Prop := ∀ i, i < n → ∃ x, W.cell? ⟨s, i, none⟩ = some (.int .i64 x) ∧ W.frozen? ⟨s, i, none⟩ = false ∧ (i < k → L[i]? = some x)
theorem RowI.keep {W w1 : World} {s n k : Nat} {L : List Int} (h : RowI W s n L k) (hB : Below W.heap.size W w1) : RowI w1 s n L k := fun i hi =>
 let ⟨x, a, b, c⟩ := h i hi
 ⟨x, keep_cell _ hB a, keep_frozen _ hB a b, c⟩
theorem RowI.set {W : World} {s n k : Nat} {L : List Int} {y : Int} (h : RowI W s n L k) (hk : k < n) (hy : L[k]? = some y) : RowI (W.setCell ⟨s, k, none⟩ (.int .i64 y)) s n L (k + 1) := fun i hi => by
 obtain ⟨x, a, b, c⟩ := h i hi
 by_cases e : i = k
 ·subst e; exact ⟨y, cell_same (is_some a), by simpa using b, fun _ => hy⟩
 ·exact ⟨x, cell_other (by simp <;> omega) a, by simpa using b, fun h => c (by omega)⟩
def needsL (B : Bk) : List Int := B.gs.map (needN B)
set_option maxHeartbeats 4000000 in
set_option maxRecDepth 100000 in
theorem Needs_ok (B : Bk) (w : World) (h : BookAt w B) (hG : Globs w) (hl : 1 ≤ B.gs.length) (ht : ∀ g ∈ B.gs, 1 ≤ g.traffic.length) (hcp : ∀ g ∈ B.gs, g.traffic.length ≤ g.tc) (hz : checkN B = 0) : Calls srcP 32 #[bv B] w fun e w' => ∃ v, e = .returned (.tuple #[v, .int .i64 0]) ∧ IntsAt w' v (needsL B) ∧ Below w.heap.size w w' := by
 have hop := fun W (hB : Below w.heap.size w W) => open_any B true W (h.keep hB) (hG.keep hB)
 unfold openV at hop
 simp only [if_pos hz, if_true] at hop
 have hV := checkN_zero hz
 have hne := fun (W : World) (hB : Below w.heap.size w W) (i : Nat) (g : Grp) (hg : B.gs[i]? = some g) => needs_any B i g hg W ⟨h.keep hB, hV.num.1⟩ (hV.grp g (List.mem_of_getElem? hg)).traf
 obtain ⟨b, o, hga, hcs⟩ := h.row hl
 have htr := Lib.hid fun g (hg : g ∈ B.gs) => h.traf g hg (ht g hg)
 have hsm := Lib.hid h.small.2
 have hl4 := hV.len4
 have hcap := h.cap
 have HT := Lib.hid ht
 have HCP := Lib.hid hcp
 have HO := Lib.hid hop
 have HN := Lib.hid hne
 obtain ⟨L, hL⟩ : ∃ L, L = needsL B := ⟨_, rfl⟩
 have HL : Hid (L.length = B.gs.length ∧ ∀ (i : Nat) (g : Grp), B.gs[i]? = some g → L[i]? = some (needN B g)) := Lib.hid ⟨by rw [hL]; simp [needsL], fun i g hg => by rw [hL]; show (B.gs.map (needN B))[i]? = some (needN B g); rw [List.getElem?_map, hg]; rfl⟩
 obtain ⟨nN, hnN⟩ : ∃ nN, nN = needN B := ⟨_, rfl⟩
 rw [← hL]
 simp only [← hnN] at HN HL
 clear hop hne hV hz ht hcp hL hnN h hG
 obtain ⟨lim, gr, hr, gs, ga, gc⟩ := B
 simp only at hga hcs hl4 hl hcap
 subst hga
 simp only [bv] at *
 have HC := Lib.hid hcs
 clear hcs
 obtain ⟨s21, h21⟩ : ∃ s : ByteArray, s = ⟨Array.replicate 21 0⟩ := ⟨_, rfl⟩
 obtain ⟨s101, h101⟩ : ∃ s : ByteArray, s = ⟨Array.replicate 101 0⟩ := ⟨_, rfl⟩
 have z21 : s21.size = 21 := by rw [h21]; rfl
 have z101 : s101.size = 101 := by rw [h101]; rfl
 go_enter src_needsF, src_ntmps
 simp only [srcBody, sB2, sB3, sL0, sL1, sL2, sO0, sO1, sO2, sO3, sO4, sO5, sO6, sO7, sO8, sO9, sO11, sO12, op2, one2, zero2, str21, str101, ← h21, ← h101]
 clear h21 h101
 go_wp2
 obtain ⟨W, hW⟩ : ∃ W, w.alloc (Obj.cells #[.int .i64 lim.1, .int .i64 lim.2, .int .i64 gr, .int .i64 hr, .slice (some ⟨b, o, none⟩) gs.length gc] 54) = W := ⟨_, rfl⟩
 have hBW : Below w.heap.size w W := by subst hW; go_grown
 rw [hW]
 clear hW
 go_loopw [7] (fun i wr => W = wr ∧ ∃ k : Nat, i = .int .i64 k ∧ k ≤ gs.length) (fun i _ => gs.length - (intOf i).toNat)
 case atStart => exact ⟨rfl, 0, rfl, by omega⟩
 case round =>
  obtain ⟨hwr, k, rfl, hk⟩ := hrel
  subst hwr
  by_cases hlt : k < gs.length
  ·obtain ⟨g, hg⟩ : ∃ g, gs[k]? = some g := ⟨gs[k], by simp [hlt]⟩
   have hm := List.mem_of_getElem? hg
   obtain ⟨c0, c1, c2⟩ := HC.out k g hg
   replace c0 := keep_cell _ hBW c0
   replace c1 := keep_cell _ hBW c1
   replace c2 := keep_cell _ hBW c2
   obtain ⟨tb, tof, hta, hp⟩ := htr.out g hm
   have ht1 := HT.out g hm
   have htc := HCP.out g hm
   obtain ⟨ht2, hn2⟩ := hsm.out g hm
   have HP := Lib.hid hp
   clear hp
   rw [hta] at c2
   go_wp2
   all_goals try (exfalso; omega)
   go_loopw [28] (fun j wr => W = wr ∧ ∃ m : Nat, j = .int .i64 m ∧ m ≤ g.traffic.length) (fun j _ => g.traffic.length - (intOf j).toNat)
   case atStart => exact ⟨rfl, 0, rfl, by omega⟩
   case round =>
    obtain ⟨hwr, m, rfl, hmle⟩ := hrel
    subst hwr
    by_cases hlt2 : m < g.traffic.length
    ·obtain ⟨x, hx⟩ : ∃ x, g.traffic[m]? = some x := ⟨g.traffic[m], by simp [hlt2]⟩
     obtain ⟨p0, p1⟩ := HP.out m x hx
     replace p0 := keep_cell _ hBW p0
     replace p1 := keep_cell _ hBW p1
     go_wp2
     exact ⟨⟨trivial, m + 1, by simp, by omega⟩, by simp [intOf]; omega⟩
    ·go_wp2
     exact ⟨⟨trivial, k + 1, by simp, by omega⟩, by simp [intOf]; omega⟩
  ·go_wp2_with (go_at_call 53; refine (HO.out _ (by go_grown)).mono ?_; rintro e w1 ⟨rfl, hB1⟩; (first | (replace hB := Below.call (by with_reducible assumption) hB1 (Nat.le_refl _)) | (replace hB := Below.call (by go_grown) hB1 (Nat.le_refl _)) | (have hB := hB1)); (try clear hc hg hz); obtain ⟨hc, hg⟩ := bcell hB; have hz := hB.size; clear hB1; (try simp at hz); (try have hlt0 : w.heap.size < w1.heap.size := by omega))
   rw [make_run0 (by omega)]
   go_wp2
   obtain ⟨X, hX⟩ : ∃ X, w1.alloc (.cells (madeCells #[.int .i64 0] gs.length) 3) = X := ⟨_, rfl⟩
   have hBX : Below w.heap.size w X := by subst hX; go_grown
   have hsX : X.heap.size = w1.heap.size + 1 := by subst hX; simp
   have hRX : RowI X w1.heap.size gs.length L 0 := by
    subst hX
    intro i hi
    have hg0 : (madeCells #[.int .i64 0] gs.length)[i]? = some (.int .i64 0) := by simp [madeCells, hi, Nat.mod_one]
    have hb : (w1.alloc (.cells (madeCells #[.int .i64 0] gs.length) 3)).heap[w1.heap.size]? = some (.cells (madeCells #[.int .i64 0] gs.length) 3) := by show (w1.heap.push _)[w1.heap.size]? = _; simp
    exact ⟨0, by unfold World.cell?; rw [hb]; exact hg0, by unfold World.frozen?; rw [hb]; simp, fun h => absurd h (Nat.not_lt_zero _)⟩
   rw [hX]
   obtain ⟨s, hs⟩ : ∃ s, w1.heap.size = s := ⟨_, rfl⟩
   have hws : w.heap.size ≤ s := by omega
   rw [hs] at hRX ⊢
   have hsX' : s < X.heap.size := by omega
   clear hX hsX
   go_loopw [7] (fun j wr => ∃ m : Nat, j = .int .i64 m ∧ m ≤ gs.length ∧ RowI wr s gs.length L m ∧ Below w.heap.size w wr ∧ s < wr.heap.size) (fun j _ => gs.length - (intOf j).toNat)
   case atStart => exact ⟨0, rfl, by omega, hRX, hBX, hsX'⟩
   case round =>
    obtain ⟨m, rfl, hm, hR, hBr, hsr⟩ := hrel
    by_cases hlt3 : m < gs.length
    ·obtain ⟨g, hg⟩ : ∃ g, gs[m]? = some g := ⟨gs[m], by simp [hlt3]⟩
     have hne := fun W hB => HN.out W hB m g hg
     have hLm := HL.out.2 m g hg
     go_wp2_with (go_at_call 58; refine (hne _ (by go_grown)).mono ?_; rintro e w2 ⟨rfl, hB2⟩; have hR2 := hR.keep hB2; obtain ⟨x2, kx, fx, _⟩ := hR2 m hlt3; have hz2 := hB2.size)
     refine ⟨⟨m + 1, by simp, by omega, hR2.set hlt3 hLm, Below.setCell (Below.call hBr hB2 (Nat.le_refl _)) hws _, by simp; omega⟩, by simp [intOf]; omega⟩
    ·go_wp2
     refine bodyPost_ret (results_tmp2 (show srcFn.results = #[.tmp 2, .tmp 3] by kernel_rfl) _ _ _) rfl ?_
     obtain rfl : m = gs.length := by omega
     refine ⟨_, rfl, ⟨some ⟨s, 0, none⟩, gs.length, ?_, fun _ => ⟨s, rfl, fun i x hx => ?_⟩⟩, hBr⟩
     ·rw [HL.out.1]; rfl
     ·have hi : i < gs.length := by rw [← HL.out.1]; exact (List.getElem?_eq_some_iff.1 hx).1
      obtain ⟨y, a1, _, a3⟩ := hR i hi
      rw [a3 hi] at hx
      cases hx; exact a1
end Go.Proofs.Tryd
end
section
namespace Go.Proofs.Tryd
open Go Go.Load Go.RowKit
def exC (g a b : Nat) : Bk := { exB g a b with lim := (1, 2) }
theorem e_loss : toldN lossN (2, 1) 2 = tv (2, 5) 0 := by kernel_rfl
theorem e_lost : toldN lostN (2, 1) 2 = tv (4, 5) 0 := by kernel_rfl
theorem e_carried : toldN carriedN (2, 1) 2 = tv (6, 5) 0 := by kernel_rfl
theorem e_enough : enoughV (2, 1) (1, 5) = .tuple #[.int .i64 4, .bool true, .int .i64 0] := by kernel_rfl
theorem e_bears : bearsV 2 1 (1, 5) = tv (1, 1) 0 := by kernel_rfl
theorem e_over : overN 1 1 (1, 1) = tv (1, 5) 0 := by kernel_rfl
theorem e_fits : fitsV [(2, 3), (4, 4)] 2 = tv (6, 7) 0 := by kernel_rfl
section
variable (g a b : Nat)
theorem e_check : checkN (exB g a b) = 0 := by kernel_rfl
theorem e_check2 : checkN (exC g a b) = 0 := by kernel_rfl
theorem e_good : goodN (exB g a b) 2 = [] := by kernel_rfl
theorem e_needs : needsL (exB g a b) = [2, 4] := by kernel_rfl
theorem e_best : bestA (exB g a b) 0 = .tuple #[.int .i64 1, fv (36, 95), .int .i64 0] := by kernel_rfl
theorem e_spread : fillN 2 (spreadN 0 2 (exB g a b).gs) = [1, 0] := by kernel_rfl
theorem e_sum : sumV (exB g a b) 0 = .tuple #[.int .i64 1300, .int .i64 0] := by kernel_rfl
theorem e_good2 : goodN (exC g a b) 2 = [0, 1] := by kernel_rfl
theorem e_year : yearV (exC g a b) = .tuple #[.int .i64 1, .int .i64 0, .bool true, .int .i64 0] := by kernel_rfl
theorem e_busy : busyV (exB g a b) 0 = .tuple #[.int .i64 0, .int .i64 0] := by kernel_rfl
theorem e_grow : checkN (growsN (exB g a b) 1) = 0 ∧ (growsN (exB g a b) 1).gs.map (·.traffic) = [[(2, 1), (2, 2)], [(3, 1), (2, 1)]] := ⟨by kernel_rfl, by kernel_rfl⟩
end
end Go.Proofs.Tryd
end
