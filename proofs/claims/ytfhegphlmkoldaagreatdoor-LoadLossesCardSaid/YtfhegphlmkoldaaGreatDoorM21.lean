/-
  A part of the proof (C53 C63 C65 C47 C49): lemmas about the program and about the machine that the last text of this claim rests upon; no condition.
-/
import Derived.Test.YtfhegphlmkoldaaGreatDoorCards
import Derived.Test.YtfhegphlmkoldaaGreatDoorTie
import Derived.ProofKit
import Derived.LaidMore
import Derived.OpenShut
import Derived.Stop.Joined
import Derived.Conc.Holds
import Derived.Conc.LeavingOf
import Derived.SevenTiedAt
import Derived.ReadAgain
import Derived.ChangeCalls
import Derived.Test.YtfhegphlmkoldaaGreatDoorM20
import Derived.Test.YtfhegphlmkoldaaGreatDoorM02
import Derived.Test.YtfhegphlmkoldaaGreatDoorM07
import Derived.Test.YtfhegphlmkoldaaGreatDoorM04
import Derived.Test.YtfhegphlmkoldaaGreatDoorM06
import Derived.Test.YtfhegphlmkoldaaGreatDoorM12
import Derived.Test.YtfhegphlmkoldaaGreatDoorM13
set_option linter.unusedSimpArgs false
set_option linter.unusedVariables false
section
namespace Go.Proofs.YtfhegphlmkoldaaGreatDoor
open Go Go.Conc Go.Sim Go.Load Go.RowKit Go.ChangeShapes Go.WideShapes Go.ChangeAt
open Go.Proofs.Tryz
abbrev laidAll : List (String × DataW Unit) := [("baudot/load.checks", Rows.laid_baudot_load_checks), ("baudot/load.nothing", Rows.laid_baudot_load_nothing)]
theorem ownK : ownKnob Tryz.prog.godebug = none := by kernel_rfl
theorem gNothing : Tryz.prog.globalNamed "baudot/load.nothing" = some 0 := by kernel_rfl
theorem gChecks : Tryz.prog.globalNamed "baudot/load.checks" = some 1 := by kernel_rfl
theorem tNothing : (Tryz.prog.globals[0]?).map (·.type) = some 37 := by kernel_rfl
theorem tChecks : (Tryz.prog.globals[1]?).map (·.type) = some 137 := by kernel_rfl
theorem cInt : Tryz.prog.cellsOf 3 = 1 := by kernel_rfl
theorem cFn : Tryz.prog.cellsOf 136 = 1 := by kernel_rfl
theorem cPart : Tryz.prog.cellsOf 37 = 2 := by kernel_rfl
theorem cTab : Tryz.prog.cellsOf 137 = 2 := by kernel_rfl
theorem qbW {P : Program} {w : World} {n : String} {g : Nat} {cs : Array Value} (hg : P.globalNamed n = some g) (h : w.var? P n = some cs) : ∃ e f, w.heap[g]? = some (.cells cs e f) := by
 simp only [World.var?, hg, Option.bind_some] at h
 split at h
 ·rename_i c e f he
  cases h
  exact ⟨_, _, he⟩
 ·cases h
theorem ZV {cs : Array Value} (h : cs.toList.length = 2) : ∃ x y, cs = #[x, y] := by
 obtain ⟨l⟩ := cs
 match l, h with
 | [x, y], _ => exact ⟨x, y, rfl⟩
set_option maxRecDepth 100000 in
theorem of_laid {W : World} (h : laidMetH Tryz.prog laidAll W) : ∃ e0 e1 f0 f1, W.heap[0]? = some (.cells #[.int .i64 0, .int .i64 1] e0 f0) ∧ W.heap[1]? = some (.cells #[fnum, fgrp] e1 f1) := by
 have h1 := h.funcs (List.mem_cons_self ..)
 obtain ⟨g, t, cs, fuel, p, hg, ht, hv, hd⟩ := h1
 obtain rfl := Option.some.inj (gChecks.symm.trans hg)
 obtain rfl := Option.some.inj (tChecks.symm.trans ht)
 have h2 : laidMet Tryz.prog [("baudot/load.nothing", Rows.laid_baudot_load_nothing)] W := by
  have h' : laidMet Tryz.prog (laidAll.filter fun x => x.2.handleName?.isNone) W := h.1
  exact h'
 obtain ⟨ps, ⟨g0, t0, cs0, fl0, p0, q0, hg0, ht0, hv0, hd0, _⟩, _, _⟩ := h2
 obtain rfl := Option.some.inj (gNothing.symm.trans hg0)
 obtain rfl := Option.some.inj (tNothing.symm.trans ht0)
 obtain ⟨e0, f0, hh0⟩ := qbW hg0 hv0
 obtain ⟨e1, f1, hh1⟩ := qbW hg hv
 obtain ⟨xs, m, rfl, hx, hl, hn, hel⟩ := DataW.trod_array Tryz.underlying137 hd
 obtain ⟨ys, m0, rfl, hy, hl0, hn0, hel0⟩ := DataW.trod_struct Tryz.underlying37 hd0
 rw [cTab] at hl
 rw [cPart] at hl0
 obtain ⟨c0, c1, rfl⟩ := ZV hl
 obtain ⟨d0, d1, rfl⟩ := ZV hl0
 have k0 := hel 0 (by decide)
 have k1 := hel 1 (by decide)
 rw [cFn] at k0 k1
 have j0 := hel0 0 _ rfl
 have j1 := hel0 1 _ rfl
 match xs, hn, hx, k0, k1 with
 | [x0, x1], _, hx, k0, k1 =>
 match ys, hn0, hy, j0, j1 with
 | [y0, y1], _, hy, j0, j1 =>
   have hx' : (DataW.agg [.held [40, 98, 97, 117, 100, 111, 116, 47, 108, 111, 97, 100, 46, 98, 111, 111, 107, 41, 46, 110, 117, 109, 98, 101, 114, 115], .held [40, 98, 97, 117, 100, 111, 116, 47, 108, 111, 97, 100, 46, 98, 111, 111, 107, 41, 46, 103, 114, 111, 117, 112, 115]] : DataW (List UInt8)) = .agg [x0.1, x1.1] := congrArg Prod.fst hx
   have hy' : (DataW.agg [.lit (.int .i64 0), .lit (.int .i64 1)] : DataW Unit) = .agg [y0.1, y1.1] := congrArg Prod.fst hy
   simp only [DataW.agg.injEq, List.cons.injEq, and_true] at hx' hy'
   obtain ⟨x0, q0⟩ := x0
   obtain ⟨x1, q1⟩ := x1
   obtain ⟨rfl, rfl⟩ := hx'
   obtain ⟨y0, r0⟩ := y0
   obtain ⟨y1, r1⟩ := y1
   obtain ⟨rfl, rfl⟩ := hy'
   have e0' := func_of_trod (f0 := 128) Tryz.underlying136 (by kernel_rfl) (show DataW.trod (funcToken Tryz.prog) Tryz.prog W 0 (fun _ => true) true m 136 [c0] = _ from k0)
   have e1' := func_of_trod (f0 := 129) Tryz.underlying136 (by kernel_rfl) (show DataW.trod (funcToken Tryz.prog) Tryz.prog W 0 (fun _ => true) true m 136 [c1] = _ from k1)
   subst e0' e1'
   have j0' : DataW.trod _ Tryz.prog W 0 _ _ m0 3 ((#[d0, d1].toList.drop 0).take (Tryz.prog.cellsOf 3)) = some (.lit (.int .i64 0), r0) := j0
   have j1' : DataW.trod _ Tryz.prog W 0 _ _ m0 3 ((#[d0, d1].toList.drop 1).take (Tryz.prog.cellsOf 3)) = some (.lit (.int .i64 1), r1) := j1
   rw [cInt] at j0' j1'
   obtain ⟨n0, a0, b0, _⟩ := DataW.trod_int Tryz.underlying3 j0'
   obtain ⟨n1, a1, b1, _⟩ := DataW.trod_int Tryz.underlying3 j1'
   simp at a0 a1 b0 b1
   obtain ⟨rfl, _⟩ := b0
   obtain ⟨rfl, _⟩ := b1
   subst a0 a1
   exact ⟨e0, e1, f0, f1, hh0, hh1⟩
theorem kept_of {w w' : World} (h1 : w'.os = w.os) (h2 : w'.output = w.output) (h3 : ∀ k, k < w.heap.size → w'.heap[k]? = w.heap[k]?) (may : MemPlace → Prop) : w.keptBut w' may := by
 refine ⟨h1, h2, fun i hi => ?_⟩
 rw [h3 i hi]
 rcases w.heap[i]? with _ | o
 ·rfl
 ·cases o <;> simp
theorem qeH (Lk : Looks) {p : Pinned} {s : OpenSpec} {c : OpenClaim} (al : List (List PathCond)) (kinds : List LaidKind) (tests : Bool) (har : Bool × String) (lk : Bool)
 (hc : c.holds p s) (hal : ∀ D ∈ al, (c.withDomain D).holds p s) (hw : c.wfByText s = true) (hwal : ∀ D ∈ al, (c.withDomain D).wfByText s = true)
 (htie : c.laidByTextAt Lk p kinds tests)
 (hst : c.start = .entering) (hnb : c.noBlocks = false ∧ c.again = false) (hm : p.checked.prog.mainIs = some (har.1, har.2.toList)) (hn : (!har.1 && har.2.isEmpty && !lk) = false)
 (hl : ∀ f fn, p.checked.prog.funcNamed c.func = some f → p.checked.prog.funcs[f]? = some fn → lk = p.checked.prog.looks [] ∧ ∀ (j : Nat) t, fn.params[j]? = some t → p.checked.prog.wantsStandIn t = false)
 (hg : true = c.goesBy p.checked.prog) :
 Claim7.holds p (.plain s) { stood := { row := c, standIns := [], harness := har, looks := lk }, kinds := [], alts := al, goes := true, laidByText := true, laidKinds := kinds, laidTests := tests, laidLooks := Lk } := by
 have h6 : ∀ r : OpenClaim, Claim7.isSixth { stood := { row := r, standIns := [], harness := har, looks := lk }, kinds := [] } = false := fun r => by simpa [Claim7.isSixth] using hn
 refine ⟨Claim7.tied_new_at Lk kinds tests (Claim7.new_of_sixth hc har lk hst hnb hm (h6 c) hl) hw, fun D hD => ?_, htie, (fun h => by cases h), hg⟩
 exact Claim7.tied_new_at Lk kinds tests (Claim7.new_of_sixth (hal D hD) har lk hst hnb hm (h6 _) hl) (hwal D hD)
set_option maxRecDepth 100000 in
theorem door_met (os : Os) (args : Array Value) : laidMetH Tryz.prog laidAll ((World.doorLaid Tryz.prog 19 os).forCall (fun _ _ => 0) ⟨#[], args, []⟩).memory :=
 laidMetH_of_parts3 (fuel := 8) (laidMet_of_run' 8 (by kernel_rfl) (by kernel_rfl)) (by kernel_rfl) (by kernel_rfl)
end Go.Proofs.YtfhegphlmkoldaaGreatDoor
end
section
namespace Go.Proofs.YtfhegphlmkoldaaGreatDoor
open Go Go.Conc Go.Sim Go.Load Go.RowKit Go.ChangeShapes Go.WideShapes Go.ChangeAt
open Go.Proofs.Tryz
set_option maxRecDepth 100000 in
theorem qbj : ∀ t e, t < Tryz.prog.types.size → Tryz.prog.underlying t = some (.slice e) → 0 < Tryz.prog.cellsOf e := slices_full_of Tryz.prog (by kernel_rfl)
set_option maxRecDepth 100000 in
theorem kids_all : Kids Tryz.prog (· < Tryz.prog.types.size) := kids_rows (by kernel_rfl) (by kernel_rfl)
def qbw {H : Type} (enc : TypeId × Value → H) (fn : Func) (W : World) (args : Array Value) (ds : List (DataW H)) : Prop :=
 ∃ p r b0, args.size = fn.params.size ∧ DataW.TrodAll enc Tryz.prog W 0 (fun _ => true) true fn.params.toList args.toList ds p ∧ ∀ (j : Nat) (t : TypeId) v, fn.params[j]? = some t → args[j]? = some v → Value.okWide Tryz.prog W r b0 t v
def qbB (f : FuncId) (W : World) (args : Array Value) : Prop :=
 ∃ X : Nat → Prop, (∀ b, X b → ∃ c e f, W.heap[b]? = some (.cells c e f)) ∧ (∀ (C : FuncId → Prop) (R : Nat → Nat → Prop), (∀ b, X b → R b b) → AR C R args args) ∧
   ∀ w, Globs w → (∀ b o v, X b → W.cell? ⟨b, o, none⟩ = some v → PlainX X v → w.cell? ⟨b, o, none⟩ = some v) → Calls qg f args w fun e w' => e = .returned (.bool true) ∧ Below w.heap.size w w'
set_option maxRecDepth 100000 in
theorem law_at {f : FuncId} {fn : Func} {s : ChangeSpec} (os : Os) (started : os.Started) (H : Type) (enc : TypeId × Value → H) (hfn : Tryz.prog.funcs[f]? = some fn) (hres : fn.resultTypes = #[4]) (hvars : s.vars = [])
 (hspec : ∀ ds : List (DataW H), ds.length = fn.params.size → s.fn H ds = { results := [.lit (.bool true)], args := ds }) (hpar : ∀ t ∈ fn.params.toList, t < Tryz.prog.types.size) (hf : cB f = true) (hne : f ≠ 39)
 (hC : ∀ W args ds, qbw enc fn W args ds → qbB f W args)
 (witness : ∃ (w : World) (tape : Tape) (i : Input), w.os = os ∧ (w.forCall tape i).Shaped Tryz.checked.prog ∧ i.vars = [] ∧ Input.okWide Tryz.checked.prog (w.forCall tape i) .any w.heap.size f i ∧
   ((s.pre enc Tryz.checked.prog fn [] false (w.forCall tape i).memory i.args ∧ laidMetH Tryz.checked.prog laidAll (w.forCall tape i).memory) ∧ sizedMet enc Tryz.checked.prog fn (OpenSpec.ofChange s) false (w.forCall tape i).memory i.args) ∧ ({} : Assume).holds Tryz.checked.prog (lone (Frame.enter Tryz.checked.prog f i.args .normal) [] (w.forCall tape i))) :
 ReturnsInLeavingWide {} Tryz.checked os f .any (fun w args => (s.pre enc Tryz.prog fn [] false w args ∧ laidMetH Tryz.prog laidAll w) ∧ sizedMet enc Tryz.prog fn (OpenSpec.ofChange s) false w args) (s.post enc Tryz.prog fn false true false false) := by
 refine returnsInLeavingWide_of_good ownK started witness ?_
 intro w tape i _ _ _ hok hpre hholds
 obtain ⟨_, _, _, fn', hfn', _, _, _, hsz, hval⟩ := hok
 have e : fn' = fn := Option.some.inj (hfn'.symm.trans hfn)
 subst e
 obtain ⟨⟨⟨ds, gs, before, hw, _⟩, hL⟩, _⟩ := hpre
 have hw' := DataW.Whole.of_heap (w' := w.forCall tape i) (by rfl) hw
 have hL' := of_laid (laidMetH.of_heap (w' := w.forCall tape i) (by rfl) hL)
 have hval' : ∃ b0, ∀ (j : Nat) (t : TypeId) v, fn'.params[j]? = some t → i.args[j]? = some v → Value.okWide Tryz.prog (w.forCall tape i) .any b0 t v := ⟨_, hval⟩
 clear hval hL hw hholds witness
 revert hL' hval' hw'
 generalize w.forCall tape i = W
 intro hw' hL' hval'
 obtain ⟨e0, e1, f0, f1, hn, hc⟩ := hL'
 obtain ⟨b0, hval'⟩ := hval'
 have hwhole := hw'
 rw [hvars] at hw'
 obtain ⟨p, q, hA, hV, hpq, _, _⟩ := hw'
 obtain ⟨hgs, rfl⟩ := trodVars_none hV
 subst hgs
 obtain ⟨X, hX, hargs, hcalls⟩ := hC W i.args ds ⟨p, _, b0, hsz, hA, hval'⟩
 have hng : Tryz.prog.globals.size ≤ W.heap.size := by
  have h1 : Tryz.prog.globals.size = 2 := by kernel_rfl
  have h2 := (Array.getElem?_eq_some_iff.1 hc).1
  have h3 := (Array.getElem?_eq_some_iff.1 hn).1
  omega
 have hlen : ds.length = fn'.params.size := by
  have := (trodAll_length hA).2
  simpa using this
 obtain ⟨N, last, o, w', t', r1, r2, r3, r4⟩ := qcB hf hne hX hargs hng hn hc hcalls
 refine ⟨N, last, o, w', t', r1, r2, r3, r4.mono fun v hp => ChangeSpec.post_blind ?_⟩
 obtain ⟨⟨_, rfl⟩, h1, h2, h3, h4, _⟩ := hp
 refine ⟨ds, [], _, [], p, [], hwhole, ?_, ?_, ?_, kept_of h3 h4 h1 _, fun h => by cases h⟩
 ·rw [List.append_nil, hspec _ hlen, hres]
  exact trodAll_mk1 (shut_bool Tryz.underlying4 _)
 ·rw [List.append_nil, hspec _ hlen]
  exact YE kids_all qbj h1 hpar hA
 ·rw [List.append_nil, hspec _ hlen, hvars]
  rfl
end Go.Proofs.YtfhegphlmkoldaaGreatDoor
end
section
namespace Go.Proofs.YtfhegphlmkoldaaGreatDoor
open Go Go.Conc Go.Sim Go.Load Go.RowKit Go.ChangeShapes Go.WideShapes Go.ChangeAt
open Go.Proofs.Tryz
section
variable {H : Type} {enc : TypeId × Value → H} {W : World} {t : TypeId} {r : Reach} {b0 : Nat} {v : Value} {d : DataW H} {ps : List MemPlace}
set_option maxRecDepth 100000 in
theorem Jz {f0 f1 : Field} (ht : Tryz.prog.underlying t = some (.struct #[f0, f1])) (ce : Tryz.prog.cellsOf t = 2) (o0 : f0.offset = 0) (o1 : f1.offset = 1) (t0 : f0.type = 3) (t1 : f1.type = 3)
 (hv : Value.okWide Tryz.prog W r b0 t v) (h : DataW.Trod enc Tryz.prog W 0 (fun _ => true) true t v d ps) : ∃ x : Int × Int, v = .agg #[.int .i64 x.1, .int .i64 x.2] := by
 obtain ⟨cs, rfl, hcs⟩ := okWide_struct ht hv
 obtain ⟨fuel, h⟩ := h
 obtain ⟨ys, m0, rfl, hy, hl0, hn0, hel0⟩ := DataW.trod_struct ht h
 rw [ce] at hcs
 have e2 : cs.toList.length = 2 := by simpa using hcs
 obtain ⟨c0, c1, rfl⟩ := ZV e2
 have j0 := hel0 0 f0 rfl
 have j1 := hel0 1 f1 rfl
 rw [t0, o0, cInt] at j0
 rw [t1, o1, cInt] at j1
 match ys, hn0, j0, j1 with
 | [y0, y1], _, j0, j1 =>
   obtain ⟨n0, a0, _⟩ := DataW.trod_int Tryz.underlying3 (show DataW.trod enc Tryz.prog W 0 _ _ m0 3 [c0] = some y0 from j0)
   obtain ⟨n1, a1, _⟩ := DataW.trod_int Tryz.underlying3 (show DataW.trod enc Tryz.prog W 0 _ _ m0 3 [c1] = some y1 from j1)
   simp only [List.cons.injEq, and_true] at a0 a1
   exact ⟨(n0, n1), by rw [a0, a1]⟩
end
theorem qeY {C : FuncId → Prop} {R : Nat → Nat → Prop} (a b : Int) : VR C R (.agg #[.int .i64 a, .int .i64 b]) (.agg #[.int .i64 a, .int .i64 b]) :=
 .agg rfl fun i x x' h h' => by
  rw [h] at h'
  cases h'
  have hi := (Array.getElem?_eq_some_iff.1 h).1
  rcases (show i = 0 ∨ i = 1 by simp at hi; omega) with rfl | rfl
  ·cases h; exact .int _ _
  ·cases h; exact .int _ _
end Go.Proofs.YtfhegphlmkoldaaGreatDoor
end
section
namespace Go.Proofs.Tryz
open Go Go.Sim Go.Load Go.RowKit
theorem Xp : qg.funcs[39]? = some YU := by kernel_rfl
theorem qeL : YU.ntmps = 48 := rfl
@[go_sem] theorem src_needsC (args : Array Value) (w : World) : (callFunc 39 args).run qg w = .ok (.enter 39 args) w := qh Xp (by kernel_rfl) (by kernel_rfl) args w
section
variable {w : World} {a b c d e : Value}
theorem yB {S T : TypeId} {fs : Array Field} {fd : Field} {k : Nat} {cs : Array Value} {z : Value} (hu : qg.underlying S = some (.struct fs)) (hf : fs[k]? = some fd) (ht : fd.type = T) (ha : (isAgg T).run qg w = .ok false w) (hz : cs[fd.offset]? = some z) : (Instr.field S (.agg cs) k).run qg w = .ok z w := by
 simp only [Instr.field, Sem.run_bind, run_underlying hu, Result.andThen_ok, hf, asAgg, Sem.run_pure, part, ht, ha, Bool.false_eq_true, if_false, hz]
@[go_sem] theorem fld_bk1 : (Instr.field 45 (.agg #[a, b, c, d, e]) 1).run qg w = .ok c w := yB Zw bk1 (T := 3) (by kernel_rfl) jq (by rw [show (fld 45 1).offset = 2 by kernel_rfl]; rfl)
@[go_sem] theorem fld_bk2 : (Instr.field 45 (.agg #[a, b, c, d, e]) 2).run qg w = .ok d w := yB Zw bk2 (T := 3) (by kernel_rfl) jq (by rw [show (fld 45 2).offset = 3 by kernel_rfl]; rfl)
@[go_sem] theorem fld_bk3 : (Instr.field 45 (.agg #[a, b, c, d, e]) 3).run qg w = .ok e w := yB Zw bk3 (T := 43) (by kernel_rfl) ag_grs (by rw [show (fld 45 3).offset = 4 by kernel_rfl]; rfl)
@[go_sem] theorem fld_bk0 : (Instr.field 45 (.agg #[a, b, c, d, e]) 0).run qg w = .ok (.agg #[a, b]) w := by
  simp only [Instr.field, Sem.run_bind, run_underlying Zw, Result.andThen_ok, bk0, asAgg, Sem.run_pure, part, show (fld 45 0).type = 23 by kernel_rfl, show (fld 45 0).offset = 0 by kernel_rfl, ag_fr, if_true, qcW]
  rfl
@[go_sem] theorem fld_gr0 : (Instr.field 69 (.agg #[a, b, c]) 0).run qg w = .ok a w := yB Xh gr0 (T := 9) (by kernel_rfl) ag_str (by rw [show (fld 69 0).offset = 0 by kernel_rfl]; rfl)
@[go_sem] theorem fld_gr1 : (Instr.field 69 (.agg #[a, b, c]) 1).run qg w = .ok b w := yB Xh gr1 (T := 3) (by kernel_rfl) jq (by rw [show (fld 69 1).offset = 1 by kernel_rfl]; rfl)
@[go_sem] theorem fld_gr2 : (Instr.field 69 (.agg #[a, b, c]) 2).run qg w = .ok c w := yB Xh gr2 (T := 67) (by kernel_rfl) ag_frs (by rw [show (fld 69 2).offset = 2 by kernel_rfl]; rfl)
@[go_sem] theorem fld_fr0 : (Instr.field 23 (.agg #[a, b]) 0).run qg w = .ok a w := yB Xg fr0 (T := 3) (by kernel_rfl) jq (by rw [show (fld 23 0).offset = 0 by kernel_rfl]; rfl)
@[go_sem] theorem fld_fr1 : (Instr.field 23 (.agg #[a, b]) 1).run qg w = .ok b w := yB Xg fr1 (T := 3) (by kernel_rfl) jq (by rw [show (fld 23 1).offset = 1 by kernel_rfl]; rfl)
end
theorem qeE {w : World} {n : Nat} (hn : n ≤ 1000) : (Instr.makeSlice 48 (.int .i64 n) (.int .i64 n)).run qg w = .ok (.slice (some ⟨w.heap.size, 0, none⟩) n n) (w.alloc (.cells (madeCells #[.int .i64 0] n) 3)) := by
 have hi : qg.info? 3 = some ((Tryz.prog.info? 3).getD default) := by rw [yZ]; kernel_rfl
 have hs : ((Tryz.prog.info? 3).getD default).size = 1 := by kernel_rfl
 have hby : ((Tryz.prog.info? 3).getD default).bytes = 8 := by kernel_rfl
 have hz : ((Tryz.prog.info? 3).getD default).zero = some (.int .i64 0) := by kernel_rfl
 generalize (Tryz.prog.info? 3).getD default = inf at hi hs hby hz
 have hr := run_makeSlice (P := qg) w 48 3 inf (.int .i64 0) (by rw [zK]; exact Tryz.underlying48) hi hz .i64 .i64 (n : Int) n (by omega) (by omega) (by rw [hs]; omega) (by rw [hby]; omega) (by omega)
 rw [hs] at hr
 simpa [Value.cells] using hr
def RowI (W : World) (s n : Nat) (L : List Int) (k : Nat) : Prop := ∀ i, i < n → ∃ x, W.cell? ⟨s, i, none⟩ = some (.int .i64 x) ∧ W.frozen? ⟨s, i, none⟩ = false ∧ (i < k → L[i]? = some x)
theorem RowI.keep {W w1 : World} {s n k : Nat} {L : List Int} (h : RowI W s n L k) (hB : Below W.heap.size W w1) : RowI w1 s n L k := fun i hi =>
 let ⟨x, a, b, c⟩ := h i hi
 ⟨x, qb _ hB a, qf _ hB a b, c⟩
theorem RowI.set {W : World} {s n k : Nat} {L : List Int} {y : Int} (h : RowI W s n L k) (hk : k < n) (hy : L[k]? = some y) : RowI (W.setCell ⟨s, k, none⟩ (.int .i64 y)) s n L (k + 1) := fun i hi => by
 obtain ⟨x, a, b, c⟩ := h i hi
 by_cases e : i = k
 ·subst e; exact ⟨y, qV (qy a), by simpa using b, fun _ => hy⟩
 ·exact ⟨x, qc (by simp <;> omega) a, by simpa using b, fun h => c (by omega)⟩
def qcb (B : Bk) : List Int := B.gs.map (Qj B)
set_option maxHeartbeats 4000000 in
set_option maxRecDepth 100000 in
theorem Needs_ok (B : Bk) (w : World) (h : BookAt w B) (hG : Globs w) (hl : 1 ≤ B.gs.length) (ht : ∀ g ∈ B.gs, 1 ≤ g.traffic.length) (hcp : ∀ g ∈ B.gs, g.traffic.length ≤ g.tc) (hz : checkN B = 0) : Calls qg 39 #[bv B] w fun e w' => ∃ v, e = .returned (.tuple #[v, .int .i64 0]) ∧ xq w' v (qcb B) ∧ Below w.heap.size w w' := by
 have hop := fun W (hB : Below w.heap.size w W) => yg B true W (h.keep hB) (hG.keep hB)
 unfold Qi at hop
 simp only [if_pos hz, if_true] at hop
 have hV := za hz
 have hne := fun (W : World) (hB : Below w.heap.size w W) (i : Nat) (g : Grp) (hg : B.gs[i]? = some g) => YR B i g hg W ⟨h.keep hB, hV.num.1⟩ (hV.grp g (List.mem_of_getElem? hg)).traf
 obtain ⟨b, o, hga, hcs⟩ := h.row hl
 have htr := Lib.hid fun g (hg : g ∈ B.gs) => h.traf g hg (ht g hg)
 have hsm := Lib.hid h.small.2
 have hl4 := hV.len4
 have hcap := h.cap
 have HT := Lib.hid ht
 have HCP := Lib.hid hcp
 have HO := Lib.hid hop
 have HN := Lib.hid hne
 obtain ⟨L, hL⟩ : ∃ L, L = qcb B := ⟨_, rfl⟩
 have HL : Hid (L.length = B.gs.length ∧ ∀ (i : Nat) (g : Grp), B.gs[i]? = some g → L[i]? = some (Qj B g)) := Lib.hid ⟨by rw [hL]; simp [qcb], fun i g hg => by rw [hL]; show (B.gs.map (Qj B))[i]? = some (Qj B g); rw [List.getElem?_map, hg]; rfl⟩
 obtain ⟨nN, hnN⟩ : ∃ nN, nN = Qj B := ⟨_, rfl⟩
 rw [← hL]
 simp only [← hnN] at HN HL
 clear hop hne hV hz ht hcp hL hnN h hG
 obtain ⟨lim, gr, hr, gs, ga, gc⟩ := B
 simp only at hga hcs hl4 hl hcap
 subst hga
 simp only [bv] at *
 have HC := Lib.hid hcs
 clear hcs
 obtain ⟨s21, h21⟩ : ∃ s : ByteArray, s = ⟨Array.replicate 21 0⟩ := ⟨_, rfl⟩
 obtain ⟨s101, h101⟩ : ∃ s : ByteArray, s = ⟨Array.replicate 101 0⟩ := ⟨_, rfl⟩
 have z21 : s21.size = 21 := by rw [h21]; rfl
 have z101 : s101.size = 101 := by rw [h101]; rfl
 go_enter Xp, qeL
 simp only [jy, sB2, sB3, sL0, sL1, sL2, sO0, sO1, sO2, sO3, sO4, sO5, sO6, sO7, sO8, sO9, sO11, sO12, op2, JN, zero2, str21, str101, ← h21, ← h101]
 clear h21 h101
 go_wp2
 obtain ⟨W, hW⟩ : ∃ W, w.alloc (Obj.cells #[.int .i64 lim.1, .int .i64 lim.2, .int .i64 gr, .int .i64 hr, .slice (some ⟨b, o, none⟩) gs.length gc] 45) = W := ⟨_, rfl⟩
 have hBW : Below w.heap.size w W := by subst hW; go_grown
 rw [hW]
 clear hW
 go_loopw [7] (fun i wr => W = wr ∧ ∃ k : Nat, i = .int .i64 k ∧ k ≤ gs.length) (fun i _ => gs.length - (intOf i).toNat)
 case atStart => exact ⟨rfl, 0, rfl, by omega⟩
 case round =>
  obtain ⟨hwr, k, rfl, hk⟩ := hrel
  subst hwr
  by_cases hlt : k < gs.length
  ·obtain ⟨g, hg⟩ : ∃ g, gs[k]? = some g := ⟨gs[k], by simp [hlt]⟩
   have hm := List.mem_of_getElem? hg
   obtain ⟨c0, c1, c2⟩ := HC.out k g hg
   replace c0 := qb _ hBW c0
   replace c1 := qb _ hBW c1
   replace c2 := qb _ hBW c2
   obtain ⟨tb, tof, hta, hp⟩ := htr.out g hm
   have ht1 := HT.out g hm
   have htc := HCP.out g hm
   obtain ⟨ht2, hn2⟩ := hsm.out g hm
   have HP := Lib.hid hp
   clear hp
   rw [hta] at c2
   go_wp2
   all_goals try (exfalso; omega)
   go_loopw [28] (fun j wr => W = wr ∧ ∃ m : Nat, j = .int .i64 m ∧ m ≤ g.traffic.length) (fun j _ => g.traffic.length - (intOf j).toNat)
   case atStart => exact ⟨rfl, 0, rfl, by omega⟩
   case round =>
    obtain ⟨hwr, m, rfl, hmle⟩ := hrel
    subst hwr
    by_cases hlt2 : m < g.traffic.length
    ·obtain ⟨x, hx⟩ : ∃ x, g.traffic[m]? = some x := ⟨g.traffic[m], by simp [hlt2]⟩
     obtain ⟨p0, p1⟩ := HP.out m x hx
     replace p0 := qb _ hBW p0
     replace p1 := qb _ hBW p1
     go_wp2
     exact ⟨⟨trivial, m + 1, by simp, by omega⟩, by simp [intOf]; omega⟩
    ·go_wp2
     exact ⟨⟨trivial, k + 1, by simp, by omega⟩, by simp [intOf]; omega⟩
  ·go_wp2_with (go_at_call 59; refine (HO.out _ (by go_grown)).mono ?_; rintro e w1 ⟨rfl, hB1⟩; (first | (replace hB := Below.call (by with_reducible assumption) hB1 (Nat.le_refl _)) | (replace hB := Below.call (by go_grown) hB1 (Nat.le_refl _)) | (have hB := hB1)); (try clear hc hg hz); obtain ⟨hc, hg⟩ := qp hB; have hz := hB.size; clear hB1; (try simp at hz); (try have hlt0 : w.heap.size < w1.heap.size := by omega))
   rw [qeE (by omega)]
   go_wp2
   obtain ⟨X, hX⟩ : ∃ X, w1.alloc (.cells (madeCells #[.int .i64 0] gs.length) 3) = X := ⟨_, rfl⟩
   have hBX : Below w.heap.size w X := by subst hX; go_grown
   have hsX : X.heap.size = w1.heap.size + 1 := by subst hX; simp
   have hRX : RowI X w1.heap.size gs.length L 0 := by
    subst hX
    intro i hi
    have hg0 : (madeCells #[.int .i64 0] gs.length)[i]? = some (.int .i64 0) := by simp [madeCells, hi, Nat.mod_one]
    have hb : (w1.alloc (.cells (madeCells #[.int .i64 0] gs.length) 3)).heap[w1.heap.size]? = some (.cells (madeCells #[.int .i64 0] gs.length) 3) := by show (w1.heap.push _)[w1.heap.size]? = _; simp
    exact ⟨0, by unfold World.cell?; rw [hb]; exact hg0, by unfold World.frozen?; rw [hb]; simp, fun h => absurd h (Nat.not_lt_zero _)⟩
   rw [hX]
   obtain ⟨s, hs⟩ : ∃ s, w1.heap.size = s := ⟨_, rfl⟩
   have hws : w.heap.size ≤ s := by omega
   rw [hs] at hRX ⊢
   have hsX' : s < X.heap.size := by omega
   clear hX hsX
   go_loopw [7] (fun j wr => ∃ m : Nat, j = .int .i64 m ∧ m ≤ gs.length ∧ RowI wr s gs.length L m ∧ Below w.heap.size w wr ∧ s < wr.heap.size) (fun j _ => gs.length - (intOf j).toNat)
   case atStart => exact ⟨0, rfl, by omega, hRX, hBX, hsX'⟩
   case round =>
    obtain ⟨m, rfl, hm, hR, hBr, hsr⟩ := hrel
    by_cases hlt3 : m < gs.length
    ·obtain ⟨g, hg⟩ : ∃ g, gs[m]? = some g := ⟨gs[m], by simp [hlt3]⟩
     have hne := fun W hB => HN.out W hB m g hg
     have hLm := HL.out.2 m g hg
     go_wp2_with (go_at_call 64; refine (hne _ (by go_grown)).mono ?_; rintro e w2 ⟨rfl, hB2⟩; have hR2 := hR.keep hB2; obtain ⟨x2, kx, fx, _⟩ := hR2 m hlt3; have hz2 := hB2.size)
     refine ⟨⟨m + 1, by simp, by omega, hR2.set hlt3 hLm, Below.setCell (Below.call hBr hB2 (Nat.le_refl _)) hws _, by simp; omega⟩, by simp [intOf]; omega⟩
    ·go_wp2
     refine bodyPost_ret (results_tmp2 (show YU.results = #[.tmp 2, .tmp 3] by kernel_rfl) _ _ _) rfl ?_
     obtain rfl : m = gs.length := by omega
     refine ⟨_, rfl, ⟨some ⟨s, 0, none⟩, gs.length, ?_, fun _ => ⟨s, rfl, fun i x hx => ?_⟩⟩, hBr⟩
     ·rw [HL.out.1]; rfl
     ·have hi : i < gs.length := by rw [← HL.out.1]; exact (List.getElem?_eq_some_iff.1 hx).1
      obtain ⟨y, a1, _, a3⟩ := hR i hi
      rw [a3 hi] at hx
      cases hx; exact a1
end Go.Proofs.Tryz
end
section
namespace Go.Proofs.Tryz
open Go Go.Load Go.RowKit
def exC (g a b : Nat) : Bk := { exB g a b with lim := (1, 2) }
theorem e_loss : zS qO (2, 1) 2 = tv (2, 5) 0 := by kernel_rfl
theorem e_lost : zS qK (2, 1) 2 = tv (4, 5) 0 := by kernel_rfl
theorem qdS : zS yf (2, 1) 2 = tv (6, 5) 0 := by kernel_rfl
theorem e_enough : jG (2, 1) (1, 5) = .tuple #[.int .i64 4, .bool true, .int .i64 0] := by kernel_rfl
theorem e_bears : YI 2 1 (1, 5) = tv (1, 1) 0 := by kernel_rfl
theorem e_over : qaP 1 1 (1, 1) = tv (1, 5) 0 := by kernel_rfl
theorem e_fits : fitsV [(2, 3), (4, 4)] 2 = tv (6, 7) 0 := by kernel_rfl
section
variable (g a b : Nat)
theorem XH : checkN (exB g a b) = 0 := by kernel_rfl
theorem e_check2 : checkN (exC g a b) = 0 := by kernel_rfl
theorem e_good : YW (exB g a b) 2 = [] := by kernel_rfl
theorem e_needs : qcb (exB g a b) = [2, 4] := by kernel_rfl
theorem e_best : qaK (exB g a b) 0 = .tuple #[.int .i64 1, fv (36, 95), .int .i64 0] := by kernel_rfl
theorem e_spread : qcG 2 (zw 0 2 (exB g a b).gs) = [1, 0] := by kernel_rfl
theorem e_sum : sumV (exB g a b) 0 = .tuple #[.int .i64 1300, .int .i64 0] := by kernel_rfl
theorem e_good2 : YW (exC g a b) 2 = [0, 1] := by kernel_rfl
theorem e_year : yearV (exC g a b) = .tuple #[.int .i64 1, .int .i64 0, .bool true, .int .i64 0] := by kernel_rfl
theorem e_busy : qaG (exB g a b) 0 = .tuple #[.int .i64 0, .int .i64 0] := by kernel_rfl
theorem e_grow : checkN (qX (exB g a b) 1) = 0 ∧ (qX (exB g a b) 1).gs.map (·.traffic) = [[(2, 1), (2, 2)], [(3, 1), (2, 1)]] := ⟨by kernel_rfl, by kernel_rfl⟩
end
end Go.Proofs.Tryz
end
