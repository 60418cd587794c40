/-
  Lemmas about the program and the machine (Q26 to Q41), upon which the last text of this claim rests; no condition.
-/
import Derived.WalkSpells
import Derived.Test.YtjkenojgabamiaaGreatDoorD07
set_option linter.unusedSimpArgs false
set_option linter.unusedVariables false
namespace Go.Proofs.Tryz
open Go Go.Load Go.LoadR Go.RowKit
def zf (D:DayM) (al:Int):Int:=if checkN D≠0 then checkN D else if al≠0 then al else if (qo D).length=0 then 10 else 0
theorem B6.lt {w:World} {b:Nat} {x0 x1 x2 x3 x4 x5:Value} (h:B6 w b x0 x1 x2 x3 x4 x5):b < w.heap.size:=lt_of_cell h.c0
structure F6 (w:World) (b:Nat):Prop where
 f0:w.frozen? ⟨b,0,none⟩=false
 f1:w.frozen? ⟨b,1,none⟩=false
 f2:w.frozen? ⟨b,2,none⟩=false
 f3:w.frozen? ⟨b,3,none⟩=false
 f4:w.frozen? ⟨b,4,none⟩=false
 f5:w.frozen? ⟨b,5,none⟩=false
theorem F6.keep {w w1:World} {b:Nat} {x0 x1 x2 x3 x4 x5:Value} (h:F6 w b) (h6:B6 w b x0 x1 x2 x3 x4 x5) (hB:Below w.heap.size w w1):F6 w1 b :=
 ⟨qd _ hB h6.c0 h.f0,qd _ hB h6.c1 h.f1,qd _ hB h6.c2 h.f2,qd _ hB h6.c3 h.f3,qd _ hB h6.c4 h.f4,qd _ hB h6.c5 h.f5⟩
theorem B6.mod {S:Nat→Prop} {w w1:World} {b:Nat} {x0 x1 x2 x3 x4 x5:Value} (h:B6 w b x0 x1 x2 x3 x4 x5) (hm:Mod S w w1) (hb:¬ S b):B6 w1 b x0 x1 x2 x3 x4 x5 :=
 ⟨hm.cell h.c0 hb,hm.cell h.c1 hb,hm.cell h.c2 hb,hm.cell h.c3 hb,hm.cell h.c4 hb,hm.cell h.c5 hb⟩
theorem F6.mod {S:Nat→Prop} {w w1:World} {b:Nat} {x0 x1 x2 x3 x4 x5:Value} (h:F6 w b) (h6:B6 w b x0 x1 x2 x3 x4 x5) (hm:Mod S w w1) (hb:¬ S b):F6 w1 b :=
 ⟨(hm.frozen h6.c0 hb).trans h.f0,(hm.frozen h6.c1 hb).trans h.f1,(hm.frozen h6.c2 hb).trans h.f2,(hm.frozen h6.c3 hb).trans h.f3,(hm.frozen h6.c4 hb).trans h.f4,(hm.frozen h6.c5 hb).trans h.f5⟩
theorem Jz (w:World) (x0 x1 x2 x3 x4:Value) (t t':TypeId):B6 ((w.alloc (Obj.cells #[x0,x1,x2,x3,x4] t)).alloc (Obj.cells #[.slice none 0 0,.slice none 0 0,.slice none 0 0,.slice none 0 0,.slice none 0 0,.map none] t')) (w.heap.size+1) (.slice none 0 0) (.slice none 0 0) (.slice none 0 0) (.slice none 0 0) (.slice none 0 0) (.map none) ∧
 F6 ((w.alloc (Obj.cells #[x0,x1,x2,x3,x4] t)).alloc (Obj.cells #[.slice none 0 0,.slice none 0 0,.slice none 0 0,.slice none 0 0,.slice none 0 0,.map none] t')) (w.heap.size+1) ∧
 Below w.heap.size w ((w.alloc (Obj.cells #[x0,x1,x2,x3,x4] t)).alloc (Obj.cells #[.slice none 0 0,.slice none 0 0,.slice none 0 0,.slice none 0 0,.slice none 0 0,.map none] t')) ∧
 ((w.alloc (Obj.cells #[x0,x1,x2,x3,x4] t)).alloc (Obj.cells #[.slice none 0 0,.slice none 0 0,.slice none 0 0,.slice none 0 0,.slice none 0 0,.map none] t')).heap.size=w.heap.size+2 :=
 ⟨⟨by go_cell,by go_cell,by go_cell,by go_cell,by go_cell,by go_cell⟩,⟨by go_cell,by go_cell,by go_cell,by go_cell,by go_cell,by go_cell⟩,by go_grown,by simp⟩
set_option maxHeartbeats 4000000 in
set_option maxRecDepth 100000 in
theorem qcG (D:DayM) (w:World) (h:DayAt w D) (hs:DaySm D) (hG:Globs w) (hz:checkN D≠0) (fv:Value) :
 Calls qj 33 #[dv D,fv] w fun e w'=>e=.returned (.tuple #[dz,.slice none 0 0,.int .i64 (checkN D)])∧Below w.heap.size w w':=by
 have hop:=fun W (hB:Below w.heap.size w W)=>Xz D W (h.keep hB) hs (hG.keep hB) hz
 generalize checkN D=r at *
 unfold dv dz at *
 clear h hG hs
 have hb:(r != 0)=true:=by simp [hz]
 clear hz
 generalize Value.slice D.ta D.ts.length D.tc=x0 at *
 generalize Value.slice D.ga D.gs.length D.gc=x1 at *
 generalize Value.slice D.oa D.os.length D.oc=x2 at *
 generalize Value.slice D.ha D.hs.length D.hc=x3 at *
 generalize Value.slice D.ca D.cs.length D.cc=x4 at *
 have h2:=Jz w x0 x1 x2 x3 x4 28 74
 obtain ⟨W,hW⟩:∃W,(w.alloc (Obj.cells #[x0,x1,x2,x3,x4] 28)).alloc (Obj.cells #[.slice none 0 0,.slice none 0 0,.slice none 0 0,.slice none 0 0,.slice none 0 0,.map none] 74)=W:=⟨_,rfl⟩
 have k0:W.cell? ⟨w.heap.size,0,none⟩=some x0:=by subst hW;go_cell
 have k1:W.cell? ⟨w.heap.size,1,none⟩=some x1:=by subst hW;go_cell
 have k2:W.cell? ⟨w.heap.size,2,none⟩=some x2:=by subst hW;go_cell
 have k3:W.cell? ⟨w.heap.size,3,none⟩=some x3:=by subst hW;go_cell
 have k4:W.cell? ⟨w.heap.size,4,none⟩=some x4:=by subst hW;go_cell
 rw [hW] at h2
 obtain ⟨h6,hf6,hBW,hsW⟩:=h2
 have hopW:=hop W hBW
 have HX:=Lib.hid (And.intro h6 (And.intro hf6 hBW))
 clear h6 hf6 hBW hop
 go_enter (sf 33 f33),ntmps33
 go_upto_region 1 with fail
 try rw [hW]
 clear hW
 go_upto_region 3 with (go_at_call 66;(with_reducible refine hopW.mono ?_);rintro e w1 ⟨rfl,hB1⟩;obtain ⟨z0,z1,z2,z3,z4,z5⟩:=HX.out.1.keep hB1;obtain ⟨f0,f1,f2,f3,f4,f5⟩:=HX.out.2.1.keep HX.out.1 hB1;have hs1:=hB1.size;have hzz:w.heap.size+1 < w1.heap.size:=(by omega))
 have hB3:Below W.heap.size W (w1.alloc (Obj.cells #[.slice none 0 0,.slice none 0 0,.slice none 0 0,.slice none 0 0,.slice none 0 0,.map none] 74)):=by go_grown
 obtain ⟨V,hV⟩:∃V,w1.alloc (Obj.cells #[.slice none 0 0,.slice none 0 0,.slice none 0 0,.slice none 0 0,.slice none 0 0,.map none] 74)=V:=⟨_,rfl⟩
 rw [hV] at hB3 ⊢
 clear hV z0 z1 z2 z3 z4 z5 f0 f1 f2 f3 f4 f5 k0 k1 k2 k3 k4 hB1 hopW
 obtain ⟨z0,z1,z2,z3,z4,z5⟩:=HX.out.1.keep hB3
 obtain ⟨f0,f1,f2,f3,f4,f5⟩:=HX.out.2.1.keep HX.out.1 hB3
 go_wp2
 refine ZB results33 QB jD rfl rfl rfl (u0:=.slice none 0 0) (u1:=.slice none 0 0) (u2:=.slice none 0 0) (u3:=.slice none 0 0) (u4:=.slice none 0 0) (u5:=.map none) z0 z1 z2 z3 z4 z5 ⟨rfl,?_⟩
 exact LoadR.Below.set6 (Below.call (B:=w.heap.size) HX.out.2.2 hB3 (by omega)) (by simp)
theorem Mod.put {S:Nat→Prop} {w w1:World} (h:Mod S w w1) (p:Addr) (v:Value) (hp:S p.block):Mod S w (w1.setCell p v):=h.trans (Mod.grown (yJ w1 p v) (fun b e=>(Option.some.inj e)▸hp))
theorem qbl {w:World} {b:Nat} {v0 v1 v2 v3 v4 v5:Value}:Mod (fun k=>k=b) w (LoadR.set6 w b v0 v1 v2 v3 v4 v5) :=
 by unfold LoadR.set6;exact ((((((Mod.refl (fun k=>k=b) w).put ⟨b,0,none⟩ _ rfl).put ⟨b,1,none⟩ _ rfl).put ⟨b,2,none⟩ _ rfl).put ⟨b,3,none⟩ _ rfl).put ⟨b,4,none⟩ _ rfl).put ⟨b,5,none⟩ _ rfl
def AskP (D:DayM) (al:Int) (w:World) (e:Ending) (w':World):Prop :=
 (zf D al≠0∧e=.returned (.tuple #[dz,.slice none 0 0,.int .i64 (zf D al)])∧Below w.heap.size w w') ∨
 (zf D al=0∧∃M a c,e=.returned (.tuple #[dm D (some M),.slice a (qo D).length c,.int .i64 0])∧0 < (qo D).length∧(qo D).length≤c∧qh w' 4 QK a (qo D)∧(∀p,a=some p→w.heap.size≤p.block)∧St D M (fun _=>False) w w')
set_option maxHeartbeats 4000000 in
set_option maxRecDepth 100000 in
theorem asked_go (D:DayM) (w:World) (h:DayAt w D) (hs:DaySm D) (hG:Globs w) (hz:checkN D=0) (fid:FuncId) (bound:Array Value) (hf:∀(args:Array Value) (w:World),(callFunc fid args).run qj w=.ok (.enter fid args) w) (al:Int)
 (hcall:∀M W,w.heap.size≤M→Below w.heap.size w W→Calls qj fid (#[dm D (some M)] ++ bound) W fun e w'=>e=.returned (.int .i64 al)∧Below W.heap.size W w') :
 Calls qj 33 #[dv D,.func (.func fid) #[] bound] w (AskP D al w):=by
 have hop:=fun W (hB:Below w.heap.size w W)=>XA D W (h.keep hB) hs (hG.keep hB) hz
 have HD:=Lib.hid (And.intro h (And.intro hs hz))
 have hhi:=fun M (A:Nat→Prop) W hS hA=>Yc D M A w W hS hA hz
 have HCL:=Lib.hid hcall
 have HHI:=Lib.hid hhi
 clear h hG hs hz hcall hhi
 have hdv:dv D=.agg #[.slice D.ta D.ts.length D.tc,.slice D.ga D.gs.length D.gc,.slice D.oa D.os.length D.oc,.slice D.ha D.hs.length D.hc,.slice D.ca D.cs.length D.cc]:=rfl
 have hdm:∀M,dm D M=.agg #[.slice D.ta D.ts.length D.tc,.slice D.ga D.gs.length D.gc,.slice D.oa D.os.length D.oc,.slice D.ha D.hs.length D.hc,.slice D.ca D.cs.length D.cc,.map M]:=fun _=>rfl
 have HDM:=Lib.hid hdm
 rw [hdv] at hop ⊢
 clear hdv
 simp only [hdm] at hop
 clear hdm
 have h2:=Jz w (.slice D.ta D.ts.length D.tc) (.slice D.ga D.gs.length D.gc) (.slice D.oa D.os.length D.oc) (.slice D.ha D.hs.length D.hc) (.slice D.ca D.cs.length D.cc) 28 74
 obtain ⟨W,hW⟩:∃W,(w.alloc (Obj.cells #[.slice D.ta D.ts.length D.tc,.slice D.ga D.gs.length D.gc,.slice D.oa D.os.length D.oc,.slice D.ha D.hs.length D.hc,.slice D.ca D.cs.length D.cc] 28)).alloc (Obj.cells #[.slice none 0 0,.slice none 0 0,.slice none 0 0,.slice none 0 0,.slice none 0 0,.map none] 74)=W:=⟨_,rfl⟩
 have k0:W.cell? ⟨w.heap.size,0,none⟩=some (.slice D.ta D.ts.length D.tc):=by subst hW;go_cell
 have k1:W.cell? ⟨w.heap.size,1,none⟩=some (.slice D.ga D.gs.length D.gc):=by subst hW;go_cell
 have k2:W.cell? ⟨w.heap.size,2,none⟩=some (.slice D.oa D.os.length D.oc):=by subst hW;go_cell
 have k3:W.cell? ⟨w.heap.size,3,none⟩=some (.slice D.ha D.hs.length D.hc):=by subst hW;go_cell
 have k4:W.cell? ⟨w.heap.size,4,none⟩=some (.slice D.ca D.cs.length D.cc):=by subst hW;go_cell
 rw [hW] at h2
 obtain ⟨h6,hf6,hBW,hsW⟩:=h2
 have hopW:=hop W hBW
 have HX:=Lib.hid (And.intro h6 (And.intro hf6 hBW))
 clear h6 hf6 hBW hop
 go_enter (sf 33 f33),ntmps33
 go_upto_region 1 with fail
 try rw [hW]
 clear hW
 go_upto_region 4 with (go_at_call 66;(with_reducible refine hopW.mono ?_);rintro e w1 ⟨M,rfl,hM,hG1,hB1⟩;have hs1:=hB1.size;have hzz:w.heap.size+1 < w1.heap.size:=(by omega))
 have hg1:=hG1.lt
 have hB3:Below W.heap.size W (w1.alloc (Obj.cells #[.slice D.ta D.ts.length D.tc,.slice D.ga D.gs.length D.gc,.slice D.oa D.os.length D.oc,.slice D.ha D.hs.length D.hc,.slice D.ca D.cs.length D.cc,.map (some M)] 74)):=by go_grown
 have h7:B6 (w1.alloc (Obj.cells #[.slice D.ta D.ts.length D.tc,.slice D.ga D.gs.length D.gc,.slice D.oa D.os.length D.oc,.slice D.ha D.hs.length D.hc,.slice D.ca D.cs.length D.cc,.map (some M)] 74)) w1.heap.size (.slice D.ta D.ts.length D.tc) (.slice D.ga D.gs.length D.gc) (.slice D.oa D.os.length D.oc) (.slice D.ha D.hs.length D.hc) (.slice D.ca D.cs.length D.cc) (.map (some M)):=B6.new _ _ _ _ _ _ _ _
 have hG2:=hG1.keep ((Below.refl _ w1).alloc (Nat.le_refl _) (Obj.cells #[.slice D.ta D.ts.length D.tc,.slice D.ga D.gs.length D.gc,.slice D.oa D.os.length D.oc,.slice D.ha D.hs.length D.hc,.slice D.ca D.cs.length D.cc,.map (some M)] 74))
 obtain ⟨T,hT⟩:∃T,w1.heap.size=T:=⟨_,rfl⟩
 rw [hT] at h7 hg1 hs1 hzz ⊢
 obtain ⟨V,hV⟩:∃V,w1.alloc (Obj.cells #[.slice D.ta D.ts.length D.tc,.slice D.ga D.gs.length D.gc,.slice D.oa D.os.length D.oc,.slice D.ha D.hs.length D.hc,.slice D.ca D.cs.length D.cc,.map (some M)] 74)=V:=⟨_,rfl⟩
 rw [hV] at hB3 h7 hG2 ⊢
 clear hV hB1 hG1 hopW k0 k1 k2 k3 k4
 have hTV:=h7.lt
 have hBwV:=Below.call (B:=w.heap.size) HX.out.2.2 hB3 (by omega)
 have hcl:=HCL.out M V (by omega) hBwV
 rw [HDM.out] at hcl
 have H7:=Lib.hid (And.intro h7 (And.intro hG2 (And.intro hB3 hBwV)))
 obtain ⟨args,hargs⟩:∃args,(#[.agg #[.slice D.ta D.ts.length D.tc,.slice D.ga D.gs.length D.gc,.slice D.oa D.os.length D.oc,.slice D.ha D.hs.length D.hc,.slice D.ca D.cs.length D.cc,.map (some M)]] ++ bound)=args:=⟨_,rfl⟩
 rw [hargs] at hcl
 obtain ⟨t0,t1,t2,t3,t4,t5⟩:=h7
 clear hG2 hB3 hBwV
 go_upto_region 5 with ((first | (rw [hargs]) | skip);(with_reducible refine hcl.mono ?_);rintro e w2 ⟨rfl,hB2⟩)
 have hB23:=Below.call H7.out.2.2.1 hB2 (by omega)
 have hBw2:=Below.call H7.out.2.2.2 hB2 (by omega)
 have hs2:=hB2.size
 clear t0 t1 t2 t3 t4 t5 hcl hargs
 obtain ⟨z0,z1,z2,z3,z4,z5⟩:=HX.out.1.keep hB23
 obtain ⟨f0,f1,f2,f3,f4,f5⟩:=HX.out.2.1.keep HX.out.1 hB23
 by_cases hal:al=0
 ·subst hal
  obtain ⟨t0,t1,t2,t3,t4,t5⟩:=H7.out.1.keep hB2
  have hst:St D M (fun b=>b=w.heap.size+1) w w2:=⟨hBw2,by omega,HD.out.1,HD.out.2.1,zF D HD.out.2.2,⟨fun _=>none,H7.out.2.1.keep hB2,fun s v hv=>by cases hv⟩⟩
  have hh:=HHI.out M _ w2 hst (fun b hb=>by omega)
  rw [HDM.out] at hh
  have HST:=Lib.hid hst
  have HB:=Lib.hid (And.intro hB23 (And.intro hBw2 hB2))
  clear hst hB23 hBw2 hB2
  go_upto_region 8 with (go_at_call 67;(with_reducible refine hh.mono ?_);rintro e w3 ⟨a,c,rfl,hlc,hrow,hfr,hst3,hg3⟩)
  have hmM:Mod (fun b=>b=M) w2 w3:=Mod.grown hg3 (fun b e=>(Option.some.inj e).symm)
  have h63:=(HX.out.1.keep HB.out.1).mod hmM (show ¬ w.heap.size+1=M by omega)
  have hf3:=(HX.out.2.1.keep HX.out.1 HB.out.1).mod (HX.out.1.keep HB.out.1) hmM (show ¬ w.heap.size+1=M by omega)
  have h73:=(H7.out.1.keep HB.out.2.2).mod hmM (show ¬ T=M by omega)
  have HR:=Lib.hid (And.intro hlc (And.intro hrow (And.intro hst3 hfr)))
  clear hmM hlc hrow hfr hst3 hg3 z0 z1 z2 z3 z4 z5 f0 f1 f2 f3 f4 f5 t0 t1 t2 t3 t4 t5 hh
  have H63:=Lib.hid h63
  obtain ⟨z0,z1,z2,z3,z4,z5⟩:=h63
  obtain ⟨f0,f1,f2,f3,f4,f5⟩:=hf3
  obtain ⟨t0,t1,t2,t3,t4,t5⟩:=h73
  by_cases hN:(qo D).length=0
  ·have HN:=Lib.hid hN
   rw [hN]
   clear hN
   go_wp2
   refine ZB results33 QB jD rfl rfl rfl (u0:=.slice none 0 0) (u1:=.slice none 0 0) (u2:=.slice none 0 0) (u3:=.slice none 0 0) (u4:=.slice none 0 0) (u5:=.map none) z0 z1 z2 z3 z4 z5 (.inl ⟨?_,?_,?_⟩)
   ·unfold zf;rw [if_neg (by simpa using HD.out.2.2),if_neg (by simp),if_pos HN.out];decide
   ·unfold zf;rw [if_neg (by simpa using HD.out.2.2),if_neg (by simp),if_pos HN.out];rfl
   ·exact LoadR.Below.set6 HR.out.2.2.1.bel (by omega)
  ·have hb:(((qo D).length:Int) == 0)=false:=by rw [beq_eq_false_iff_ne];omega
   have HN:=Lib.hid hN
   clear hN
   go_wp2
   refine ZB results33 QB jD rfl rfl rfl (u0:=.slice none 0 0) (u1:=.slice none 0 0) (u2:=.slice none 0 0) (u3:=.slice none 0 0) (u4:=.slice none 0 0) (u5:=.map none) z0 z1 z2 z3 z4 z5 (.inr ⟨?_,M,a,c,rfl,by have:=HN.out;omega,HR.out.1,?_,fun p e=>by have:=HR.out.2.2.2 p e;omega,?_⟩)
   ·unfold zf;rw [if_neg (by simpa using HD.out.2.2),if_neg (by simp),if_neg HN.out]
   ·intro hl
    obtain ⟨b,o,e,hq⟩:=HR.out.2.1 hl
    have hfr:=HR.out.2.2.2 _ e
    exact ⟨b,o,e,fun i x hx j v hv=>qbl.cell (hq i x hx j v hv) (by simp only at hfr ⊢;omega)⟩
   ·exact HR.out.2.2.1.mod qbl (fun b hb=>⟨hb,by omega,by omega⟩) (fun b hb=>hb.elim)
 ·have hb:(al != 0)=true:=by simpa using hal
  go_wp2
  refine ZB results33 QB jD rfl rfl rfl (u0:=.slice none 0 0) (u1:=.slice none 0 0) (u2:=.slice none 0 0) (u3:=.slice none 0 0) (u4:=.slice none 0 0) (u5:=.map none) z0 z1 z2 z3 z4 z5 (.inl ⟨?_,?_,?_⟩)
  ·unfold zf;rw [if_neg (by simpa using HD.out.2.2),if_pos hal];exact hal
  ·unfold zf;rw [if_neg (by simpa using HD.out.2.2),if_pos hal];rfl
  ·exact LoadR.Below.set6 hBw2 (by omega)
end Go.Proofs.Tryz
namespace Go.Proofs.Tryz
open Go Go.Load Go.RowKit
abbrev RGL (L:List (Addr×Value)) (D:DayM) (M:Nat) (A:Nat→Prop) (w0 W X:World):Prop:=CL L X (St D M A w0 X∧W.grownBy X (some M))
section
variable {L:List (Addr×Value)} {D:DayM} {M:Nat} {A:Nat→Prop} {w0 W X Y:World}
theorem RGL.st (h:RGL L D M A w0 W X):St D M A w0 X:=(CL.out h).1
theorem RGL.gr (h:RGL L D M A w0 W X):W.grownBy X (some M):=(CL.out h).2
theorem RGL.call (h:RGL L D M A w0 W X) (hB:Below X.heap.size X Y):RGL L D M A w0 W Y:=CL.imp (fun _ _ h=>qb _ hB h) (fun h=>⟨h.1.keep hB,ql h.2 (qi hB)⟩) h
theorem RGL.play (h:RGL L D M A w0 W X) (hst:St D M A w0 Y) (hg:X.grownBy Y (some M)):RGL L D M A w0 W Y:=CL.imp (fun _ _ h2=>(RGL.st h).cell hg h2) (fun h=>⟨hst,ql h.2 hg⟩) h
theorem RGL.drew (h:RGL L D M A w0 W X):RGL L D M A w0 W X.drew:=RGL.call h (Below.refl _ X).drew
end
abbrev RG7 (D:DayM) (M:Nat) (A:Nat→Prop) (w0 W:World) (a0 a1 a2 a3 a4 a5 a6:Addr) (v0 v1 v2 v3 v4 v5 v6:Value) (X:World):Prop:=RGL [(a0,v0),(a1,v1),(a2,v2),(a3,v3),(a4,v4),(a5,v5),(a6,v6)] D M A w0 W X
abbrev RG10 (D:DayM) (M:Nat) (A:Nat→Prop) (w0 W:World) (a0 a1 a2 a3 a4 a5 a6 a7 a8 a9:Addr) (v0 v1 v2 v3 v4 v5 v6 v7 v8 v9:Value) (X:World):Prop:=RGL [(a0,v0),(a1,v1),(a2,v2),(a3,v3),(a4,v4),(a5,v5),(a6,v6),(a7,v7),(a8,v8),(a9,v9)] D M A w0 W X
abbrev RG11 (D:DayM) (M:Nat) (A:Nat→Prop) (w0 W:World) (a0 a1 a2 a3 a4 a5 a6 a7 a8 a9 a10:Addr) (v0 v1 v2 v3 v4 v5 v6 v7 v8 v9 v10:Value) (X:World):Prop:=RGL [(a0,v0),(a1,v1),(a2,v2),(a3,v3),(a4,v4),(a5,v5),(a6,v6),(a7,v7),(a8,v8),(a9,v9),(a10,v10)] D M A w0 W X
abbrev RG16 (D:DayM) (M:Nat) (A:Nat→Prop) (w0 W:World) (a0 a1 a2 a3 a4 a5 a6 a7 a8 a9 a10 a11 a12 a13 a14 a15:Addr) (v0 v1 v2 v3 v4 v5 v6 v7 v8 v9 v10 v11 v12 v13 v14 v15:Value) (X:World):Prop:=RGL [(a0,v0),(a1,v1),(a2,v2),(a3,v3),(a4,v4),(a5,v5),(a6,v6),(a7,v7),(a8,v8),(a9,v9),(a10,v10),(a11,v11),(a12,v12),(a13,v13),(a14,v14),(a15,v15)] D M A w0 W X
end Go.Proofs.Tryz
namespace Go.Proofs.Tryz
open Go Go.Load Go.LoadR Go.RowKit
set_option maxHeartbeats 1000000 in
set_option maxRecDepth 100000 in
theorem qdo (D:DayM) (m:Option Nat) (cb:Nat) (call:Int) (w:World) (hc:w.cell? ⟨cb,0,none⟩=some (.int .i64 call)) (hl:D.cs.length≤20) :
 Calls qj 34 #[dm D m,pt cb] w fun e w'=>e=.returned (.int .i64 (qU call D.cs.length))∧Below w.heap.size w w':=by
 have hix:=fun W=>Qk call D.cs.length W (by omega) (by omega)
 unfold dm
 generalize Value.slice D.ta D.ts.length D.tc=x0 at *
 generalize Value.slice D.ga D.gs.length D.gc=x1 at *
 generalize Value.slice D.oa D.os.length D.oc=x2 at *
 generalize Value.slice D.ha D.hs.length D.hc=x3 at *
 have hb:=lt_of_cell hc
 simp only at hb
 go_enter (sf 34 f34),ntmps34
 go_wp2_with (go_at_call 35;(with_reducible refine (hix _).mono ?_);rintro e w1 ⟨rfl,rfl⟩)
 go_ret
 exact ⟨rfl,by go_grown⟩
set_option maxHeartbeats 2000000 in
set_option maxRecDepth 100000 in
theorem qdp (D:DayM) (M:Nat) (A:Nat→Prop) (w0 w:World) (h:St D M A w0 w) (hA:∀b,A b→b < w.heap.size) (db cb:Nat) (hd:B6 w db (.slice D.ta D.ts.length D.tc) (.slice D.ga D.gs.length D.gc) (.slice D.oa D.os.length D.oc) (.slice D.ha D.hs.length D.hc) (.slice D.ca D.cs.length D.cc) (.map (some M)))
 (k:Nat) (hc:w.cell? ⟨cb,0,none⟩=some (.int .i64 k)) (hk:k < D.cs.length) (p:PastM) (hp:p.ok) :
 Calls qj 37 #[pvP p,pt db,pt cb] w fun e w'=>e=.returned (.int .i64 ((qG D (setOf p)).getD k 0))∧St D M A w0 w'∧w.grownBy w' (some M):=by
 have hpl:=fun W (hS:St D M A w0 W) (hg:w.grownBy W (some M))=>jY hS (setOf p) (by simp [setOf]) hp (by simp [setOf]) (fun b hb=>Nat.lt_of_lt_of_le (hA b hb) hg.size)
 have hlen:(qG D (setOf p)).length=D.cs.length:=qX _ _
 have hcl:=h.sm.cs.1
 have has:=fun W=>zG p W
 obtain ⟨x,hx⟩:∃x,(qG D (setOf p))[k]? = some x:=⟨(qG D (setOf p))[k]'(by omega),by simp⟩
 rw [List.getD_eq_getElem?_getD,hx]
 simp only [Option.getD_some]
 have hml:=h.kn.lt
 generalize qG D (setOf p)=R at *
 generalize setOf p=s at *
 obtain ⟨sv,hsv⟩:∃sv,qL s=sv:=⟨_,rfl⟩
 rw [hsv] at has
 simp only [hsv] at hpl
 have HP:=Lib.hid hpl
 have HAS:=Lib.hid has
 have HST:=Lib.hid h
 have HX:=Lib.hid hx
 clear hpl has h hx hA hp
 unfold dm at HP
 unfold pvP at HAS ⊢
 obtain ⟨pa,pb,pc,pd⟩:=p
 simp only at *
 generalize Value.slice D.ta D.ts.length D.tc=x0 at *
 generalize Value.slice D.ga D.gs.length D.gc=x1 at *
 generalize Value.slice D.oa D.os.length D.oc=x2 at *
 generalize Value.slice D.ha D.hs.length D.hc=x3 at *
 generalize Value.slice D.ca D.cs.length D.cc=x4 at *
 obtain ⟨d0,d1,d2,d3,d4,d5⟩:=hd
 have hdl:=lt_of_cell d0
 have hcl2:=lt_of_cell hc
 simp only at hdl hcl2
 have hk0:(0:Int)≤(k:Int):=Int.natCast_nonneg k
 have hk1:(k:Int) < (D.cs.length:Int):=by omega
 go_enter (sf 37 f37),ntmps37
 go_upto_region 1 with fail
 obtain ⟨W,hW⟩:∃W,w.alloc (Obj.cells #[.int .i64 pa,.int .i64 pb,.int .i64 pc,.int .i64 pd] 82)=W:=⟨_,rfl⟩
 have hBW:Below w.heap.size w W:=by subst hW;go_grown
 have hS:RG11 D M A w0 W ⟨db,0,none⟩ ⟨db,1,none⟩ ⟨db,2,none⟩ ⟨db,3,none⟩ ⟨db,4,none⟩ ⟨db,5,none⟩ ⟨w.heap.size,0,none⟩ ⟨w.heap.size,1,none⟩ ⟨w.heap.size,2,none⟩ ⟨w.heap.size,3,none⟩ ⟨cb,0,none⟩ x0 x1 x2 x3 x4 (.map (some M)) (.int .i64 pa) (.int .i64 pb) (.int .i64 pc) (.int .i64 pd) (.int .i64 k) W:=by
  subst hW
  exact ⟨by go_cell,by go_cell,by go_cell,by go_cell,by go_cell,by go_cell,by go_cell,by go_cell,by go_cell,by go_cell,by go_cell,HST.out.keep hBW,qi (Below.refl _ _)⟩
 rw [hW]
 clear hW
 refine wp_region_held_drew (S:=(RG11 D M A w0 W ⟨db,0,none⟩ ⟨db,1,none⟩ ⟨db,2,none⟩ ⟨db,3,none⟩ ⟨db,4,none⟩ ⟨db,5,none⟩ ⟨w.heap.size,0,none⟩ ⟨w.heap.size,1,none⟩ ⟨w.heap.size,2,none⟩ ⟨w.heap.size,3,none⟩ ⟨cb,0,none⟩ x0 x1 x2 x3 x4 (.map (some M)) (.int .i64 pa) (.int .i64 pb) (.int .i64 pc) (.int .i64 pd) (.int .i64 k))) (by kernel_rfl) (by exact RGL.drew hS) (fun hHeld=>?_)
 (refine tk 0 ?_;try simp only [zs,Act.put])
 (refine tk 1 ?_;try simp only [zs,Act.put])
 (refine tk 4 ?_;try simp only [zs,Act.put])
 refine wpAnyH_ready (rs:=[2]) (by kernel_rfl) (by simp) ?_;refine AllReadyH.cons rfl (fun K hK=>?_) AllReadyH.nil;go_simp;go_wp2_with (go_at_call 39;(with_reducible refine (HAS.out _).mono ?_);rintro e w1 ⟨rfl,hB1⟩);refine hK.out _ _ (by exact RGL.call hHeld hB1) (fun hHeldN=>?_);clear hK K hHeld;have hHeld:=hHeldN;clear hHeldN;try simp only [zs,Act.put]
 refine wpAnyH_ready (rs:=[3]) (by kernel_rfl) (by simp) ?_;refine AllReadyH.cons rfl (fun K hK=>?_) AllReadyH.nil;go_simp;go_wp2_with (go_at_call 38;(with_reducible refine (HP.out _ (RGL.st hHeld) (ql (qi hBW) (RGL.gr hHeld))).mono ?_);rintro e w2 ⟨a,c,rfl,hlc,hrow,hst1,hg1⟩);refine hK.out _ _ (by exact RGL.play hHeld hst1 hg1) (fun hHeldN=>?_);clear hK K hHeld;have hHeld:=hHeldN;clear hHeldN;try simp only [zs,Act.put]
 obtain ⟨b,o,rfl,hP⟩:=hrow (by omega)
 have c9:=hP k x HX.out 0 _ rfl
 simp only [Nat.mul_one,Nat.add_zero] at c9
 have hkc:(k:Int)≤(c:Int):=by omega
 clear hP
 (refine tk 5 ?_;try simp only [zs,Act.put])
 (refine wpAnyH_ready (rs:=[6]) (by kernel_rfl) (by simp) ?_;refine AllReadyH.cons rfl (fun K hK=>?_) AllReadyH.nil;go_simp;refine hK.out _ _ (by exact hHeld) (fun hHeldN=>?_);clear hK K hHeld;have hHeld:=hHeldN;clear hHeldN;try simp only [zs,Act.put])
 (refine tk 7 ?_;try simp only [zs,Act.put])
 refine wpAnyH_done (by kernel_rfl) ?_ _;try simp only [zs,Act.put]
 have hgf:=RGL.gr (by with_reducible assumption)
 have hsf:=RGL.st (by with_reducible assumption)
 go_wp2
 go_ret
 exact ⟨rfl,hsf,ql (qi hBW) hgf⟩
theorem AskP.bad {D:DayM} {al:Int} {w w':World} {e:Ending} (h:AskP D al w e w') (ha:zf D al≠0):e=.returned (.tuple #[dz,.slice none 0 0,.int .i64 (zf D al)])∧Below w.heap.size w w':=by
 rcases h with h | h
 ·exact h.2
 ·exact absurd h.1 ha
theorem AskP.ok {D:DayM} {al:Int} {w w':World} {e:Ending} (h:AskP D al w e w') (ha:zf D al=0):∃M a c,e=.returned (.tuple #[dm D (some M),.slice a (qo D).length c,.int .i64 0])∧0 < (qo D).length∧(qo D).length≤c∧qh w' 4 QK a (qo D)∧(∀p,a=some p→w.heap.size≤p.block)∧St D M (fun _=>False) w w':=by
 rcases h with h | h
 ·exact absurd ha h.1
 ·exact h.2
theorem yf {D:DayM} {al:Int} (h:zf D al=0):checkN D=0∧al=0:=by
 unfold zf at h
 by_cases h1:checkN D=0
 ·rw [if_neg (by simpa using h1)] at h
  by_cases h2:al=0
  ·exact ⟨h1,h2⟩
  ·rw [if_pos h2] at h;exact absurd h h2
 ·rw [if_pos h1] at h;exact absurd h h1
theorem QQ {n many:Int} (h:qU n many=0):0≤n∧n < many:=by
 unfold qU at h
 cases hb:btw n 0 (many - 1) with
 | true=>have:=zM.1 hb;omega
 | false=>rw [hb] at h;simp at h
theorem yG (D:DayM) (w:World) (h:DayAt w D) (hs:DaySm D) (hG:Globs w) (fid:FuncId) (bound:Array Value) (hf:∀(args:Array Value) (w:World),(callFunc fid args).run qj w=.ok (.enter fid args) w) (al:Int)
 (hcall:∀M W,w.heap.size≤M→Below w.heap.size w W→Calls qj fid (#[dm D (some M)] ++ bound) W fun e w'=>e=.returned (.int .i64 al)∧Below W.heap.size W w') :
 Calls qj 33 #[dv D,.func (.func fid) #[] bound] w (AskP D al w):=by
 by_cases hz:checkN D=0
 ·exact asked_go D w h hs hG hz fid bound hf al hcall
 ·refine (qcG D w h hs hG hz _).mono ?_
  rintro e w' ⟨rfl,hB⟩
  have e:zf D al=checkN D:=by unfold zf;rw [if_pos hz]
  exact .inl ⟨by rw [e];exact hz,by rw [e],hB⟩
def Ya (D:DayM) (k:Nat):List Int:=zm ((qo D).map fun p=>(qG D (setOf p)).getD k 0)
def GoesP (D:DayM) (call:Int) (w:World) (e:Ending) (w':World):Prop :=
 Below w.heap.size w w'∧((zf D (qU call D.cs.length)≠0∧e=.returned (.tuple #[.slice none 0 0,.int .i64 (zf D (qU call D.cs.length))])) ∨
 (zf D (qU call D.cs.length)=0∧∃a c,e=.returned (.tuple #[.slice a (Ya D call.toNat).length c,.int .i64 0])∧(Ya D call.toNat).length≤c∧qh w' 1 encI a (Ya D call.toNat)))
theorem jA {D:DayM} (hz:checkN D=0):∀p∈qo D,p.ok:=by
 have hg:=QP D hz
 have h4:=(zF D hz).gs
 have key:∀(gs:List GrpM) (i:Nat) (p:PastM),i+gs.length≤4→p.ok→(∀g∈gs,0≤g.lo∧g.hi≤6)→∀q∈za gs i p,q.ok:=by
  intro gs
  induction gs with
  | nil=>intro i p _ hp _ q hq;simp [za] at hq;subst hq;exact hp
  | cons g gs ih =>
    intro i p hi hp hgs q hq
    unfold za at hq
    obtain ⟨n,hn,hq⟩:=List.mem_flatMap.1 hq
    unfold QF at hn
    obtain ⟨k,hk,rfl⟩:=List.mem_map.1 hn
    have hk:=List.mem_range.1 hk
    have h1:=hgs g (List.mem_cons_self)
    simp only [List.length_cons] at hi
    exact ih (i+1) _ (by omega) (PastM.ok_set hp (by omega) (by omega)) (fun g' hg'=>hgs g' (List.mem_cons_of_mem _ hg')) q hq
 intro p hp
 have hp:=(List.mem_filter.1 hp).1
 refine key D.gs 0 ⟨0,0,0,0⟩ (by omega) ?_ (fun g hm=>⟨(hg g hm).1,(hg g hm).2.2.1⟩) p hp
 intro g
 match g with
 | 0=>exact ⟨Int.le_refl _,(by decide:(0:Int)≤100)⟩
 | 1=>exact ⟨Int.le_refl _,(by decide:(0:Int)≤100)⟩
 | 2=>exact ⟨Int.le_refl _,(by decide:(0:Int)≤100)⟩
 | n+3=>exact ⟨Int.le_refl _,(by decide:(0:Int)≤100)⟩
set_option maxHeartbeats 4000000 in
set_option maxRecDepth 100000 in
theorem qaV (D:DayM) (w:World) (h:DayAt w D) (hs:DaySm D) (hG:Globs w) (call:Int):Calls qj 9 #[dv D,.int .i64 call] w (GoesP D call w):=by
 have hcl:=hs.cs.1
 obtain ⟨W,hW⟩:∃W,(w.alloc (Obj.cells #[.slice D.ta D.ts.length D.tc,.slice D.ga D.gs.length D.gc,.slice D.oa D.os.length D.oc,.slice D.ha D.hs.length D.hc,.slice D.ca D.cs.length D.cc] 28)).alloc (Obj.cells #[.int .i64 call] 3)=W:=⟨_,rfl⟩
 have hBW:Below w.heap.size w W:=by subst hW;go_grown
 have hsW:W.heap.size=w.heap.size+2:=by subst hW;simp
 have k0:W.cell? ⟨w.heap.size,0,none⟩=some (.slice D.ta D.ts.length D.tc):=by subst hW;go_cell
 have k1:W.cell? ⟨w.heap.size,1,none⟩=some (.slice D.ga D.gs.length D.gc):=by subst hW;go_cell
 have k2:W.cell? ⟨w.heap.size,2,none⟩=some (.slice D.oa D.os.length D.oc):=by subst hW;go_cell
 have k3:W.cell? ⟨w.heap.size,3,none⟩=some (.slice D.ha D.hs.length D.hc):=by subst hW;go_cell
 have k4:W.cell? ⟨w.heap.size,4,none⟩=some (.slice D.ca D.cs.length D.cc):=by subst hW;go_cell
 have kc:W.cell? ⟨w.heap.size+1,0,none⟩=some (.int .i64 call):=by subst hW;go_cell
 have hask:=yG D W (h.keep hBW) hs (hG.keep hBW) 34 #[pt (w.heap.size+1)] (cE 34 (by decide +kernel)) (qU call D.cs.length) (fun M V hM hB=>qdo D (some M) (w.heap.size+1) call V (qb _ hB kc) hcl)
 obtain ⟨al,hal⟩:∃al,qU call D.cs.length=al:=⟨_,rfl⟩
 unfold GoesP
 rw [hal] at hask ⊢
 have hdv:dv D=.agg #[.slice D.ta D.ts.length D.tc,.slice D.ga D.gs.length D.gc,.slice D.oa D.os.length D.oc,.slice D.ha D.hs.length D.hc,.slice D.ca D.cs.length D.cc]:=rfl
 rw [hdv] at hask ⊢
 have HD:=Lib.hid (And.intro h (And.intro hs hal))
 clear h hs hG hdv hal
 by_cases ha:zf D al=0
 ·have hz:=yf ha
  have hix:=QQ (HD.out.2.2.trans hz.2)
  have hok:=hask.mono (fun e w' h=>h.ok ha)
  have HA:=Lib.hid ha
  have HZ:=Lib.hid hz.1
  clear hask ha hz
  go_enter (sf 9 f9),ntmps9
  go_upto_region 1 with fail
  try rw [hW]
  clear hW
  unfold dm at hok
  go_upto_region 4 with (go_at_call 33;(with_reducible refine hok.mono ?_);rintro e w1 ⟨M,a,c,rfl,hpos,hlc,hrow,hfr,hst⟩;have hs1:=hst.bel.size)
  obtain ⟨k,rfl⟩:=Int.eq_ofNat_of_zero_le hix.1
  have hBV:=(Below.refl w1.heap.size w1).alloc (Nat.le_refl _) (Obj.cells #[.slice D.ta D.ts.length D.tc,.slice D.ga D.gs.length D.gc,.slice D.oa D.os.length D.oc,.slice D.ha D.hs.length D.hc,.slice D.ca D.cs.length D.cc,.map (some M)] 74)
  have h7:=B6.new w1 (.slice D.ta D.ts.length D.tc) (.slice D.ga D.gs.length D.gc) (.slice D.oa D.os.length D.oc) (.slice D.ha D.hs.length D.hc) (.slice D.ca D.cs.length D.cc) (.map (some M)) 74
  have hML:=hst.kn.lt
  obtain ⟨T,hT⟩:∃T,w1.heap.size=T:=⟨_,rfl⟩
  obtain ⟨V,hV⟩:∃V,w1.alloc (Obj.cells #[.slice D.ta D.ts.length D.tc,.slice D.ga D.gs.length D.gc,.slice D.oa D.os.length D.oc,.slice D.ha D.hs.length D.hc,.slice D.ca D.cs.length D.cc,.map (some M)] 74)=V:=⟨_,rfl⟩
  rw [hV] at h7 hBV ⊢
  have hsV:=hst.keep hBV
  have hrV:=hrow.keep hBV
  have kcV:=qb _ hsV.bel kc
  rw [hT] at h7 hML ⊢
  have hga:=QO D M (fun _=>False) W V hsV (fun b hb=>hb.elim) 37 #[pt T,pt (w.heap.size+1)] (cE 37 (by decide +kernel)) (fun p=>(qG D (setOf p)).getD k 0) (qo D) a c hpos (by have:=qN HZ.out;omega) hlc hrV (fun x hx A V2 hS hA hg=>qdp D M A W V2 hS hA T (w.heap.size+1) (h7.mod (Mod.grown hg (fun b e=>(Option.some.inj e).symm)) (show ¬ T=M by omega)) k (hsV.cell hg kcV) (by omega) x (jA HZ.out x hx))
  have HF:=Lib.hid (And.intro hBW hsV)
  clear h7 hBV hV hrow hrV kcV hst hok hfr k0 k1 k2 k3 k4 kc
  go_wp2_with (go_at_call 36;(with_reducible refine hga.mono ?_);rintro e w2 ⟨a2,c2,rfl,hl2,hr2,hf2,hst2,hg2⟩)
  go_ret2
  exact ⟨Below.call HF.out.1 hst2.bel (by omega),.inr ⟨HA.out,a2,c2,rfl,hl2,hr2⟩⟩
 ·have hbad:=hask.mono (fun e w' h=>h.bad ha)
  have hb:(zf D al != 0)=true:=by simpa using ha
  unfold dz at hbad
  have HA:=Lib.hid ha
  clear hask ha
  generalize zf D al=r at *
  go_enter (sf 9 f9),ntmps9
  go_upto_region 1 with fail
  try rw [hW]
  clear hW
  go_wp2_with (go_at_call 33;(with_reducible refine hbad.mono ?_);rintro e w1 ⟨rfl,hB1⟩;have hs1:=hB1.size)
  go_ret2
  exact ⟨Below.call hBW (by go_grown) (by omega),.inl ⟨HA.out,rfl⟩⟩
set_option maxHeartbeats 2000000 in
set_option maxRecDepth 100000 in
theorem qdP (D:DayM) (M:Nat) (A:Nat→Prop) (w0 w:World) (h:St D M A w0 w) (hA:∀b,A b→b < w.heap.size) (db:Nat) (hd:B6 w db (.slice D.ta D.ts.length D.tc) (.slice D.ga D.gs.length D.gc) (.slice D.oa D.os.length D.oc) (.slice D.ha D.hs.length D.hc) (.slice D.ca D.cs.length D.cc) (.map (some M))) (p:PastM) (hp:p.ok) :
 Calls qj 56 #[pvP p,pt db] w fun e w'=>e=.returned (.int .i64 (QT D (setOf p)))∧St D M A w0 w'∧w.grownBy w' (some M):=by
 have hpl:=fun W (hS:St D M A w0 W) (hg:w.grownBy W (some M))=>Xr D M A w0 W hS (setOf p) (by simp [setOf]) hp (by simp [setOf]) (fun b hb=>Nat.lt_of_lt_of_le (hA b hb) hg.size)
 have has:=fun W=>zG p W
 have hml:=h.kn.lt
 generalize QT D (setOf p)=R at *
 generalize setOf p=s at *
 obtain ⟨sv,hsv⟩:∃sv,qL s=sv:=⟨_,rfl⟩
 rw [hsv] at has
 simp only [hsv] at hpl
 have HP:=Lib.hid hpl
 have HAS:=Lib.hid has
 have HST:=Lib.hid h
 clear hpl has h hA hp
 unfold dm at HP
 unfold pvP at HAS ⊢
 obtain ⟨pa,pb,pc,pd⟩:=p
 simp only at *
 generalize Value.slice D.ta D.ts.length D.tc=x0 at *
 generalize Value.slice D.ga D.gs.length D.gc=x1 at *
 generalize Value.slice D.oa D.os.length D.oc=x2 at *
 generalize Value.slice D.ha D.hs.length D.hc=x3 at *
 generalize Value.slice D.ca D.cs.length D.cc=x4 at *
 obtain ⟨d0,d1,d2,d3,d4,d5⟩:=hd
 have hdl:=lt_of_cell d0
 simp only at hdl
 go_enter (sf 56 f56),ntmps56
 go_upto_region 1 with fail
 obtain ⟨W,hW⟩:∃W,w.alloc (Obj.cells #[.int .i64 pa,.int .i64 pb,.int .i64 pc,.int .i64 pd] 82)=W:=⟨_,rfl⟩
 have hBW:Below w.heap.size w W:=by subst hW;go_grown
 have hS:RG10 D M A w0 W ⟨db,0,none⟩ ⟨db,1,none⟩ ⟨db,2,none⟩ ⟨db,3,none⟩ ⟨db,4,none⟩ ⟨db,5,none⟩ ⟨w.heap.size,0,none⟩ ⟨w.heap.size,1,none⟩ ⟨w.heap.size,2,none⟩ ⟨w.heap.size,3,none⟩ x0 x1 x2 x3 x4 (.map (some M)) (.int .i64 pa) (.int .i64 pb) (.int .i64 pc) (.int .i64 pd) W:=by
  subst hW
  exact ⟨by go_cell,by go_cell,by go_cell,by go_cell,by go_cell,by go_cell,by go_cell,by go_cell,by go_cell,by go_cell,HST.out.keep hBW,qi (Below.refl _ _)⟩
 rw [hW]
 clear hW
 refine wp_region_held_drew (S:=(RG10 D M A w0 W ⟨db,0,none⟩ ⟨db,1,none⟩ ⟨db,2,none⟩ ⟨db,3,none⟩ ⟨db,4,none⟩ ⟨db,5,none⟩ ⟨w.heap.size,0,none⟩ ⟨w.heap.size,1,none⟩ ⟨w.heap.size,2,none⟩ ⟨w.heap.size,3,none⟩ x0 x1 x2 x3 x4 (.map (some M)) (.int .i64 pa) (.int .i64 pb) (.int .i64 pc) (.int .i64 pd))) (by kernel_rfl) (by exact RGL.drew hS) (fun hHeld=>?_)
 (refine tk 0 ?_;try simp only [zs,Act.put])
 (refine tk 1 ?_;try simp only [zs,Act.put])
 refine wpAnyH_ready (rs:=[2]) (by kernel_rfl) (by simp) ?_;refine AllReadyH.cons rfl (fun K hK=>?_) AllReadyH.nil;go_simp;go_wp2_with (go_at_call 39;(with_reducible refine (HAS.out _).mono ?_);rintro e w1 ⟨rfl,hB1⟩);refine hK.out _ _ (by exact RGL.call hHeld hB1) (fun hHeldN=>?_);clear hK K hHeld;have hHeld:=hHeldN;clear hHeldN;try simp only [zs,Act.put]
 refine wpAnyH_ready (rs:=[3]) (by kernel_rfl) (by simp) ?_;refine AllReadyH.cons rfl (fun K hK=>?_) AllReadyH.nil;go_simp;go_wp2_with (go_at_call 57;(with_reducible refine (HP.out _ (RGL.st hHeld) (ql (qi hBW) (RGL.gr hHeld))).mono ?_);rintro e w2 ⟨rfl,hst1,hg1⟩);refine hK.out _ _ (by exact RGL.play hHeld hst1 hg1) (fun hHeldN=>?_);clear hK K hHeld;have hHeld:=hHeldN;clear hHeldN;try simp only [zs,Act.put]
 (refine tk 4 ?_;try simp only [zs,Act.put])
 refine wpAnyH_done (by kernel_rfl) ?_ _;try simp only [zs,Act.put]
 have hgf:=RGL.gr hHeld
 have hsf:=RGL.st hHeld
 go_wp2
 go_ret
 exact ⟨rfl,hsf,ql (qi hBW) hgf⟩
abbrev Yg (D:DayM):List Int:=zm ((qo D).map fun p=>QT D (setOf p))
def bandV (l:List Int):Value:=.agg #[.int .i64 (l.getD 0 0),.int .i64 (l.getD (l.length - 1) 0)]
def qcB (al:Int) (l:List Int) (w:World) (e:Ending) (w':World):Prop :=
 Below w.heap.size w w'∧((al≠0∧e=.returned (.tuple #[.agg #[.int .i64 0,.int .i64 0],.int .i64 al]))∨(al=0∧e=.returned (.tuple #[bandV l,.int .i64 0])))
theorem jT {l:List Int} (h:0 < l.length):0 < (zm l).length:=by
 unfold zm Lib.compact Lib.compactUpTo
 rw [List.length_map]
 have hm:(l.mergeSort fun x y=>decide (x≤y)).length=l.length:=List.length_mergeSort _
 have e:0∈(List.range (l.mergeSort fun x y=>decide (x≤y)).length).filter (Lib.keeps (l.mergeSort fun x y=>decide (x≤y)).toArray):=by
  rw [List.mem_filter]
  exact ⟨List.mem_range.2 (by omega),Lib.keeps_lt_one _ 0 (by omega)⟩
 exact List.length_pos_of_mem e
theorem QN (l:List Int):(zm l).length≤l.length:=by
 unfold zm
 exact Nat.le_trans (ZQ _) (by rw [List.length_mergeSort];exact Nat.le_refl _)
set_option maxHeartbeats 4000000 in
set_option maxRecDepth 100000 in
theorem Xt (D:DayM) (w:World) (h:DayAt w D) (hs:DaySm D) (hG:Globs w):Calls qj 16 #[dv D] w (qcB (zf D 0) (Yg D) w):=by
 obtain ⟨W,hW⟩:∃W,(w.alloc (Obj.cells #[.slice D.ta D.ts.length D.tc,.slice D.ga D.gs.length D.gc,.slice D.oa D.os.length D.oc,.slice D.ha D.hs.length D.hc,.slice D.ca D.cs.length D.cc] 28)).alloc (Obj.cells #[.int .i64 0,.int .i64 0] 40)=W:=⟨_,rfl⟩
 have hBW:Below w.heap.size w W:=by subst hW;go_grown
 have hsW:W.heap.size=w.heap.size+2:=by subst hW;simp
 have k0:W.cell? ⟨w.heap.size,0,none⟩=some (.slice D.ta D.ts.length D.tc):=by subst hW;go_cell
 have k1:W.cell? ⟨w.heap.size,1,none⟩=some (.slice D.ga D.gs.length D.gc):=by subst hW;go_cell
 have k2:W.cell? ⟨w.heap.size,2,none⟩=some (.slice D.oa D.os.length D.oc):=by subst hW;go_cell
 have k3:W.cell? ⟨w.heap.size,3,none⟩=some (.slice D.ha D.hs.length D.hc):=by subst hW;go_cell
 have k4:W.cell? ⟨w.heap.size,4,none⟩=some (.slice D.ca D.cs.length D.cc):=by subst hW;go_cell
 have b0:W.cell? ⟨w.heap.size+1,0,none⟩=some (.int .i64 0):=by subst hW;go_cell
 have b1:W.cell? ⟨w.heap.size+1,1,none⟩=some (.int .i64 0):=by subst hW;go_cell
 have g0:W.frozen? ⟨w.heap.size+1,0,none⟩=false:=by subst hW;go_cell
 have g1:W.frozen? ⟨w.heap.size+1,1,none⟩=false:=by subst hW;go_cell
 have hask:=yG D W (h.keep hBW) hs (hG.keep hBW) 55 #[] (cE 55 (by decide +kernel)) 0 (fun M V hM hB=>by unfold dm;exact yF _ _ _ _ _ _ V)
 have hdv:dv D=.agg #[.slice D.ta D.ts.length D.tc,.slice D.ga D.gs.length D.gc,.slice D.oa D.os.length D.oc,.slice D.ha D.hs.length D.hc,.slice D.ca D.cs.length D.cc]:=rfl
 rw [hdv] at hask ⊢
 have HD:=Lib.hid (And.intro h hs)
 unfold qcB
 clear h hs hG hdv
 by_cases ha:zf D 0=0
 ·have hz:=yf ha
  have hok:=hask.mono (fun e w' h=>h.ok ha)
  have HA:=Lib.hid ha
  have HZ:=Lib.hid hz.1
  clear hask ha hz
  go_enter (sf 16 f16),ntmps16
  go_upto_region 1 with fail
  try rw [hW]
  clear hW
  unfold dm at hok
  go_upto_region 4 with (go_at_call 33;(with_reducible refine hok.mono ?_);rintro e w1 ⟨M,a,c,rfl,hpos,hlc,hrow,hfr,hst⟩;have hs1:=hst.bel.size)
  have hBV:=(Below.refl w1.heap.size w1).alloc (Nat.le_refl _) (Obj.cells #[.slice D.ta D.ts.length D.tc,.slice D.ga D.gs.length D.gc,.slice D.oa D.os.length D.oc,.slice D.ha D.hs.length D.hc,.slice D.ca D.cs.length D.cc,.map (some M)] 74)
  have h7:=B6.new w1 (.slice D.ta D.ts.length D.tc) (.slice D.ga D.gs.length D.gc) (.slice D.oa D.os.length D.oc) (.slice D.ha D.hs.length D.hc) (.slice D.ca D.cs.length D.cc) (.map (some M)) 74
  have hML:=hst.kn.lt
  obtain ⟨T,hT⟩:∃T,w1.heap.size=T:=⟨_,rfl⟩
  obtain ⟨V,hV⟩:∃V,w1.alloc (Obj.cells #[.slice D.ta D.ts.length D.tc,.slice D.ga D.gs.length D.gc,.slice D.oa D.os.length D.oc,.slice D.ha D.hs.length D.hc,.slice D.ca D.cs.length D.cc,.map (some M)] 74)=V:=⟨_,rfl⟩
  rw [hV] at h7 hBV ⊢
  have hsV:=hst.keep hBV
  have hrV:=hrow.keep hBV
  rw [hT] at h7 hML ⊢
  have hga:=QO D M (fun _=>False) W V hsV (fun b hb=>hb.elim) 56 #[pt T] (cE 56 (by decide +kernel)) (fun p=>QT D (setOf p)) (qo D) a c hpos (by have:=qN HZ.out;omega) hlc hrV (fun x hx A V2 hS hA hg=>qdP D M A W V2 hS hA T (h7.mod (Mod.grown hg (fun b e=>(Option.some.inj e).symm)) (show ¬ T=M by omega)) x (jA HZ.out x hx))
  have hll:1≤(Yg D).length∧(Yg D).length≤1000:=⟨jT (by rw [List.length_map];exact hpos),by have:=qN HZ.out;have h9:=QN ((qo D).map fun p=>QT D (setOf p));rw [List.length_map] at h9;exact Nat.le_trans h9 (by omega)⟩
  have HF:=Lib.hid (And.intro hBW hsV)
  clear h7 hBV hV hrow hrV hst hok hfr k0 k1 k2 k3 k4
  go_wp2_with (first | (go_at_call 36;(with_reducible refine hga.mono ?_);rintro e w2 ⟨a2,c2,rfl,hl2,hr2,hf2,hst2,hg2⟩) | (go_at_call 48;(with_reducible refine (YK (Yg D) a2 c2 hll.1 hl2 hll.2 _ hr2).mono ?_);rintro e w3 ⟨rfl,hB3⟩;have hB4:=Below.call hst2.bel hB3 (by have:=hst2.bel.size;omega);have c0:=qb _ hB4 b0;have c1:=qb _ hB4 b1;have f0:=qd _ hB4 b0 g0;have f1:=qd _ hB4 b1 g1))
  refine LoadR.ret_ct2 results16 ji xE rfl rfl c0 c1 ⟨?_,.inr ⟨HA.out,rfl⟩⟩
  exact LoadR.Below.set2 (Below.call HF.out.1 hB4 (by omega)) (by omega)
 ·have hbad:=hask.mono (fun e w' h=>h.bad ha)
  have hb:(zf D 0 != 0)=true:=by simpa using ha
  unfold dz at hbad
  have HA:=Lib.hid ha
  clear hask ha
  generalize zf D 0=r at *
  go_enter (sf 16 f16),ntmps16
  go_upto_region 1 with fail
  try rw [hW]
  clear hW
  go_upto_region 3 with (go_at_call 33;(with_reducible refine hbad.mono ?_);rintro e w1 ⟨rfl,hB1⟩;have hs1:=hB1.size)
  have hBV:=bcl hB1 ((Below.refl w1.heap.size w1).alloc (Nat.le_refl _) (Obj.cells #[.slice none 0 0,.slice none 0 0,.slice none 0 0,.slice none 0 0,.slice none 0 0,.map none] 74))
  obtain ⟨V,hV⟩:∃V,w1.alloc (Obj.cells #[.slice none 0 0,.slice none 0 0,.slice none 0 0,.slice none 0 0,.slice none 0 0,.map none] 74)=V:=⟨_,rfl⟩
  rw [hV] at hBV ⊢
  clear hV hB1
  have c0:=qb _ hBV b0
  have c1:=qb _ hBV b1
  have f0:=qd _ hBV b0 g0
  have f1:=qd _ hBV b1 g1
  go_wp2
  refine LoadR.ret_ct2 results16 ji xE rfl rfl c0 c1 ⟨?_,.inl ⟨HA.out,rfl⟩⟩
  exact LoadR.Below.set2 (Below.call hBW hBV (by omega)) (by omega)
end Go.Proofs.Tryz
namespace Go.Proofs.Tryz
open Go Go.Load Go.LoadR Go.RowKit Go.Maps
def zN {α:Type} (B:Nat) (w:World) (k:Nat) (enc:α→List Value) (a:Option Addr) (l:List α):Prop :=
 (∀p,a=some p→B≤p.block)∧(1≤l.length→∃g,a=some ⟨g,0,none⟩∧∀(i:Nat) (x:α),l[i]? = some x→∀(j:Nat) (v:Value),(enc x)[j]? = some v→w.cell? ⟨g,i * k+j,none⟩=some v∧w.frozen? ⟨g,i * k+j,none⟩=false)
theorem zN.rows {α:Type} {B:Nat} {w:World} {k:Nat} {enc:α→List Value} {a:Option Addr} {l:List α} (h:zN B w k enc a l):qh w k enc a l:=fun hl=>by
 obtain ⟨g,e,h⟩:=h.2 hl
 exact ⟨g,0,e,fun i x hx j v hv=>by rw [Nat.zero_add];exact (h i x hx j v hv).1⟩
theorem zN.keep {α:Type} {B:Nat} {w w1:World} {k:Nat} {enc:α→List Value} {a:Option Addr} {l:List α} (h:zN B w k enc a l) (hB:Below w.heap.size w w1):zN B w1 k enc a l :=
 ⟨h.1,fun hl=>by
   obtain ⟨g,e,h⟩:=h.2 hl
   exact ⟨g,e,fun i x hx j v hv=>⟨qb _ hB (h i x hx j v hv).1,qd _ hB (h i x hx j v hv).1 (h i x hx j v hv).2⟩⟩⟩
theorem zN.mod {α:Type} {S:Nat→Prop} {B:Nat} {w w1:World} {k:Nat} {enc:α→List Value} {a:Option Addr} {l:List α} (h:zN B w k enc a l) (hm:Mod S w w1) (hS:∀p,a=some p→¬ S p.block):zN B w1 k enc a l :=
 ⟨h.1,fun hl=>by
   obtain ⟨g,e,h⟩:=h.2 hl
   have hn:=hS _ e
   exact ⟨g,e,fun i x hx j v hv=>⟨hm.cell (h i x hx j v hv).1 hn,(hm.frozen (h i x hx j v hv).1 hn).trans (h i x hx j v hv).2⟩⟩⟩
theorem zN.from {α:Type} {B B':Nat} {w:World} {k:Nat} {enc:α→List Value} {a:Option Addr} {l:List α} (h:zN B w k enc a l) (hB:B'≤B):zN B' w k enc a l:=⟨fun p e=>Nat.le_trans hB (h.1 p e),h.2⟩
theorem yh {α:Type} {k:Nat} {enc:α→List Value} (he:∀x,(enc x).length=k):∀l:List α,(l.flatMap enc).length=l.length * k
 | []=>by simp
 | x :: l=>by rw [List.flatMap_cons,List.length_append,he,yh he l,List.length_cons,Nat.add_mul];omega
theorem flat_get {α:Type} {k:Nat} {enc:α→List Value} (he:∀x,(enc x).length=k):∀(l:List α) (i j:Nat) (x:α) (v:Value),l[i]? = some x→(enc x)[j]? = some v→(l.flatMap enc)[i * k+j]? = some v
 | [],i,j,x,v,h,_=>by simp at h
 | y :: l,0,j,x,v,h,hv=>by
   obtain rfl:y=x:=by simpa using h
   have hj:=(List.getElem?_eq_some_iff.1 hv).1
   rw [List.flatMap_cons,List.getElem?_append_left (by omega),Nat.zero_mul,Nat.zero_add]
   exact hv
 | y :: l,i+1,j,x,v,h,hv=>by
   rw [List.flatMap_cons,List.getElem?_append_right (by rw [he,Nat.add_mul];omega)]
   have e:(i+1) * k+j - (enc y).length=i * k+j:=by rw [he,Nat.add_mul];omega
   rw [e]
   exact flat_get he l i j x v (by simpa using h) hv
theorem xJ {α:Type} {k:Nat} {enc:α→List Value} (he:∀x,(enc x).length=k) (hk:0 < k) {W:World} {ad:Addr} {l:List α} (h:qh W k enc (some ad) l):∀j u,(l.flatMap enc)[j]? = some u→W.cell? (ad.add j)=some u:=fun j u hu=>by
 have hj:j < l.length * k:=by have:=(List.getElem?_eq_some_iff.1 hu).1;rwa [yh he] at this
 have hl:1≤l.length:=by
  cases l with
  | nil=>simp at hj
  | cons x l=>simp
 obtain ⟨b,o,e,hc⟩:=h hl
 cases e
 have hd:j / k < l.length:=Nat.div_lt_of_lt_mul (by rw [Nat.mul_comm];exact hj)
 obtain ⟨x,hx⟩:∃x,l[j / k]? = some x:=⟨l[j / k],by simp⟩
 have hm:j % k < (enc x).length:=by rw [he];exact Nat.mod_lt _ hk
 obtain ⟨v,hv⟩:∃v,(enc x)[j % k]? = some v:=⟨(enc x)[j % k],by simp⟩
 have hg:=flat_get he l (j / k) (j % k) x v hx hv
 have ej:j / k * k+j % k=j:=by rw [Nat.mul_comm];exact Nat.div_add_mod j k
 rw [ej,hu] at hg
 cases hg
 have hcc:=hc (j / k) x hx (j % k) u hv
 have ha:(⟨b,o,none⟩:Addr).add j=⟨b,o+j,none⟩:=by unfold Addr.add;split <;> simp_all
 rw [ha]
 rw [show o+j / k * k+j % k=o+j by omega] at hcc
 exact hcc
theorem qW {α:Type} {W:World} {base e n k:Nat} {v:Value} {enc:α→List Value} {l:List α} (he:∀x,(enc x).length=k) (h:W.ownsRow base e k v n (l.flatMap enc)) (hv:v≠.slice none 0 0):∃g cap,v=.slice (some ⟨g,0,none⟩) n cap∧n≤cap∧zN base W k enc (some ⟨g,0,none⟩) l:=by
 obtain ⟨_,h | ⟨g,cap,cur,rfl,hb,hg,hn,_,hs,ht⟩⟩:=h
 ·exact absurd h.1 hv
 ·refine ⟨g,cap,rfl,hn,fun p e=>by cases e;exact hb,fun _=>⟨g,rfl,fun i x hx j u hu=>?_⟩⟩
  have hh:=flat_get he l i j x u hx hu
  rw [← ht,List.getElem?_take] at hh
  split at hh
  ·have hh:cur[i * k+j]? = some u:=by simpa using hh
   exact ⟨by unfold World.cell?;rw [hg];simp [hh],by unfold World.frozen?;rw [hg];simp⟩
  ·cases hh
def Zd {α:Type} (k:Nat) (enc:α→List Value) (l:List α) (n:Nat) (w:World) (e:Ending) (w':World):Prop:=∃a' c',e=.returned (.slice a' n c')∧n≤c'∧zN w.heap.size w' k enc a' l∧(a'=none→n=0)∧Below w.heap.size w w'
theorem infoCInt:(qj.info? 3).map (fun i=>(i.zero,i.size,i.bytes))=some (some (.int .i64 0),1,8):=by kernel_rfl
theorem oneCInt (l:List Int):∀u∈l.flatMap encI,u.oneCell'=true:=fun u hu=>by
 obtain ⟨x,_,hx⟩:=List.mem_flatMap.1 hu
 simp [encI] at hx
 rcases hx with rfl
 all_goals rfl
set_option maxHeartbeats 1000000 in
set_option maxRecDepth 100000 in
theorem Xi (l:List Int) (a:Option Addr) (c:Nat) (hl:l.length≤1000) (h0:a=none→l.length=0) (w:World) (hr:qh w 1 encI a l) :
 Calls qj 73 #[.slice a l.length c] w (Zd 1 encI l l.length w):=by
 obtain ⟨i0,hi,hz0,hz1,hz2⟩:=info_parts infoCInt
 have hU:qj.underlying 31=some (.slice 3):=(qy _).trans Tryz.underlying31
 have hnil:=fun w=>Lib.run_eql_slice_nil (P:=qj) w 31 3 a l.length c 0 0 hU
 cases a with
 | none =>
   have hlz:=h0 rfl
   rw [hlz]
   rw [hlz] at hnil
   go_enter (sf 73 f73),ntmps73
   go_wp2
   go_ret
   exact ⟨none,0,rfl,Nat.le_refl _,⟨fun p e=>(by cases e),fun h=>(by omega)⟩,fun _=>rfl,Below.refl _ _⟩
 | some ad =>
   have HP:=Lib.hid (xJ (k:=1) (fun _=>rfl) (by omega) hr)
   have HN:=Lib.hid (yh (k:=1) (enc:=encI) (fun _=>rfl) l)
   have HO:=Lib.hid (oneCInt l)
   clear hr h0
   go_enter (sf 73 f73),ntmps73
   go_wp2_with (at_builtin;refine wpList_append_own _ rfl (.tmp 5) (.tmp 6) 31 rfl w.heap.size 3 i0 (.int .i64 0) 1 8 hU hi hz0 hz1 hz2 rfl (by decide) _ 0 [] rfl (World.ownsRow_made w #[] 0 (Nat.le_refl _) (by unfold maxLen;omega) rfl) ad l.length c (l.flatMap encI) rfl HN.out (fun j u hu=>yA (HP.out j u hu)) HO.out (by unfold maxLen;omega) (by omega) (by simp) ?_;intro v1 w3 hown1 hgrow1 hnil1)
   go_ret
   rw [List.nil_append] at hown1
   obtain ⟨g,cap,e1,e4,e5⟩:=qW (enc:=encI) (k:=1) (fun _=>rfl) hown1 (fun e=>by have:=(hnil1.1 e).1;cases this)
   rw [Nat.zero_add] at e1 e4
   exact ⟨_,cap,by rw [e1];rfl,e4,e5,(fun h=>by cases h),((Below.refl _ w).alloc (Nat.le_refl _) _).grown hgrow1 (by simp) (fun k hk=>by cases hk;exact Nat.le_refl _)⟩
theorem infoCStr:(qj.info? 9).map (fun i=>(i.zero,i.size,i.bytes))=some (some (.string ⟨#[]⟩),1,16):=by kernel_rfl
theorem oneCStr (l:List ByteArray):∀u∈l.flatMap encS,u.oneCell'=true:=fun u hu=>by
 obtain ⟨x,_,hx⟩:=List.mem_flatMap.1 hu
 simp [encS] at hx
 rcases hx with rfl
 all_goals rfl
set_option maxHeartbeats 1000000 in
set_option maxRecDepth 100000 in
theorem cloneStr (l:List ByteArray) (a:Option Addr) (c:Nat) (hl:l.length≤1000) (h0:a=none→l.length=0) (w:World) (hr:qh w 1 encS a l) :
 Calls qj 103 #[.slice a l.length c] w (Zd 1 encS l l.length w):=by
 obtain ⟨i0,hi,hz0,hz1,hz2⟩:=info_parts infoCStr
 have hU:qj.underlying 22=some (.slice 9):=(qy _).trans Tryz.underlying22
 have hnil:=fun w=>Lib.run_eql_slice_nil (P:=qj) w 22 9 a l.length c 0 0 hU
 cases a with
 | none =>
   have hlz:=h0 rfl
   rw [hlz]
   rw [hlz] at hnil
   go_enter (sf 103 f103),ntmps103
   go_wp2
   go_ret
   exact ⟨none,0,rfl,Nat.le_refl _,⟨fun p e=>(by cases e),fun h=>(by omega)⟩,fun _=>rfl,Below.refl _ _⟩
 | some ad =>
   have HP:=Lib.hid (xJ (k:=1) (fun _=>rfl) (by omega) hr)
   have HN:=Lib.hid (yh (k:=1) (enc:=encS) (fun _=>rfl) l)
   have HO:=Lib.hid (oneCStr l)
   clear hr h0
   go_enter (sf 103 f103),ntmps103
   go_wp2_with (at_builtin;refine wpList_append_own _ rfl (.tmp 5) (.tmp 6) 22 rfl w.heap.size 9 i0 (.string ⟨#[]⟩) 1 16 hU hi hz0 hz1 hz2 rfl (by decide) _ 0 [] rfl (World.ownsRow_made w #[] 0 (Nat.le_refl _) (by unfold maxLen;omega) rfl) ad l.length c (l.flatMap encS) rfl HN.out (fun j u hu=>yA (HP.out j u hu)) HO.out (by unfold maxLen;omega) (by omega) (by simp) ?_;intro v1 w3 hown1 hgrow1 hnil1)
   go_ret
   rw [List.nil_append] at hown1
   obtain ⟨g,cap,e1,e4,e5⟩:=qW (enc:=encS) (k:=1) (fun _=>rfl) hown1 (fun e=>by have:=(hnil1.1 e).1;cases this)
   rw [Nat.zero_add] at e1 e4
   exact ⟨_,cap,by rw [e1];rfl,e4,e5,(fun h=>by cases h),((Below.refl _ w).alloc (Nat.le_refl _) _).grown hgrow1 (by simp) (fun k hk=>by cases hk;exact Nat.le_refl _)⟩
theorem infoCGrp:(qj.info? 116).map (fun i=>(i.zero,i.size,i.bytes))=some (some (.agg #[.int .i64 0,.int .i64 0,.int .i64 0,.int .i64 0]),4,32):=by kernel_rfl
theorem oneCGrp (l:List GrpM):∀u∈l.flatMap XR,u.oneCell'=true:=fun u hu=>by
 obtain ⟨x,_,hx⟩:=List.mem_flatMap.1 hu
 simp [XR] at hx
 rcases hx with rfl | rfl | rfl | rfl
 all_goals rfl
set_option maxHeartbeats 1000000 in
set_option maxRecDepth 100000 in
theorem cloneGrp (l:List GrpM) (a:Option Addr) (c:Nat) (hl:l.length≤1000) (h0:a=none→l.length=0) (w:World) (hr:qh w 4 XR a l) :
 Calls qj 104 #[.slice a l.length c] w (Zd 4 XR l l.length w):=by
 obtain ⟨i0,hi,hz0,hz1,hz2⟩:=info_parts infoCGrp
 have hU:qj.underlying 23=some (.slice 116):=(qy _).trans Tryz.underlying23
 have hnil:=fun w=>Lib.run_eql_slice_nil (P:=qj) w 23 116 a l.length c 0 0 hU
 cases a with
 | none =>
   have hlz:=h0 rfl
   rw [hlz]
   rw [hlz] at hnil
   go_enter (sf 104 f104),ntmps104
   go_wp2
   go_ret
   exact ⟨none,0,rfl,Nat.le_refl _,⟨fun p e=>(by cases e),fun h=>(by omega)⟩,fun _=>rfl,Below.refl _ _⟩
 | some ad =>
   have HP:=Lib.hid (xJ (k:=4) (fun _=>rfl) (by omega) hr)
   have HN:=Lib.hid (yh (k:=4) (enc:=XR) (fun _=>rfl) l)
   have HO:=Lib.hid (oneCGrp l)
   clear hr h0
   go_enter (sf 104 f104),ntmps104
   go_wp2_with (at_builtin;refine wpList_append_own _ rfl (.tmp 5) (.tmp 6) 23 rfl w.heap.size 116 i0 (.agg #[.int .i64 0,.int .i64 0,.int .i64 0,.int .i64 0]) 4 32 hU hi hz0 hz1 hz2 rfl (by decide) _ 0 [] rfl (World.ownsRow_made w #[] 0 (Nat.le_refl _) (by unfold maxLen;omega) rfl) ad l.length c (l.flatMap XR) rfl HN.out (fun j u hu=>yA (HP.out j u hu)) HO.out (by unfold maxLen;omega) (by omega) (by simp) ?_;intro v1 w3 hown1 hgrow1 hnil1)
   go_ret
   rw [List.nil_append] at hown1
   obtain ⟨g,cap,e1,e4,e5⟩:=qW (enc:=XR) (k:=4) (fun _=>rfl) hown1 (fun e=>by have:=(hnil1.1 e).1;cases this)
   rw [Nat.zero_add] at e1 e4
   exact ⟨_,cap,by rw [e1];rfl,e4,e5,(fun h=>by cases h),((Below.refl _ w).alloc (Nat.le_refl _) _).grown hgrow1 (by simp) (fun k hk=>by cases hk;exact Nat.le_refl _)⟩
theorem qba:(qj.info? 56).map (fun i=>(i.zero,i.size,i.bytes))=some (some (.agg #[.int .i64 0,.int .i64 0,.int .i64 0,.int .i64 0]),4,32):=by kernel_rfl
theorem Xy (l:List HldM):∀u∈l.flatMap YQ,u.oneCell'=true:=fun u hu=>by
 obtain ⟨x,_,hx⟩:=List.mem_flatMap.1 hu
 simp [YQ] at hx
 rcases hx with rfl | rfl | rfl | rfl
 all_goals rfl
set_option maxHeartbeats 1000000 in
set_option maxRecDepth 100000 in
theorem cloneHld (l:List HldM) (a:Option Addr) (c:Nat) (hl:l.length≤1000) (h0:a=none→l.length=0) (w:World) (hr:qh w 4 YQ a l) :
 Calls qj 105 #[.slice a l.length c] w (Zd 4 YQ l l.length w):=by
 obtain ⟨i0,hi,hz0,hz1,hz2⟩:=info_parts qba
 have hU:qj.underlying 25=some (.slice 56):=(qy _).trans Tryz.underlying25
 have hnil:=fun w=>Lib.run_eql_slice_nil (P:=qj) w 25 56 a l.length c 0 0 hU
 cases a with
 | none =>
   have hlz:=h0 rfl
   rw [hlz]
   rw [hlz] at hnil
   go_enter (sf 105 f105),ntmps105
   go_wp2
   go_ret
   exact ⟨none,0,rfl,Nat.le_refl _,⟨fun p e=>(by cases e),fun h=>(by omega)⟩,fun _=>rfl,Below.refl _ _⟩
 | some ad =>
   have HP:=Lib.hid (xJ (k:=4) (fun _=>rfl) (by omega) hr)
   have HN:=Lib.hid (yh (k:=4) (enc:=YQ) (fun _=>rfl) l)
   have HO:=Lib.hid (Xy l)
   clear hr h0
   go_enter (sf 105 f105),ntmps105
   go_wp2_with (at_builtin;refine wpList_append_own _ rfl (.tmp 5) (.tmp 6) 25 rfl w.heap.size 56 i0 (.agg #[.int .i64 0,.int .i64 0,.int .i64 0,.int .i64 0]) 4 32 hU hi hz0 hz1 hz2 rfl (by decide) _ 0 [] rfl (World.ownsRow_made w #[] 0 (Nat.le_refl _) (by unfold maxLen;omega) rfl) ad l.length c (l.flatMap YQ) rfl HN.out (fun j u hu=>yA (HP.out j u hu)) HO.out (by unfold maxLen;omega) (by omega) (by simp) ?_;intro v1 w3 hown1 hgrow1 hnil1)
   go_ret
   rw [List.nil_append] at hown1
   obtain ⟨g,cap,e1,e4,e5⟩:=qW (enc:=YQ) (k:=4) (fun _=>rfl) hown1 (fun e=>by have:=(hnil1.1 e).1;cases this)
   rw [Nat.zero_add] at e1 e4
   exact ⟨_,cap,by rw [e1];rfl,e4,e5,(fun h=>by cases h),((Below.refl _ w).alloc (Nat.le_refl _) _).grown hgrow1 (by simp) (fun k hk=>by cases hk;exact Nat.le_refl _)⟩
theorem qaZ:(qj.info? 52).map (fun i=>(i.zero,i.size,i.bytes))=some (some (.agg #[.int .i64 0,.int .i64 0,.int .i64 0,.int .i64 0,.int .i64 0]),5,40):=by kernel_rfl
theorem Xx (l:List CalM):∀u∈l.flatMap Qc,u.oneCell'=true:=fun u hu=>by
 obtain ⟨x,_,hx⟩:=List.mem_flatMap.1 hu
 simp [Qc] at hx
 rcases hx with rfl | rfl | rfl | rfl | rfl
 all_goals rfl
set_option maxHeartbeats 1000000 in
set_option maxRecDepth 100000 in
theorem cloneCal (l:List CalM) (a:Option Addr) (c:Nat) (hl:l.length≤1000) (h0:a=none→l.length=0) (w:World) (hr:qh w 5 Qc a l) :
 Calls qj 106 #[.slice a l.length c] w (Zd 5 Qc l l.length w):=by
 obtain ⟨i0,hi,hz0,hz1,hz2⟩:=info_parts qaZ
 have hU:qj.underlying 26=some (.slice 52):=(qy _).trans Tryz.underlying26
 have hnil:=fun w=>Lib.run_eql_slice_nil (P:=qj) w 26 52 a l.length c 0 0 hU
 cases a with
 | none =>
   have hlz:=h0 rfl
   rw [hlz]
   rw [hlz] at hnil
   go_enter (sf 106 f106),ntmps106
   go_wp2
   go_ret
   exact ⟨none,0,rfl,Nat.le_refl _,⟨fun p e=>(by cases e),fun h=>(by omega)⟩,fun _=>rfl,Below.refl _ _⟩
 | some ad =>
   have HP:=Lib.hid (xJ (k:=5) (fun _=>rfl) (by omega) hr)
   have HN:=Lib.hid (yh (k:=5) (enc:=Qc) (fun _=>rfl) l)
   have HO:=Lib.hid (Xx l)
   clear hr h0
   go_enter (sf 106 f106),ntmps106
   go_wp2_with (at_builtin;refine wpList_append_own _ rfl (.tmp 5) (.tmp 6) 26 rfl w.heap.size 52 i0 (.agg #[.int .i64 0,.int .i64 0,.int .i64 0,.int .i64 0,.int .i64 0]) 5 40 hU hi hz0 hz1 hz2 rfl (by decide) _ 0 [] rfl (World.ownsRow_made w #[] 0 (Nat.le_refl _) (by unfold maxLen;omega) rfl) ad l.length c (l.flatMap Qc) rfl HN.out (fun j u hu=>yA (HP.out j u hu)) HO.out (by unfold maxLen;omega) (by omega) (by simp) ?_;intro v1 w3 hown1 hgrow1 hnil1)
   go_ret
   rw [List.nil_append] at hown1
   obtain ⟨g,cap,e1,e4,e5⟩:=qW (enc:=Qc) (k:=5) (fun _=>rfl) hown1 (fun e=>by have:=(hnil1.1 e).1;cases this)
   rw [Nat.zero_add] at e1 e4
   exact ⟨_,cap,by rw [e1];rfl,e4,e5,(fun h=>by cases h),((Below.refl _ w).alloc (Nat.le_refl _) _).grown hgrow1 (by simp) (fun k hk=>by cases hk;exact Nat.le_refl _)⟩
theorem infoCOrd:(qj.info? 64).map (fun i=>(i.zero,i.size,i.bytes))=some (some (.agg #[.int .i64 0,.int .i64 0,.slice none 0 0]),3,40):=by kernel_rfl
theorem oneCOrd (l:List OrdM):∀u∈l.flatMap Zo,u.oneCell'=true:=fun u hu=>by
 obtain ⟨x,_,hx⟩:=List.mem_flatMap.1 hu
 simp [Zo] at hx
 rcases hx with rfl | rfl | rfl
 all_goals rfl
set_option maxHeartbeats 1000000 in
set_option maxRecDepth 100000 in
theorem cloneOrd (l:List OrdM) (a:Option Addr) (c:Nat) (hl:l.length≤1000) (h0:a=none→l.length=0) (w:World) (hr:qh w 3 Zo a l) :
 Calls qj 107 #[.slice a l.length c] w (Zd 3 Zo l l.length w):=by
 obtain ⟨i0,hi,hz0,hz1,hz2⟩:=info_parts infoCOrd
 have hU:qj.underlying 24=some (.slice 64):=(qy _).trans Tryz.underlying24
 have hnil:=fun w=>Lib.run_eql_slice_nil (P:=qj) w 24 64 a l.length c 0 0 hU
 cases a with
 | none =>
   have hlz:=h0 rfl
   rw [hlz]
   rw [hlz] at hnil
   go_enter (sf 107 f107),ntmps107
   go_wp2
   go_ret
   exact ⟨none,0,rfl,Nat.le_refl _,⟨fun p e=>(by cases e),fun h=>(by omega)⟩,fun _=>rfl,Below.refl _ _⟩
 | some ad =>
   have HP:=Lib.hid (xJ (k:=3) (fun _=>rfl) (by omega) hr)
   have HN:=Lib.hid (yh (k:=3) (enc:=Zo) (fun _=>rfl) l)
   have HO:=Lib.hid (oneCOrd l)
   clear hr h0
   go_enter (sf 107 f107),ntmps107
   go_wp2_with (at_builtin;refine wpList_append_own _ rfl (.tmp 5) (.tmp 6) 24 rfl w.heap.size 64 i0 (.agg #[.int .i64 0,.int .i64 0,.slice none 0 0]) 3 40 hU hi hz0 hz1 hz2 rfl (by decide) _ 0 [] rfl (World.ownsRow_made w #[] 0 (Nat.le_refl _) (by unfold maxLen;omega) rfl) ad l.length c (l.flatMap Zo) rfl HN.out (fun j u hu=>yA (HP.out j u hu)) HO.out (by unfold maxLen;omega) (by omega) (by simp) ?_;intro v1 w3 hown1 hgrow1 hnil1)
   go_ret
   rw [List.nil_append] at hown1
   obtain ⟨g,cap,e1,e4,e5⟩:=qW (enc:=Zo) (k:=3) (fun _=>rfl) hown1 (fun e=>by have:=(hnil1.1 e).1;cases this)
   rw [Nat.zero_add] at e1 e4
   exact ⟨_,cap,by rw [e1];rfl,e4,e5,(fun h=>by cases h),((Below.refl _ w).alloc (Nat.le_refl _) _).grown hgrow1 (by simp) (fun k hk=>by cases hk;exact Nat.le_refl _)⟩
theorem infoCWay:(qj.info? 31).map (fun i=>(i.zero,i.size,i.bytes))=some (some (.slice none 0 0),1,24):=by kernel_rfl
theorem oneCWay (l:List WayM):∀u∈l.flatMap xY,u.oneCell'=true:=fun u hu=>by
 obtain ⟨x,_,hx⟩:=List.mem_flatMap.1 hu
 simp [xY] at hx
 rcases hx with rfl
 all_goals rfl
set_option maxHeartbeats 1000000 in
set_option maxRecDepth 100000 in
theorem cloneWay (l:List WayM) (a:Option Addr) (c:Nat) (hl:l.length≤1000) (h0:a=none→l.length=0) (w:World) (hr:qh w 1 xY a l) :
 Calls qj 108 #[.slice a l.length c] w (Zd 1 xY l l.length w):=by
 obtain ⟨i0,hi,hz0,hz1,hz2⟩:=info_parts infoCWay
 have hU:qj.underlying 49=some (.slice 31):=(qy _).trans Tryz.underlying49
 have hnil:=fun w=>Lib.run_eql_slice_nil (P:=qj) w 49 31 a l.length c 0 0 hU
 cases a with
 | none =>
   have hlz:=h0 rfl
   rw [hlz]
   rw [hlz] at hnil
   go_enter (sf 108 f108),ntmps108
   go_wp2
   go_ret
   exact ⟨none,0,rfl,Nat.le_refl _,⟨fun p e=>(by cases e),fun h=>(by omega)⟩,fun _=>rfl,Below.refl _ _⟩
 | some ad =>
   have HP:=Lib.hid (xJ (k:=1) (fun _=>rfl) (by omega) hr)
   have HN:=Lib.hid (yh (k:=1) (enc:=xY) (fun _=>rfl) l)
   have HO:=Lib.hid (oneCWay l)
   clear hr h0
   go_enter (sf 108 f108),ntmps108
   go_wp2_with (at_builtin;refine wpList_append_own _ rfl (.tmp 5) (.tmp 6) 49 rfl w.heap.size 31 i0 (.slice none 0 0) 1 24 hU hi hz0 hz1 hz2 rfl (by decide) _ 0 [] rfl (World.ownsRow_made w #[] 0 (Nat.le_refl _) (by unfold maxLen;omega) rfl) ad l.length c (l.flatMap xY) rfl HN.out (fun j u hu=>yA (HP.out j u hu)) HO.out (by unfold maxLen;omega) (by omega) (by simp) ?_;intro v1 w3 hown1 hgrow1 hnil1)
   go_ret
   rw [List.nil_append] at hown1
   obtain ⟨g,cap,e1,e4,e5⟩:=qW (enc:=xY) (k:=1) (fun _=>rfl) hown1 (fun e=>by have:=(hnil1.1 e).1;cases this)
   rw [Nat.zero_add] at e1 e4
   exact ⟨_,cap,by rw [e1];rfl,e4,e5,(fun h=>by cases h),((Below.refl _ w).alloc (Nat.le_refl _) _).grown hgrow1 (by simp) (fun k hk=>by cases hk;exact Nat.le_refl _)⟩
end Go.Proofs.Tryz
namespace Go.Proofs.Tryz
open Go Go.Load Go.LoadR Go.RowKit
def HistP (D:DayM) (w:World) (e:Ending) (w':World):Prop :=
 e=.returned (.tuple #[.int .i64 (if checkN D≠0 then 0 else (qo D).length),.int .i64 (checkN D)])∧Below w.heap.size w w'
theorem St.open {D:DayM} {M:Nat} {A:Nat→Prop} {w0 w:World} (h0:DayAt w0 D) (hs:DaySm D) (hz:checkN D=0) (hB:Below w0.heap.size w0 w) (hM:w0.heap.size≤M) (hG:jH qL w M (fun _=>none)):St D M A w0 w :=
 ⟨hB,hM,h0,hs,zF D hz,⟨fun _=>none,hG,fun s v hv=>by cases hv⟩⟩
set_option maxHeartbeats 4000000 in
set_option maxRecDepth 100000 in
theorem Xo (D:DayM) (w:World) (h:DayAt w D) (hs:DaySm D) (hG:Globs w):Calls qj 24 #[dv D] w (HistP D w):=by
 obtain ⟨W,hW⟩:∃W,w.alloc (Obj.cells #[.slice D.ta D.ts.length D.tc,.slice D.ga D.gs.length D.gc,.slice D.oa D.os.length D.oc,.slice D.ha D.hs.length D.hc,.slice D.ca D.cs.length D.cc] 28)=W:=⟨_,rfl⟩
 have hBW:Below w.heap.size w W:=by subst hW;go_grown
 have hsW:W.heap.size=w.heap.size+1:=by subst hW;simp
 have k0:W.cell? ⟨w.heap.size,0,none⟩=some (.slice D.ta D.ts.length D.tc):=by subst hW;go_cell
 have k1:W.cell? ⟨w.heap.size,1,none⟩=some (.slice D.ga D.gs.length D.gc):=by subst hW;go_cell
 have k2:W.cell? ⟨w.heap.size,2,none⟩=some (.slice D.oa D.os.length D.oc):=by subst hW;go_cell
 have k3:W.cell? ⟨w.heap.size,3,none⟩=some (.slice D.ha D.hs.length D.hc):=by subst hW;go_cell
 have k4:W.cell? ⟨w.heap.size,4,none⟩=some (.slice D.ca D.cs.length D.cc):=by subst hW;go_cell
 have hd:=h.keep hBW
 have hop:=fun hz=>XA D W hd hs (hG.keep hBW) hz
 have hopb:=fun hz=>Xz D W hd hs (hG.keep hBW) hz
 have hdv:dv D=.agg #[.slice D.ta D.ts.length D.tc,.slice D.ga D.gs.length D.gc,.slice D.oa D.os.length D.oc,.slice D.ha D.hs.length D.hc,.slice D.ca D.cs.length D.cc]:=rfl
 rw [hdv] at hop hopb ⊢
 have HD:=Lib.hid (And.intro hd hs)
 unfold HistP
 clear h hs hG hdv hd
 by_cases hz:checkN D=0
 ·have hopx:=hop hz
  have hhi:=fun M w1 (hB:Below W.heap.size W w1) (hM:W.heap.size≤M) (hg:jH qL w1 M fun _=>none)=>Yc D M (fun _=>False) W w1 (St.open HD.out.1 HD.out.2 hz hB hM hg) (fun b hb=>hb.elim) hz
  rw [if_neg (by simpa using hz),hz]
  have HHI:=Lib.hid hhi
  clear hop hopb hhi hz
  go_enter (sf 24 f24),ntmps24
  go_upto_region 1 with fail
  try rw [hW]
  clear hW
  unfold dm at hopx
  go_upto_region 4 with (go_at_call 66;(with_reducible refine hopx.mono ?_);rintro e w1 ⟨M,rfl,hM,hg,hB1⟩;have hs1:=hB1.size)
  have hBV:=(Below.refl w1.heap.size w1).alloc (Nat.le_refl _) (Obj.cells #[.slice D.ta D.ts.length D.tc,.slice D.ga D.gs.length D.gc,.slice D.oa D.os.length D.oc,.slice D.ha D.hs.length D.hc,.slice D.ca D.cs.length D.cc,.map (some M)] 74)
  have h7:=B6.new w1 (.slice D.ta D.ts.length D.tc) (.slice D.ga D.gs.length D.gc) (.slice D.oa D.os.length D.oc) (.slice D.ha D.hs.length D.hc) (.slice D.ca D.cs.length D.cc) (.map (some M)) 74
  obtain ⟨V,hV⟩:∃V,w1.alloc (Obj.cells #[.slice D.ta D.ts.length D.tc,.slice D.ga D.gs.length D.gc,.slice D.oa D.os.length D.oc,.slice D.ha D.hs.length D.hc,.slice D.ca D.cs.length D.cc,.map (some M)] 74)=V:=⟨_,rfl⟩
  rw [hV] at h7 hBV ⊢
  have hh:=HHI.out M V (bcl hB1 hBV) hM (hg.keep hBV)
  unfold dm at hh
  obtain ⟨t0,t1,t2,t3,t4,t5⟩:=h7
  clear hV hB1 hBV hg hopx k0 k1 k2 k3 k4
  go_wp2_with (go_at_call 67;(with_reducible refine hh.mono ?_);rintro e w2 ⟨a,c,rfl,hlc,hrow,hfr,hst,hg2⟩)
  go_ret2
  exact ⟨rfl,Below.call hBW hst.bel (by omega)⟩
 ·have hopx:=hopb hz
  rw [if_pos hz]
  have hb:(checkN D != 0)=true:=by simpa using hz
  unfold dz at hopx
  clear hop hopb hz
  generalize checkN D=r at *
  go_enter (sf 24 f24),ntmps24
  go_upto_region 1 with fail
  try rw [hW]
  clear hW
  go_wp2_with (go_at_call 66;(with_reducible refine hopx.mono ?_);rintro e w1 ⟨rfl,hB1⟩;have hs1:=hB1.size)
  go_ret2
  exact ⟨rfl,Below.call hBW (by go_grown) (by omega)⟩
def refN (l:List Int):Int:=if l.getD 0 0≠-1 then 2 else if l.length=1 then 1 else 0
def RefP (D:DayM) (call:Int) (w:World) (e:Ending) (w':World):Prop :=
 e=.returned (.tuple #[.int .i64 (if zf D (qU call D.cs.length)≠0 then 0 else refN (Ya D call.toNat)),.int .i64 (zf D (qU call D.cs.length))])∧Below w.heap.size w w'
set_option maxHeartbeats 4000000 in
set_option maxRecDepth 100000 in
theorem Yj (D:DayM) (w:World) (h:DayAt w D) (hs:DaySm D) (hG:Globs w) (call:Int):Calls qj 12 #[dv D,.int .i64 call] w (RefP D call w):=by
 obtain ⟨W,hW⟩:∃W,w.alloc (Obj.cells #[.slice D.ta D.ts.length D.tc,.slice D.ga D.gs.length D.gc,.slice D.oa D.os.length D.oc,.slice D.ha D.hs.length D.hc,.slice D.ca D.cs.length D.cc] 28)=W:=⟨_,rfl⟩
 have hBW:Below w.heap.size w W:=by subst hW;go_grown
 have hsW:W.heap.size=w.heap.size+1:=by subst hW;simp
 have k0:W.cell? ⟨w.heap.size,0,none⟩=some (.slice D.ta D.ts.length D.tc):=by subst hW;go_cell
 have k1:W.cell? ⟨w.heap.size,1,none⟩=some (.slice D.ga D.gs.length D.gc):=by subst hW;go_cell
 have k2:W.cell? ⟨w.heap.size,2,none⟩=some (.slice D.oa D.os.length D.oc):=by subst hW;go_cell
 have k3:W.cell? ⟨w.heap.size,3,none⟩=some (.slice D.ha D.hs.length D.hc):=by subst hW;go_cell
 have k4:W.cell? ⟨w.heap.size,4,none⟩=some (.slice D.ca D.cs.length D.cc):=by subst hW;go_cell
 have hgo:=qaV D W (h.keep hBW) hs (hG.keep hBW) call
 have hdv:dv D=.agg #[.slice D.ta D.ts.length D.tc,.slice D.ga D.gs.length D.gc,.slice D.oa D.os.length D.oc,.slice D.ha D.hs.length D.hc,.slice D.ca D.cs.length D.cc]:=rfl
 rw [hdv] at hgo ⊢
 unfold RefP
 unfold GoesP at hgo
 clear h hs hG hdv
 have hpos:zf D (qU call D.cs.length)=0→0 < (Ya D call.toNat).length∧(Ya D call.toNat).length≤1000:=fun ha=>by
  have hp:0 < (qo D).length:=by
   unfold zf at ha
   have hz:=yf ha
   rw [if_neg (by simpa using hz.1),if_neg (by simpa using hz.2)] at ha
   by_cases h0:(qo D).length=0
   ·rw [if_pos h0] at ha;cases ha
   ·omega
  refine ⟨jT (by rw [List.length_map];exact hp),?_⟩
  have h9:=QN ((qo D).map fun p=>(qG D (setOf p)).getD call.toNat 0)
  rw [List.length_map] at h9
  have:=qN (yf ha).1
  exact Nat.le_trans h9 (by omega)
 generalize Ya D call.toNat=l at *
 generalize zf D (qU call D.cs.length)=r at *
 by_cases ha:r=0
 ·subst ha
  obtain ⟨hp1,hp2⟩:=hpos rfl
  have hgo2:Calls qj 9 #[.agg #[.slice D.ta D.ts.length D.tc,.slice D.ga D.gs.length D.gc,.slice D.oa D.os.length D.oc,.slice D.ha D.hs.length D.hc,.slice D.ca D.cs.length D.cc],.int .i64 call] W fun e w'=>∃a c,e=.returned (.tuple #[.slice a l.length c,.int .i64 0])∧l.length≤c∧qh w' 1 encI a l∧Below W.heap.size W w':=hgo.mono fun e w' hh=>by
   rcases hh with ⟨hB,hh | hh⟩
   ·exact absurd rfl hh.1
   ·obtain ⟨-,a,c,h1,h2,h3⟩:=hh
    exact ⟨a,c,h1,h2,h3,hB⟩
  clear hgo hpos
  obtain ⟨x,hx⟩:∃x,l[0]? = some x:=⟨l[0],by simp⟩
  have hgx:l.getD 0 0=x:=by rw [List.getD_eq_getElem?_getD,hx];rfl
  have hR:(if (0:Int)≠0 then (0:Int) else refN l)=refN l:=by simp
  rw [hR]
  clear hR
  unfold refN
  rw [hgx]
  obtain ⟨N,hN⟩:∃N,l.length=N+1:=⟨l.length - 1,by omega⟩
  have hn1:(0:Int) < ((N+1:Nat):Int):=by omega
  have HX:=Lib.hid hx
  rw [hN] at hgo2 ⊢
  clear hx hgx
  by_cases hx1:x=-1
  ·subst hx1
   rw [if_neg (by simp)]
   by_cases h1:N=0
   ·subst h1
    rw [if_pos rfl]
    go_enter (sf 12 f12),ntmps12
    go_upto_region 1 with fail
    try rw [hW]
    clear hW
    go_upto_region 2 with (go_at_call 9;(with_reducible refine hgo2.mono ?_);rintro e w1 ⟨a,c,rfl,hlc,hrow,hB1⟩;have hs1:=hB1.size)
    obtain ⟨b,o,rfl,hP⟩:=hrow (by omega)
    have c0:=hP 0 _ HX.out 0 _ rfl
    simp only [Nat.zero_mul,Nat.add_zero] at c0
    clear hP hrow
    go_wp2
    go_ret2
    exact ⟨rfl,Below.call hBW hB1 (by omega)⟩
   ·rw [if_neg (by omega)]
    have hb:(((N+1:Nat):Int) == 1)=false:=by rw [beq_eq_false_iff_ne];omega
    go_enter (sf 12 f12),ntmps12
    go_upto_region 1 with fail
    try rw [hW]
    clear hW
    go_upto_region 2 with (go_at_call 9;(with_reducible refine hgo2.mono ?_);rintro e w1 ⟨a,c,rfl,hlc,hrow,hB1⟩;have hs1:=hB1.size)
    obtain ⟨b,o,rfl,hP⟩:=hrow (by omega)
    have c0:=hP 0 _ HX.out 0 _ rfl
    simp only [Nat.zero_mul,Nat.add_zero] at c0
    clear hP hrow
    go_wp2
    go_ret2
    exact ⟨rfl,Below.call hBW hB1 (by omega)⟩
  ·rw [if_pos hx1]
   have hb:(x != -1)=true:=by simpa using hx1
   go_enter (sf 12 f12),ntmps12
   go_upto_region 1 with fail
   try rw [hW]
   clear hW
   go_upto_region 2 with (go_at_call 9;(with_reducible refine hgo2.mono ?_);rintro e w1 ⟨a,c,rfl,hlc,hrow,hB1⟩;have hs1:=hB1.size)
   obtain ⟨b,o,rfl,hP⟩:=hrow (by omega)
   have c0:=hP 0 _ HX.out 0 _ rfl
   simp only [Nat.zero_mul,Nat.add_zero] at c0
   clear hP hrow
   go_wp2
   go_ret2
   exact ⟨rfl,Below.call hBW hB1 (by omega)⟩
 ·have hgo2:Calls qj 9 #[.agg #[.slice D.ta D.ts.length D.tc,.slice D.ga D.gs.length D.gc,.slice D.oa D.os.length D.oc,.slice D.ha D.hs.length D.hc,.slice D.ca D.cs.length D.cc],.int .i64 call] W fun e w'=>e=.returned (.tuple #[.slice none 0 0,.int .i64 r])∧Below W.heap.size W w':=hgo.mono fun e w' hh=>by
   rcases hh with ⟨hB,hh | hh⟩
   ·exact ⟨hh.2,hB⟩
   ·exact absurd hh.1 ha
  rw [if_pos ha]
  have hb:(r != 0)=true:=by simpa using ha
  clear hgo hpos ha
  go_enter (sf 12 f12),ntmps12
  go_upto_region 1 with fail
  try rw [hW]
  clear hW
  go_wp2_with (go_at_call 9;(with_reducible refine hgo2.mono ?_);rintro e w1 ⟨rfl,hB1⟩;have hs1:=hB1.size)
  go_ret2
  exact ⟨rfl,Below.call hBW hB1 (by omega)⟩
def zK (l:List Int):PastM:=⟨l.getD 0 0,l.getD 1 0,l.getD 2 0,l.getD 3 0⟩
theorem QV (l:List Int) {j:Nat} (hj:j < 4):(zK l).get j=l.getD j 0:=by
 match j,hj with
 | 0,_=>rfl
 | 1,_=>rfl
 | 2,_=>rfl
 | 3,_=>rfl
theorem qek {q:PastM} {l:List Int} (h:∀j,j < 4→q.get j=l.getD j 0):q=zK l:=PastM.same fun j hj=>(h j hj).trans (QV l hj).symm
theorem qel {l:List Int} (h:l.all (fun n=>btw n 0 9)=true):(zK l).ok:=by
 rw [List.all_eq_true] at h
 have hx:∀j,0≤l.getD j 0∧l.getD j 0≤100:=fun j=>by
  rw [List.getD_eq_getElem?_getD]
  cases e:l[j]? with
  | none=>exact ⟨Int.le_refl _,(by decide:(0:Int)≤100)⟩
  | some x =>
    have:=zM.1 (h x (List.mem_of_getElem? e))
    simp only [Option.getD_some]
    omega
 intro g
 by_cases hg:g < 4
 ·rw [QV l hg];exact hx g
 ·rw [PastM.get_big _ (by omega),QV l (by omega)];exact hx 3
def QX (D:DayM) (l:List Int):Int:=if checkN D≠0 then checkN D else if l.length≠D.gs.length then 2 else if l.all (fun n=>btw n 0 9)=false then 1 else 0
def PlayP (D:DayM) (l:List Int) (w:World) (e:Ending) (w':World):Prop :=
 Below w.heap.size w w'∧((QX D l≠0∧e=.returned (.tuple #[.slice none 0 0,.int .i64 (QX D l)])) ∨
 (QX D l=0∧∃a c,e=.returned (.tuple #[.slice a (qG D (setOf (zK l))).length c,.int .i64 0])∧(qG D (setOf (zK l))).length≤c∧qh w' 1 encI a (qG D (setOf (zK l)))))
structure PB (W:World) (b:Nat) (q:PastM):Prop where
 c:∀i,i < 4→W.cell? ⟨b,i,none⟩=some (.int .i64 (q.get i))
 f:∀i,i < 4→W.frozen? ⟨b,i,none⟩=false
theorem PB.put {W:World} {b:Nat} {q:PastM} (h:PB W b q) {i:Nat} (hi:i < 4) (n:Int):PB (W.setCell ⟨b,i,none⟩ (.int .i64 n)) b (q.set i n):=by
 refine ⟨fun j hj=>?_,fun j hj=>by simpa using h.f j hj⟩
 by_cases e:j=i
 ·subst e
  rw [PastM.get_set _ hi]
  exact qp (qz (h.c j hj))
 ·rw [PastM.get_set_ne _ hi hj e]
  exact qf (h.c j hj) (.inr e)
theorem PB.of {W:World} {b:Nat} {q:PastM} (c0:W.cell? ⟨b,0,none⟩=some (.int .i64 q.a)) (c1:W.cell? ⟨b,1,none⟩=some (.int .i64 q.b)) (c2:W.cell? ⟨b,2,none⟩=some (.int .i64 q.c)) (c3:W.cell? ⟨b,3,none⟩=some (.int .i64 q.d))
 (f0:W.frozen? ⟨b,0,none⟩=false) (f1:W.frozen? ⟨b,1,none⟩=false) (f2:W.frozen? ⟨b,2,none⟩=false) (f3:W.frozen? ⟨b,3,none⟩=false):PB W b q :=
 ⟨fun i hi=>match i,hi with
   | 0,_=>c0
   | 1,_=>c1
   | 2,_=>c2
   | 3,_=>c3,fun i hi=>match i,hi with
   | 0,_=>f0
   | 1,_=>f1
   | 2,_=>f2
   | 3,_=>f3⟩
theorem PB.keep {W W1:World} {b:Nat} {q:PastM} (h:PB W b q) (hB:Below W.heap.size W W1):PB W1 b q:=⟨fun i hi=>qb _ hB (h.c i hi),fun i hi=>qd _ hB (h.c i hi) (h.f i hi)⟩
theorem PB.mod {S:Nat→Prop} {W W1:World} {b:Nat} {q:PastM} (h:PB W b q) (hm:Mod S W W1) (hb:¬ S b):PB W1 b q:=⟨fun i hi=>hm.cell (h.c i hi) hb,fun i hi=>(hm.frozen (h.c i hi) hb).trans (h.f i hi)⟩
theorem PB.four {W:World} {b:Nat} {q:PastM} (h:PB W b q):W.cell? ⟨b,0,none⟩=some (.int .i64 q.a)∧W.cell? ⟨b,1,none⟩=some (.int .i64 q.b)∧W.cell? ⟨b,2,none⟩=some (.int .i64 q.c)∧W.cell? ⟨b,3,none⟩=some (.int .i64 q.d):=⟨h.c 0 (by omega),h.c 1 (by omega),h.c 2 (by omega),h.c 3 (by omega)⟩
theorem PB.lt {W:World} {b:Nat} {q:PastM} (h:PB W b q):b < W.heap.size:=lt_of_cell (h.c 0 (by omega))
theorem Mod.keep {S:Nat→Prop} {w w1:World} {B:Nat} (h:Mod S w w1) (hB:B≤w.heap.size) (hs:∀b,S b→B≤b):Below B w w1:=⟨h.os,h.tape,h.output,h.size,fun k hk=>h.block k (by omega) (fun e=>by have:=hs k e;omega)⟩
set_option maxHeartbeats 4000000 in
set_option maxRecDepth 100000 in
theorem play_top (D:DayM) (w:World) (h:DayAt w D) (hs:DaySm D) (hG:Globs w) (l:List Int) (a:Option Addr) (c:Nat) (hll:l.length≤20) (hlc:l.length≤c) (hr:qh w 1 encI a l):Calls qj 27 #[dv D,.slice a l.length c] w (PlayP D l w):=by
 obtain ⟨W,hW⟩:∃W,w.alloc (Obj.cells #[.slice D.ta D.ts.length D.tc,.slice D.ga D.gs.length D.gc,.slice D.oa D.os.length D.oc,.slice D.ha D.hs.length D.hc,.slice D.ca D.cs.length D.cc] 28)=W:=⟨_,rfl⟩
 have hBW:Below w.heap.size w W:=by subst hW;go_grown
 have hsW:W.heap.size=w.heap.size+1:=by subst hW;simp
 have k0:W.cell? ⟨w.heap.size,0,none⟩=some (.slice D.ta D.ts.length D.tc):=by subst hW;go_cell
 have k1:W.cell? ⟨w.heap.size,1,none⟩=some (.slice D.ga D.gs.length D.gc):=by subst hW;go_cell
 have k2:W.cell? ⟨w.heap.size,2,none⟩=some (.slice D.oa D.os.length D.oc):=by subst hW;go_cell
 have k3:W.cell? ⟨w.heap.size,3,none⟩=some (.slice D.ha D.hs.length D.hc):=by subst hW;go_cell
 have k4:W.cell? ⟨w.heap.size,4,none⟩=some (.slice D.ca D.cs.length D.cc):=by subst hW;go_cell
 have hd:=h.keep hBW
 have hop:=fun hz=>XA D W hd hs (hG.keep hBW) hz
 have hopb:=fun hz=>Xz D W hd hs (hG.keep hBW) hz
 have hdv:dv D=.agg #[.slice D.ta D.ts.length D.tc,.slice D.ga D.gs.length D.gc,.slice D.oa D.os.length D.oc,.slice D.ha D.hs.length D.hc,.slice D.ca D.cs.length D.cc]:=rfl
 rw [hdv] at hop hopb ⊢
 have HD:=Lib.hid (And.intro hd (And.intro hs (hr.keep hBW)))
 clear h hs hG hdv hd hr
 have hgl:D.gs.length≤20:=HD.out.2.1.gs.1
 by_cases hz:checkN D=0
 ·have hopx:=hop hz
  have HZ:=Lib.hid hz
  clear hop hopb hz
  unfold dm at hopx
  by_cases hlg:l.length=D.gs.length
  ·have hg4:=(zF D HZ.out).gs
   have hbb:((l.length:Int) != (D.gs.length:Int))=false:=by rw [hlg];simp
   have HLG:=Lib.hid hlg
   have hl4:l.length≤4:=by omega
   clear hlg
   go_enter (sf 27 f27),ntmps27
   go_upto_region 1 with fail
   try rw [hW]
   clear hW
   go_upto_region 7 with (go_at_call 66;(with_reducible refine hopx.mono ?_);rintro e w1 ⟨M,rfl,hM,hg,hB1⟩;have hs1:=hB1.size;have hzz:w.heap.size < w1.heap.size:=(by omega);have q0:=qb _ hB1 k0;have q1:=qb _ hB1 k1;have q2:=qb _ hB1 k2;have q3:=qb _ hB1 k3;have q4:=qb _ hB1 k4)
   clear q0 q1 q2 q3 q4 k0 k1 k2 k3 k4
   have hgl:=hg.lt
   obtain ⟨V,hV⟩:∃V,(w1.alloc (Obj.cells #[.slice D.ta D.ts.length D.tc,.slice D.ga D.gs.length D.gc,.slice D.oa D.os.length D.oc,.slice D.ha D.hs.length D.hc,.slice D.ca D.cs.length D.cc,.map (some M)] 74)).alloc (Obj.cells #[.int .i64 0,.int .i64 0,.int .i64 0,.int .i64 0] 82)=V:=⟨_,rfl⟩
   have hBV:Below w1.heap.size w1 V:=by subst hV;go_grown
   have h7:B6 V w1.heap.size (.slice D.ta D.ts.length D.tc) (.slice D.ga D.gs.length D.gc) (.slice D.oa D.os.length D.oc) (.slice D.ha D.hs.length D.hc) (.slice D.ca D.cs.length D.cc) (.map (some M)):=by subst hV;exact ⟨by go_cell,by go_cell,by go_cell,by go_cell,by go_cell,by go_cell⟩
   have hp0:PB V (w1.heap.size+1) ⟨0,0,0,0⟩:=by subst hV;exact PB.of (by go_cell) (by go_cell) (by go_cell) (by go_cell) (by go_cell) (by go_cell) (by go_cell) (by go_cell)
   try rw [hV]
   have hst:St D M (fun b=>b=w1.heap.size+1) W V:=St.open HD.out.1 HD.out.2.1 HZ.out (bcl hB1 hBV) hM (hg.keep hBV)
   have hrV:=HD.out.2.2.keep hst.bel
   have H7:=Lib.hid h7
   have HST:=Lib.hid hst
   have HP0:=Lib.hid hp0
   obtain ⟨T,hT⟩:∃T,w1.heap.size=T:=⟨_,rfl⟩
   rw [hT] at H7 HP0 hgl hs1 hzz HST ⊢
   clear hV hBV h7 hp0 hst hopx hg hB1 hT
   go_wp2
   go_loopw [27] (fun i wr=>∃(k:Nat) (q:PastM),i=.int .i64 k∧k≤l.length∧Hid (PB wr (T+1) q)∧Hid (Mod (fun b=>b=T+1) V wr)∧Hid (∀j,j < 4→q.get j=(l.take k).getD j 0)∧Hid ((l.take k).all (fun n=>btw n 0 9)=true)) (fun i _=>l.length - (intOf i).toNat)
   case atStart=>exact ⟨0,_,rfl,Nat.zero_le _,HP0,Lib.hid (Mod.refl _ _),Lib.hid (fun j hj=>by match j,hj with
    | 0,_=>rfl
    | 1,_=>rfl
    | 2,_=>rfl
    | 3,_=>rfl),Lib.hid (by simp)⟩
   case round =>
    obtain ⟨k,q,rfl,hk,HP,HM,HQ,HA⟩:=hrel
    by_cases hlt:k < l.length
    ·obtain ⟨b,o,rfl,hP⟩:=HD.out.2.2 (by omega)
     obtain ⟨n,hn⟩:∃n,l[k]? = some n:=⟨l[k],by simp [hlt]⟩
     have c0:=hP k n hn 0 _ rfl
     have hbl:=lt_of_cell c0
     have c0:=HM.out.cell (qb _ HST.out.bel c0) (by simp only at hbl ⊢;omega)
     simp only [Nat.mul_one,Nat.add_zero] at c0
     have hk0:(0:Int)≤(k:Int):=Int.natCast_nonneg k
     have hk4:(k:Int) < 4:=by omega
     have hkc:(k:Int)≤(c:Int):=by omega
     have ci:=HP.out.c k (by omega)
     have fi:=HP.out.f k (by omega)
     have HX:=Lib.hid hn
     have hwi:=zo n 0 9
     obtain ⟨r,hr⟩:∃r,btw n 0 9=r:=⟨_,rfl⟩
     rw [hr] at hwi
     have HR:=Lib.hid hr
     clear hP hn hr hbl
     cases r with
     | true =>
       go_wp2_with (go_at_call 72;(with_reducible refine (hwi _).mono ?_);rintro e w1 ⟨rfl,rfl⟩)
       go_roundw
       case rel =>
        refine ⟨k+1,q.set k n,rfl,by omega,Lib.hid (HP.out.put (by omega) n),Lib.hid (HM.out.put ⟨T+1,k,none⟩ _ rfl),Lib.hid (fun j hj=>?_),Lib.hid ?_⟩
        ·have e2:=HX.out
         by_cases e:j=k
         ·subst e
          rw [PastM.get_set _ hj,List.take_add_one,e2,List.getD_eq_getElem?_getD,List.getElem?_append_right (by rw [List.length_take];omega),List.length_take,Nat.min_eq_left (by omega),Nat.sub_self]
          rfl
         ·rw [PastM.get_set_ne _ (by omega) hj e,HQ.out j hj,List.getD_eq_getElem?_getD,List.getD_eq_getElem?_getD,List.getElem?_take,List.getElem?_take]
          by_cases h1:j < k
          ·rw [if_pos h1,if_pos (by omega)]
          ·rw [if_neg h1,if_neg (by omega)]
        ·rw [List.take_add_one,HX.out,List.all_append,HA.out]
         simpa using HR.out
       case measure=>simp [intOf];omega
     | false =>
       have hA:QX D l=1:=by
        unfold QX
        have hall:l.all (fun n=>btw n 0 9)=false:=by
         rw [List.all_eq_false]
         exact ⟨n,List.mem_of_getElem? HX.out,by rw [HR.out];simp⟩
        rw [if_neg (by simpa using HZ.out),if_neg (by simpa using HLG.out),if_pos hall]
       have HAA:=Lib.hid hA
       clear hA
       go_wp2_with (go_at_call 72;(with_reducible refine (hwi _).mono ?_);rintro e w1 ⟨rfl,rfl⟩)
       go_ret2
       exact ⟨Below.call hBW ((HST.out.mod (A':=fun _=>False) HM.out (fun b hb=>⟨hb,by omega,by omega⟩) (fun b hb=>hb.elim)).bel) (by omega),.inl ⟨by rw [HAA.out];decide,by rw [HAA.out];rfl⟩⟩
    ·obtain rfl:k=l.length:=by omega
     have hq:q=zK l:=qek (fun j hj=>by rw [HQ.out j hj,List.take_length])
     have hall:=HA.out
     rw [List.take_length] at hall
     subst hq
     have hA:QX D l=0:=by
      unfold QX
      rw [if_neg (by simpa using HZ.out),if_neg (by simpa using HLG.out),if_neg (by rw [hall];simp)]
     go_wp2
     obtain ⟨p0,p1,p2,p3⟩:=HP.out.four
     have hbT:=HP.out.lt
     have hstr:St D M (fun b=>b=T+1) W wr:=HST.out.mod HM.out (fun b hb=>⟨hb,by omega,by omega⟩) (fun b hb=>.inl hb)
     obtain ⟨d0,d1,d2,d3,d4,d5⟩:=H7.out.mod HM.out (show ¬ T=T+1 by omega)
     have hS:RG10 D M (fun b=>b=T+1) W wr ⟨T,0,none⟩ ⟨T,1,none⟩ ⟨T,2,none⟩ ⟨T,3,none⟩ ⟨T,4,none⟩ ⟨T,5,none⟩ ⟨T+1,0,none⟩ ⟨T+1,1,none⟩ ⟨T+1,2,none⟩ ⟨T+1,3,none⟩ (.slice D.ta D.ts.length D.tc) (.slice D.ga D.gs.length D.gc) (.slice D.oa D.os.length D.oc) (.slice D.ha D.hs.length D.hc) (.slice D.ca D.cs.length D.cc) (.map (some M)) (.int .i64 (zK l).a) (.int .i64 (zK l).b) (.int .i64 (zK l).c) (.int .i64 (zK l).d) wr:=⟨d0,d1,d2,d3,d4,d5,p0,p1,p2,p3,hstr,qi (Below.refl _ _)⟩
     have hok:=qel hall
     have hpl:=fun X (hX:St D M (fun b=>b=T+1) W X) (hg:wr.grownBy X (some M))=>jY hX (setOf (zK l)) (by simp [setOf]) hok (by simp [setOf]) (fun b hb=>by have:=hg.size;omega)
     have hlen:(qG D (setOf (zK l))).length≤20:=by rw [qX];exact HD.out.2.1.cs.1
     have has:=fun X=>zG (zK l) X
     obtain ⟨sv,hsv⟩:∃sv,qL (setOf (zK l))=sv:=⟨_,rfl⟩
     rw [hsv] at has
     simp only [hsv] at hpl
     unfold dm at hpl
     unfold pvP at has
     have HPL:=Lib.hid hpl
     have HAS:=Lib.hid has
     have HAA:=Lib.hid hA
     clear hpl has d0 d1 d2 d3 d4 d5 p0 p1 p2 p3 hA hall hstr hok hrV
     refine wp_region_held_drew (S:=(RG10 D M (fun b=>b=T+1) W wr ⟨T,0,none⟩ ⟨T,1,none⟩ ⟨T,2,none⟩ ⟨T,3,none⟩ ⟨T,4,none⟩ ⟨T,5,none⟩ ⟨T+1,0,none⟩ ⟨T+1,1,none⟩ ⟨T+1,2,none⟩ ⟨T+1,3,none⟩ (.slice D.ta D.ts.length D.tc) (.slice D.ga D.gs.length D.gc) (.slice D.oa D.os.length D.oc) (.slice D.ha D.hs.length D.hc) (.slice D.ca D.cs.length D.cc) (.map (some M)) (.int .i64 (zK l).a) (.int .i64 (zK l).b) (.int .i64 (zK l).c) (.int .i64 (zK l).d))) (by kernel_rfl) (by exact RGL.drew hS) (fun hHeld=>?_)
     (refine tk 0 ?_;try simp only [zs,Act.put])
     (refine tk 1 ?_;try simp only [zs,Act.put])
     refine wpAnyH_ready (rs:=[2]) (by kernel_rfl) (by simp) ?_;refine AllReadyH.cons rfl (fun K hK=>?_) AllReadyH.nil;go_simp;go_wp2_with (go_at_call 39;(with_reducible refine (HAS.out _).mono ?_);rintro e wa ⟨rfl,hB1⟩);refine hK.out _ _ (by exact RGL.call hHeld hB1) (fun hHeldN=>?_);clear hK K hHeld;have hHeld:=hHeldN;clear hHeldN;try simp only [zs,Act.put]
     refine wpAnyH_ready (rs:=[3]) (by kernel_rfl) (by simp) ?_;refine AllReadyH.cons rfl (fun K hK=>?_) AllReadyH.nil;go_simp;go_wp2_with (go_at_call 38;(with_reducible refine (HPL.out _ (RGL.st hHeld) (RGL.gr hHeld)).mono ?_);rintro e wb ⟨a2,c2,rfl,hlc2,hrow,hst1,hg1⟩);refine hK.out _ _ (by exact RGL.play hHeld hst1 hg1) (fun hHeldN=>?_);clear hK K hHeld;have hHeld:=hHeldN;clear hHeldN;try simp only [zs,Act.put]
     have hcl:=Xi (qG D (setOf (zK l))) a2 c2 (Nat.le_trans hlen (by omega)) (fun e=>by
      subst e
      by_cases h0:(qG D (setOf (zK l))).length=0
      ·exact h0
      ·exfalso
       obtain ⟨b9,o9,e9,-⟩:=hrow (by omega)
       cases e9) wb hrow
     unfold Zd at hcl
     refine wpAnyH_ready (rs:=[4]) (by kernel_rfl) (by simp) ?_;refine AllReadyH.cons rfl (fun K hK=>?_) AllReadyH.nil;go_simp;go_wp2_with (go_at_call 73;(with_reducible refine hcl.mono ?_);rintro e wc ⟨a3,c3,rfl,hlc3,how3,hnn3,hB4⟩);refine hK.out _ _ (by exact RGL.call hHeld hB4) (fun hHeldN=>?_);clear hK K hHeld;have hHeld:=hHeldN;clear hHeldN;try simp only [zs,Act.put]
     (refine tk 5 ?_;try simp only [zs,Act.put])
     (refine tk 6 ?_;try simp only [zs,Act.put])
     refine wpAnyH_done (by kernel_rfl) ?_ _;try simp only [zs,Act.put]
     have hst5:=RGL.st hHeld
     go_wp2
     go_ret2
     exact ⟨Below.call hBW hst5.bel (by omega),.inr ⟨HAA.out,a3,c3,rfl,hlc3,how3.rows⟩⟩
  ·have hA:QX D l=2:=by unfold QX;rw [if_neg (by simpa using HZ.out),if_pos hlg]
   have hbb:((l.length:Int) != (D.gs.length:Int))=true:=by simp;omega
   have hN:=Lib.hid hlg
   clear hlg
   go_enter (sf 27 f27),ntmps27
   go_upto_region 1 with fail
   try rw [hW]
   clear hW
   go_wp2_with (go_at_call 66;(with_reducible refine hopx.mono ?_);rintro e w1 ⟨M,rfl,hM,hg,hB1⟩;have hs1:=hB1.size;have hzz:w.heap.size < w1.heap.size:=(by omega);have q0:=qb _ hB1 k0;have q1:=qb _ hB1 k1;have q2:=qb _ hB1 k2;have q3:=qb _ hB1 k3;have q4:=qb _ hB1 k4)
   go_ret2
   exact ⟨Below.call hBW (by go_grown) (by omega),.inl ⟨by rw [hA];decide,by rw [hA];rfl⟩⟩
 ·have hopx:=hopb hz
  have hA:QX D l=checkN D:=by unfold QX;rw [if_pos hz]
  have hb:(checkN D != 0)=true:=by simpa using hz
  have HZ:=Lib.hid hz
  unfold dz at hopx
  unfold PlayP
  rw [hA]
  clear hop hopb hz hA
  generalize checkN D=r at *
  go_enter (sf 27 f27),ntmps27
  go_upto_region 1 with fail
  try rw [hW]
  clear hW
  go_wp2_with (go_at_call 66;(with_reducible refine hopx.mono ?_);rintro e w1 ⟨rfl,hB1⟩;have hs1:=hB1.size)
  go_ret2
  exact ⟨Below.call hBW (by go_grown) (by omega),.inl ⟨HZ.out,rfl⟩⟩
theorem qbi (D:DayM) (s:SetM) (took:List WayM) (c:CalM):∀n k,(je D s took c n k).1 < (k+n:Nat)∧-1≤(je D s took c n k).1
 | 0,k=>by unfold je;simp only;omega
 | n+1,k=>by
   unfold je
   split
   ·have:=qbi D s took c n (k+1);omega
   ·simp only;omega
theorem Jn (D:DayM) (s:SetM):∀(cs:List CalM) (i:Nat) (took:List WayM) (k:Nat) (r:Int) (c:CalM),(zW D s i took cs)[k]? = some r→cs[k]? = some c→r < (qJ D c).ws.length∧-2≤r
 | [],i,took,k,r,c,h,hc=>by simp at hc
 | x :: cs,i,took,0,r,c,h,hc=>by
   obtain rfl:x=c:=by simpa using hc
   rw [zW] at h
   obtain rfl:(Za D s i took x).1=r:=by simpa using h
   unfold Za
   split
   ·simp only;omega
   ·have:=qbi D s took x (qJ D x).ws.length 0;omega
 | x :: cs,i,took,k+1,r,c,h,hc=>by
   rw [zW] at h
   exact Jn D s cs (i+1) _ k r c (by simpa using h) (by simpa using hc)
theorem playN_lt (D:DayM) (s:SetM) {k:Nat} {r:Int} {c:CalM} (h:(qG D s)[k]? = some r) (hc:D.cs[k]? = some c):r < (qJ D c).ws.length∧-2≤r:=Jn D s D.cs 0 [] k r c h hc
def Jw (D:DayM) (c:CalM) (r:Int):WayM:=if r < 0 then Yz else (qJ D c).ws.getD r.toNat Yz
def Zb (D:DayM) (R:List Int):List WayM:=(D.cs.zip R).map fun x=>Jw D x.1 x.2
theorem qeM {D:DayM} {R:List Int} {k:Nat} {r:Int} {c:CalM} (h:R[k]? = some r) (hc:D.cs[k]? = some c):(Zb D R)[k]? = some (Jw D c r):=by
 unfold Zb
 rw [List.getElem?_map,List.getElem?_zip_eq_some.2 (show D.cs[k]? = some (c,r).1∧R[k]? = some (c,r).2 from ⟨hc,h⟩)]
 rfl
theorem QA {D:DayM} {R:List Int} (h:R.length=D.cs.length):(Zb D R).length=D.cs.length:=by unfold Zb;rw [List.length_map,List.length_zip,h,Nat.min_self]
theorem qei (D:DayM) (c:CalM) (x:WayM) (hx:x∈(qJ D c).ws):∃o∈D.os,x∈o.ws:=by
 unfold qJ at hx
 cases hf:D.os.find? (zY c) with
 | none=>rw [hf] at hx;cases hx
 | some o=>rw [hf] at hx;exact ⟨o,List.mem_of_find?_eq_some hf,hx⟩
theorem tookW_or (D:DayM) (c:CalM) (r:Int):Jw D c r=Yz∨∃o∈D.os,Jw D c r∈o.ws:=by
 unfold Jw
 split
 ·exact .inl rfl
 ·rw [List.getD_eq_getElem?_getD]
  cases e:(qJ D c).ws[r.toNat]? with
  | none=>exact .inl rfl
  | some x=>exact .inr (by simpa using qei D c x (List.mem_of_getElem? e))
theorem qbn {D:DayM} {R:List Int} {x:WayM} (h:x∈Zb D R):x=Yz∨∃o∈D.os,x∈o.ws:=by
 obtain ⟨y,_,rfl⟩:=List.mem_map.1 h
 exact tookW_or D y.1 y.2
theorem qh.nil {α:Type} (w:World) (k:Nat) (enc:α→List Value) (a:Option Addr):qh w k enc a []:=fun h=>by simp at h
def qdj (D:DayM) (g:Nat) (t:Int) (p:PastM):Int:=ZZ D p (Zb D (qG D (setOf p))) g t
theorem infoWay:(qj.info? 31).map (fun i=>(i.zero,i.size,i.bytes))=some (some (.slice none 0 0),1,24):=by kernel_rfl
theorem qeU (x:WayM):∀u∈[wvW x],u.oneCell'=true:=by intro u hu;simp at hu;subst hu;rfl
theorem Jp {w:World} {base:Nat} {e:TypeId} {v:Value} {n:Nat} {l:List WayM} (h:w.ownsRow base e 1 v n (l.map wvW)):∃a c,v=.slice a n c∧n≤c∧qh w 1 xY a l:=by
 obtain ⟨a,c,e,hl,r⟩:=Qq h
 refine ⟨a,c,e,hl,fun hn=>?_⟩
 obtain ⟨x,hx⟩:∃x,l[0]? = some x:=⟨l[0],by simp⟩
 obtain ⟨g,rfl,_⟩:=r 0 (wvW x) (by simp [hx])
 refine ⟨g,0,rfl,fun i y hy j v hv=>?_⟩
 obtain ⟨g',e',h'⟩:=r i (wvW y) (by simp [hy])
 cases e'
 cases j with
 | zero=>simp [xY] at hv;subst hv;simpa [wvW] using h'
 | succ j=>simp [xY] at hv
theorem ordOf_in {D:DayM} {c:CalM} (h:0 < (qJ D c).ws.length):qJ D c∈D.os:=by
 unfold qJ at h ⊢
 cases hf:D.os.find? (zY c) with
 | none=>rw [hf] at h;simp at h
 | some o=>exact List.mem_of_find?_eq_some hf
set_option maxHeartbeats 4000000 in
set_option maxRecDepth 100000 in
theorem qdi (D:DayM) (M:Nat) (A:Nat→Prop) (w0 w:World) (h:St D M A w0 w) (hA:∀b,A b→b < w.heap.size) (db gb tb:Nat) (hd:B6 w db (.slice D.ta D.ts.length D.tc) (.slice D.ga D.gs.length D.gc) (.slice D.oa D.os.length D.oc) (.slice D.ha D.hs.length D.hc) (.slice D.ca D.cs.length D.cc) (.map (some M)))
 (g:Nat) (hg4:g < 4) (t:Int) (hgc:w.cell? ⟨gb,0,none⟩=some (.int .i64 g)) (htc:w.cell? ⟨tb,0,none⟩=some (.int .i64 t)) (p:PastM) (hp:p.ok) :
 Calls qj 49 #[pvP p,pt db,pt gb,pt tb] w fun e w'=>e=.returned (.int .i64 (qdj D g t p))∧St D M A w0 w'∧w.grownBy w' (some M):=by
 have hpl:=fun W (hS:St D M A w0 W) (hg:w.grownBy W (some M))=>jY hS (setOf p) (by simp [setOf]) hp (by simp [setOf]) (fun b hb=>Nat.lt_of_lt_of_le (hA b hb) hg.size)
 have hlen:(qG D (setOf p)).length=D.cs.length:=qX _ _
 have hRl:=fun (k:Nat) (r:Int) (c:CalM) (h1:(qG D (setOf p))[k]? = some r) (h2:D.cs[k]? = some c)=>playN_lt D (setOf p) h1 h2
 have hcl:=h.ok.cs
 have has:=fun W=>zG p W
 have hml:=h.kn.lt
 unfold qdj
 generalize qG D (setOf p)=R at *
 generalize setOf p=s at *
 obtain ⟨sv,hsv⟩:∃sv,qL s=sv:=⟨_,rfl⟩
 rw [hsv] at has
 simp only [hsv] at hpl
 have HP:=Lib.hid hpl
 have HAS:=Lib.hid has
 have HST:=Lib.hid h
 have HRL:=Lib.hid hRl
 have HOK:=Lib.hid hp
 clear hpl has h hA hp hRl
 unfold dm at HP
 unfold pvP at HAS ⊢
 obtain ⟨pa,pb,pc,pd⟩:=p
 simp only at HAS
 have hdl:=hd.lt
 have hgl:=lt_of_cell hgc
 have htl:=lt_of_cell htc
 simp only at hgl htl
 have HD:=Lib.hid hd
 obtain ⟨d0,d1,d2,d3,d4,d5⟩:=hd
 go_enter (sf 49 f49),ntmps49
 go_upto_region 2 with fail
 obtain ⟨W,hW⟩:∃W,w.alloc (Obj.cells #[.int .i64 pa,.int .i64 pb,.int .i64 pc,.int .i64 pd] 82)=W:=⟨_,rfl⟩
 have hBW:Below w.heap.size w W:=by subst hW;go_grown
 have hS:RG10 D M A w0 W ⟨db,0,none⟩ ⟨db,1,none⟩ ⟨db,2,none⟩ ⟨db,3,none⟩ ⟨db,4,none⟩ ⟨db,5,none⟩ ⟨w.heap.size,0,none⟩ ⟨w.heap.size,1,none⟩ ⟨w.heap.size,2,none⟩ ⟨w.heap.size,3,none⟩ (.slice D.ta D.ts.length D.tc) (.slice D.ga D.gs.length D.gc) (.slice D.oa D.os.length D.oc) (.slice D.ha D.hs.length D.hc) (.slice D.ca D.cs.length D.cc) (.map (some M)) (.int .i64 pa) (.int .i64 pb) (.int .i64 pc) (.int .i64 pd) W:=by
  subst hW
  exact ⟨by go_cell,by go_cell,by go_cell,by go_cell,by go_cell,by go_cell,by go_cell,by go_cell,by go_cell,by go_cell,HST.out.keep hBW,qi (Below.refl _ _)⟩
 rw [hW]
 clear hW
 refine wp_region_held_drew (S:=(RG10 D M A w0 W ⟨db,0,none⟩ ⟨db,1,none⟩ ⟨db,2,none⟩ ⟨db,3,none⟩ ⟨db,4,none⟩ ⟨db,5,none⟩ ⟨w.heap.size,0,none⟩ ⟨w.heap.size,1,none⟩ ⟨w.heap.size,2,none⟩ ⟨w.heap.size,3,none⟩ (.slice D.ta D.ts.length D.tc) (.slice D.ga D.gs.length D.gc) (.slice D.oa D.os.length D.oc) (.slice D.ha D.hs.length D.hc) (.slice D.ca D.cs.length D.cc) (.map (some M)) (.int .i64 pa) (.int .i64 pb) (.int .i64 pc) (.int .i64 pd))) (by kernel_rfl) (by exact RGL.drew hS) (fun hHeld=>?_)
 (refine tk 0 ?_;try simp only [zs,Act.put])
 (refine tk 1 ?_;try simp only [zs,Act.put])
 (refine tk 5 ?_;try simp only [zs,Act.put])
 refine wpAnyH_ready (rs:=[2]) (by kernel_rfl) (by simp) ?_;refine AllReadyH.cons rfl (fun K hK=>?_) AllReadyH.nil;go_simp;go_wp2_with (go_at_call 39;(with_reducible refine (HAS.out _).mono ?_);rintro e w1 ⟨rfl,hB1⟩);refine hK.out _ _ (by exact RGL.call hHeld hB1) (fun hHeldN=>?_);clear hK K hHeld;have hHeld:=hHeldN;clear hHeldN;try simp only [zs,Act.put]
 refine wpAnyH_ready (rs:=[3]) (by kernel_rfl) (by simp) ?_;refine AllReadyH.cons rfl (fun K hK=>?_) AllReadyH.nil;go_simp;go_wp2_with (go_at_call 38;(with_reducible refine (HP.out _ (RGL.st hHeld) (ql (qi hBW) (RGL.gr hHeld))).mono ?_);rintro e V ⟨a,c,rfl,hlc,hrow,hst1,hg1⟩);refine hK.out _ _ (by exact RGL.play hHeld hst1 hg1) (fun hHeldN=>?_);clear hK K hHeld;have hHeld:=hHeldN;clear hHeldN;try simp only [zs,Act.put]
 (refine tk 4 ?_;try simp only [zs,Act.put])
 refine wpAnyH_done (by kernel_rfl) ?_ _;try simp only [zs,Act.put]
 have hgf:=ql (qi hBW) (RGL.gr hHeld)
 obtain ⟨e0,e1,e2,e3,e4,e5,p0,p1,p2,p3,-,-⟩:=id hHeld
 have hst:=RGL.st hHeld
 have hgV:=HST.out.cell hgf hgc
 have htV:=HST.out.cell hgf htc
 have hzV:w.heap.size < V.heap.size:=by have:=lt_of_cell p0;simpa using this
 have HPB:=Lib.hid (And.intro p0 (And.intro p1 (And.intro p2 (And.intro p3 (And.intro hgV htV)))))
 have HE:=Lib.hid (show B6 V db (.slice D.ta D.ts.length D.tc) (.slice D.ga D.gs.length D.gc) (.slice D.oa D.os.length D.oc) (.slice D.ha D.hs.length D.hc) (.slice D.ca D.cs.length D.cc) (.map (some M)) from ⟨e0,e1,e2,e3,e4,e5⟩)
 have HR:=Lib.hid hrow
 have HV:=Lib.hid (And.intro hst hgf)
 obtain ⟨i0,hi,hz0,hz1,hz2⟩:=info_parts infoWay
 clear hrow hst hst1 hg1 hgf hHeld hS p0 p1 p2 p3 hgV htV e0 e1 e2 e3 e4 e5 hB1 d0 d1 d2 d3 d4 d5 HD hgc htc
 go_wp2
 go_loopw [15,6] (fun i u wr=>∃(k:Nat) (q:Value),i=.int .i64 k∧q=u∧k≤R.length∧Hid (Below V.heap.size V wr)∧Hid (wr.ownsRow V.heap.size 31 1 q k (((Zb D R).take k).map wvW))) (fun i _ _=>R.length - (intOf i).toNat)
 case atStart=>exact ⟨0,_,rfl,rfl,Nat.zero_le _,Lib.hid (Below.refl _ _),Lib.hid (World.ownsRow_nil _ _ _ _)⟩
 case round =>
  obtain ⟨k,q,rfl,rfl,hk,HB,HO⟩:=hrel
  have hsV:=HB.out.size
  by_cases hlt:k < R.length
  ·obtain ⟨b,o,rfl,hP⟩:=HR.out (by omega)
   obtain ⟨r,hr⟩:∃r,R[k]? = some r:=⟨R[k],by simp [hlt]⟩
   obtain ⟨y,hy⟩:∃y,D.cs[k]? = some y:=⟨D.cs[k]'(by omega),by simp⟩
   have c0:=qb _ HB.out (hP k r hr 0 _ rfl)
   simp only [Nat.mul_one,Nat.add_zero] at c0
   have hk0:(0:Int)≤(k:Int):=Int.natCast_nonneg k
   have hkc:(k:Int)≤(c:Int):=by omega
   have hkl:(k:Int) < (D.cs.length:Int):=by omega
   have hkd:(k:Int)≤(D.cc:Int):=by have:=HV.out.1.sm.cs.2;omega
   obtain ⟨hrl,hr2⟩:=HRL.out k r y hr hy
   have HX:=Lib.hid (And.intro hr hy)
   have hT:(Zb D R)[k]? = some (Jw D y r):=qeM hr hy
   have HT:=Lib.hid hT
   clear hP hr hT
   by_cases hneg:r < 0
   ·have hb:¬ 0≤r:=by omega
    go_wp2_with (at_builtin;refine wpList_append_own_at _ rfl (.tmp 33) (.tmp 35) 49 rfl V.heap.size 31 i0 (.slice none 0 0) 1 24 ((qy _).trans Tryz.underlying49) hi hz0 hz1 hz2 rfl (by decide) _ _ _ rfl (HO.out.alloc _) ⟨wr.heap.size,0,none⟩ 1 1 [.slice none 0 0] rfl rfl (cell_one_new _ _ _) (qeU Yz) (by unfold maxLen;omega) (by omega) (by simp;omega) ?_;intro v1 w3 n1 g1 nil1 at1)
    have g2:(wr.alloc (.cells #[.slice none 0 0] 31)).grownBy w3 q.ownBlock:=g1
    have hqb:∀j,q.ownBlock=some j→V.heap.size≤j:=fun j e=>(HO.out.lt j e).1
    have hBn:Below V.heap.size V w3:=((HB.out.trans ((Below.refl _ wr).alloc (by have:=HB.out.size;omega) _)).grown g2 (by simp;omega) hqb)
    go_roundw
    case rel =>
     refine ⟨k+1,v1,rfl,rfl,by omega,Lib.hid hBn,Lib.hid ?_⟩
     have e:((Zb D R).take (k+1)).map wvW=((Zb D R).take k).map wvW ++ [.slice none 0 0]:=by
      rw [List.take_add_one,HT.out,List.map_append]
      unfold Jw;rw [if_pos hneg];rfl
     rw [e];exact n1
    case measure=>simp [intOf];omega
   ·obtain ⟨j,rfl⟩:=Int.eq_ofNat_of_zero_le (show 0≤r by omega)
    have hb:(0:Int)≤(j:Int):=Int.natCast_nonneg j
    have hjl:(j:Int) < ((qJ D y).ws.length:Int):=hrl
    have hoin:=ordOf_in (D:=D) (c:=y) (by omega)
    have hjc:(j:Int)≤((qJ D y).c:Int):=by have:=(HV.out.1.sm.ws _ hoin).2;omega
    obtain ⟨x,hxj⟩:∃x,(qJ D y).ws[j]? = some x:=⟨(qJ D y).ws[j]'(by omega),by simp⟩
    have HXJ:=Lib.hid hxj
    have hcs:=(HV.out.1.keep HB.out).day.cs
    obtain ⟨cb,co,hca,hC⟩:=hcs (by show 1≤D.cs.length;omega)
    have y0:=hC k y hy 0 _ rfl
    have y1:=hC k y hy 1 _ rfl
    have y2:=hC k y hy 2 _ rfl
    have y3:=hC k y hy 3 _ rfl
    have y4:=hC k y hy 4 _ rfl
    obtain ⟨z0,z1,z2,z3,z4,z5⟩:=HE.out.keep HB.out
    rw [hca] at z4
    have hS:RH11 wr ⟨db,0,none⟩ ⟨db,1,none⟩ ⟨db,2,none⟩ ⟨db,3,none⟩ ⟨db,4,none⟩ ⟨db,5,none⟩ ⟨cb,co+k * 5,none⟩ ⟨cb,co+k * 5+1,none⟩ ⟨cb,co+k * 5+2,none⟩ ⟨cb,co+k * 5+3,none⟩ ⟨cb,co+k * 5+4,none⟩ (.slice D.ta D.ts.length D.tc) (.slice D.ga D.gs.length D.gc) (.slice D.oa D.os.length D.oc) (.slice D.ha D.hs.length D.hc) (.slice (some ⟨cb,co,none⟩) D.cs.length D.cc) (.map (some M)) (.int .i64 y.fr) (.int .i64 y.toT) (.int .i64 y.co) (.int .i64 y.cl) (.int .i64 y.se) wr:=⟨z0,z1,z2,z3,z4,z5,y0,y1,y2,y3,y4,Below.refl _ _⟩
    have hwo:=fun X (hX:Below wr.heap.size wr X)=>jG D (some M) y X ((HV.out.1.keep HB.out).keep hX).day HV.out.1.sm
    unfold dm cvC YE at hwo
    rw [hca] at hwo
    have HWO:=Lib.hid hwo
    clear hwo hC hcs y0 y1 y2 y3 y4 z0 z1 z2 z3 z4 z5 hxj hca
    go_upto_region 7 with fail
    refine wp_region_held_drew (S:=(RH11 wr ⟨db,0,none⟩ ⟨db,1,none⟩ ⟨db,2,none⟩ ⟨db,3,none⟩ ⟨db,4,none⟩ ⟨db,5,none⟩ ⟨cb,co+k * 5,none⟩ ⟨cb,co+k * 5+1,none⟩ ⟨cb,co+k * 5+2,none⟩ ⟨cb,co+k * 5+3,none⟩ ⟨cb,co+k * 5+4,none⟩ (.slice D.ta D.ts.length D.tc) (.slice D.ga D.gs.length D.gc) (.slice D.oa D.os.length D.oc) (.slice D.ha D.hs.length D.hc) (.slice (some ⟨cb,co,none⟩) D.cs.length D.cc) (.map (some M)) (.int .i64 y.fr) (.int .i64 y.toT) (.int .i64 y.co) (.int .i64 y.cl) (.int .i64 y.se))) (by kernel_rfl) (by exact RHL.drew hS) (fun hHeld=>?_)
    (refine tk 0 ?_;try simp only [zs,Act.put])
    (refine tk 1 ?_;try simp only [zs,Act.put])
    (refine tk 2 ?_;try simp only [zs,Act.put])
    (refine tk 3 ?_;try simp only [zs,Act.put])
    (refine tk 4 ?_;try simp only [zs,Act.put])
    (refine tk 5 ?_;try simp only [zs,Act.put])
    (refine tk 6 ?_;try simp only [zs,Act.put])
    (refine tk 8 ?_;try simp only [zs,Act.put])
    refine wpAnyH_ready (rs:=[7]) (by kernel_rfl) (by simp) ?_;refine AllReadyH.cons rfl (fun K hK=>?_) AllReadyH.nil;go_simp;go_wp2_with (go_at_call 50;(with_reducible refine (HWO.out _ (RHL.bel hHeld)).mono ?_);rintro e X ⟨rfl,hB7⟩);refine hK.out _ _ (by exact RHL.call hHeld hB7) (fun hHeldN=>?_);clear hK K hHeld;have hHeld:=hHeldN;clear hHeldN;try simp only [zs,Act.put]
    have hBr:=RHL.bel hHeld
    obtain ⟨wb,wo,hwa,hW2⟩:=(((HV.out.1.keep HB.out).keep hBr).day.ws _ hoin) (by omega)
    have c9:=hW2 j x HXJ.out 0 _ rfl
    simp only [Nat.mul_one,Nat.add_zero] at c9
    rw [hwa]
    clear hwa
    (refine tk 9 ?_;try simp only [zs,Act.put])
    (refine wpAnyH_ready (rs:=[10]) (by kernel_rfl) (by simp) ?_;refine AllReadyH.cons rfl (fun K hK=>?_) AllReadyH.nil;go_simp;refine hK.out _ _ (by exact hHeld) (fun hHeldN=>?_);clear hK K hHeld;have hHeld:=hHeldN;clear hHeldN;try simp only [zs,Act.put])
    (refine tk 11 ?_;try simp only [zs,Act.put])
    refine wpAnyH_done (by kernel_rfl) ?_ _;try simp only [zs,Act.put]
    have hBx:=Below.call HB.out hBr (by omega)
    have ow:=yn HO.out hBr
    have hszX:=hBr.size
    clear hW2 hS hHeld
    go_wp2_with (at_builtin;refine wpList_append_own_at _ rfl (.tmp 33) (.tmp 35) 49 rfl V.heap.size 31 i0 (.slice none 0 0) 1 24 ((qy _).trans Tryz.underlying49) hi hz0 hz1 hz2 rfl (by decide) _ _ _ rfl (ow.alloc _) ⟨X.heap.size,0,none⟩ 1 1 [.slice x.a x.l.length x.c] rfl rfl (cell_one_new _ _ _) (qeU x) (by unfold maxLen;omega) (by omega) (by simp;omega) ?_;intro v1 w3 n1 g1 nil1 at1)
    have g2:(X.alloc (.cells #[.slice x.a x.l.length x.c] 31)).grownBy w3 q.ownBlock:=g1
    have hqb:∀j,q.ownBlock=some j→V.heap.size≤j:=fun j e=>(HO.out.lt j e).1
    have hBn:Below V.heap.size V w3:=((hBx.trans ((Below.refl _ X).alloc (by have:=hBx.size;omega) _)).grown g2 (by simp;omega) hqb)
    go_roundw
    case rel =>
     have e:((Zb D R).take (k+1)).map wvW=((Zb D R).take k).map wvW ++ [.slice x.a x.l.length x.c]:=by
      rw [List.take_add_one,HT.out,List.map_append]
      unfold Jw;rw [if_neg (by omega)];simp [HXJ.out,wvW,List.getD_eq_getElem?_getD]
     refine ⟨k+1,v1,rfl,rfl,by omega,Lib.hid hBn,Lib.hid (by rw [e];exact n1)⟩
    case measure=>simp [intOf];omega
  ·obtain rfl:k=R.length:=by omega
   have hO:=HO.out
   rw [List.take_of_length_le (by rw [QA hlen];omega)] at hO
   obtain ⟨ta,tc,rfl,htc,htr⟩:=Jp hO
   have hsm:=HV.out.1.sm
   have hday:=(HV.out.1.keep HB.out).day
   have hfr:=qaU D (some M) ⟨pa,pb,pc,pd⟩ (Zb D R) ta tc g hg4 t wr hday hsm ⟨by rw [QA hlen];exact Nat.le_refl _,hsm.cs.1,by rw [QA hlen];omega,fun x hx=>by
    rcases qbn hx with rfl | ⟨o,ho,hxo⟩
    ·exact ⟨by decide,by decide⟩
    ·exact hsm.ls o ho x hxo,HV.out.1.ok.hs,HOK.out⟩ htr (fun x hx=>by
    rcases qbn hx with rfl | ⟨o,ho,hxo⟩
    ·exact qh.nil _ _ _ _
    ·exact hday.ls o ho x hxo)
   unfold dm at hfr
   rw [QA hlen] at hfr
   obtain ⟨z0,z1,z2,z3,z4,z5⟩:=HE.out.keep HB.out
   obtain ⟨p0,p1,p2,p3,hgV,htV⟩:=HPB.out
   have p0:=qb _ HB.out p0
   have p1:=qb _ HB.out p1
   have p2:=qb _ HB.out p2
   have p3:=qb _ HB.out p3
   have hgV:=qb _ HB.out hgV
   have htV:=qb _ HB.out htV
   clear hO htr hday hsm HO
   go_wp2_with (go_at_call 51;(with_reducible refine hfr.mono ?_);rintro e w2 ⟨rfl,hB2⟩)
   go_ret
   have hBf:=Below.call HB.out hB2 (by omega)
   exact ⟨rfl,HV.out.1.keep hBf,ql HV.out.2 (qi hBf)⟩
def JX (D:DayM) (g t:Int):Int:=if qU g D.gs.length≠0 then qU g D.gs.length else if btw t 0 99=false then 1 else 0
set_option maxHeartbeats 1000000 in
set_option maxRecDepth 100000 in
theorem qdh (D:DayM) (m:Option Nat) (gb tb:Nat) (g t:Int) (w:World) (hg:w.cell? ⟨gb,0,none⟩=some (.int .i64 g)) (ht:w.cell? ⟨tb,0,none⟩=some (.int .i64 t)) (hl:D.gs.length≤20) :
 Calls qj 46 #[dm D m,pt gb,pt tb] w fun e w'=>e=.returned (.int .i64 (JX D g t))∧Below w.heap.size w w':=by
 have hix:=fun W=>Qk g D.gs.length W (by omega) (by omega)
 have hti:=fun W=>xA t W
 unfold dm JX
 generalize Value.slice D.ta D.ts.length D.tc=x0 at *
 generalize Value.slice D.oa D.os.length D.oc=x2 at *
 generalize Value.slice D.ha D.hs.length D.hc=x3 at *
 generalize Value.slice D.ca D.cs.length D.cc=x4 at *
 have hgb:=lt_of_cell hg
 have htb:=lt_of_cell ht
 simp only at hgb htb
 generalize qU g D.gs.length=r at *
 by_cases hr:r=0
 ·subst hr
  rw [if_neg (by simp)]
  obtain ⟨q,hq⟩:∃q,btw t 0 99=q:=⟨_,rfl⟩
  rw [hq] at hti ⊢
  clear hq
  cases q with
  | true =>
    rw [if_neg (by simp)]
    go_enter (sf 46 f46),ntmps46
    go_wp2_with (first | (go_at_call 35;(with_reducible refine (hix _).mono ?_);rintro e w1 ⟨rfl,rfl⟩) | (go_at_call 47;(with_reducible refine (hti _).mono ?_);rintro e w1 ⟨rfl,rfl⟩))
    go_ret
    exact ⟨rfl,by go_grown⟩
  | false =>
    rw [if_pos rfl]
    go_enter (sf 46 f46),ntmps46
    go_wp2_with (first | (go_at_call 35;(with_reducible refine (hix _).mono ?_);rintro e w1 ⟨rfl,rfl⟩) | (go_at_call 47;(with_reducible refine (hti _).mono ?_);rintro e w1 ⟨rfl,rfl⟩))
    go_ret
    exact ⟨rfl,by go_grown⟩
 ·rw [if_pos hr]
  have hb:(r != 0)=true:=by simpa using hr
  clear hr
  go_enter (sf 46 f46),ntmps46
  go_wp2_with (go_at_call 35;(with_reducible refine (hix _).mono ?_);rintro e w1 ⟨rfl,rfl⟩)
  go_ret
  exact ⟨rfl,by go_grown⟩
abbrev qbM (D:DayM) (g:Nat) (t:Int):List Int:=zm ((qo D).map fun p=>qdj D g t p)
set_option maxHeartbeats 4000000 in
set_option maxRecDepth 100000 in
theorem free_top (D:DayM) (w:World) (h:DayAt w D) (hs:DaySm D) (hG:Globs w) (g t:Int):Calls qj 14 #[dv D,.int .i64 g,.int .i64 t] w (qcB (zf D (JX D g t)) (qbM D g.toNat t) w):=by
 obtain ⟨W,hW⟩:∃W,(((w.alloc (Obj.cells #[.slice D.ta D.ts.length D.tc,.slice D.ga D.gs.length D.gc,.slice D.oa D.os.length D.oc,.slice D.ha D.hs.length D.hc,.slice D.ca D.cs.length D.cc] 28)).alloc (Obj.cells #[.int .i64 g] 3)).alloc (Obj.cells #[.int .i64 t] 3)).alloc (Obj.cells #[.int .i64 0,.int .i64 0] 40)=W:=⟨_,rfl⟩
 have hBW:Below w.heap.size w W:=by subst hW;go_grown
 have hsW:W.heap.size=w.heap.size+4:=by subst hW;simp
 have k0:W.cell? ⟨w.heap.size,0,none⟩=some (.slice D.ta D.ts.length D.tc):=by subst hW;go_cell
 have k1:W.cell? ⟨w.heap.size,1,none⟩=some (.slice D.ga D.gs.length D.gc):=by subst hW;go_cell
 have k2:W.cell? ⟨w.heap.size,2,none⟩=some (.slice D.oa D.os.length D.oc):=by subst hW;go_cell
 have k3:W.cell? ⟨w.heap.size,3,none⟩=some (.slice D.ha D.hs.length D.hc):=by subst hW;go_cell
 have k4:W.cell? ⟨w.heap.size,4,none⟩=some (.slice D.ca D.cs.length D.cc):=by subst hW;go_cell
 have kg:W.cell? ⟨w.heap.size+1,0,none⟩=some (.int .i64 g):=by subst hW;go_cell
 have kt:W.cell? ⟨w.heap.size+1+1,0,none⟩=some (.int .i64 t):=by subst hW;go_cell
 have b0:W.cell? ⟨w.heap.size+1+1+1,0,none⟩=some (.int .i64 0):=by subst hW;go_cell
 have b1:W.cell? ⟨w.heap.size+1+1+1,1,none⟩=some (.int .i64 0):=by subst hW;go_cell
 have g0:W.frozen? ⟨w.heap.size+1+1+1,0,none⟩=false:=by subst hW;go_cell
 have g1:W.frozen? ⟨w.heap.size+1+1+1,1,none⟩=false:=by subst hW;go_cell
 have hask:=yG D W (h.keep hBW) hs (hG.keep hBW) 46 #[pt (w.heap.size+1),pt (w.heap.size+1+1)] (cE 46 (by decide +kernel)) (JX D g t) (fun M V hM hB=>qdh D (some M) _ _ g t V (qb _ hB kg) (qb _ hB kt) hs.gs.1)
 have hdv:dv D=.agg #[.slice D.ta D.ts.length D.tc,.slice D.ga D.gs.length D.gc,.slice D.oa D.os.length D.oc,.slice D.ha D.hs.length D.hc,.slice D.ca D.cs.length D.cc]:=rfl
 rw [hdv] at hask ⊢
 have HD:=Lib.hid (And.intro h hs)
 unfold qcB
 clear h hs hG hdv
 obtain ⟨al,hal⟩:∃al,JX D g t=al:=⟨_,rfl⟩
 rw [hal] at hask ⊢
 by_cases ha:zf D al=0
 ·have hz:=yf ha
  have hix:0≤g∧g < D.gs.length:=by
   have h1:=hz.2
   rw [← hal] at h1
   unfold JX at h1
   by_cases h2:qU g D.gs.length=0
   ·exact QQ h2
   ·rw [if_pos h2] at h1;exact absurd h1 h2
  have hok:=hask.mono (fun e w' h=>h.ok ha)
  have HA:=Lib.hid ha
  have HZ:=Lib.hid hz.1
  clear hask ha hz hal
  obtain ⟨k,rfl⟩:=Int.eq_ofNat_of_zero_le hix.1
  have hk4:k < 4:=by have:=(zF D HZ.out).gs;omega
  go_enter (sf 14 f14),ntmps14
  go_upto_region 1 with fail
  try rw [hW]
  clear hW
  unfold dm at hok
  go_upto_region 4 with (go_at_call 33;(with_reducible refine hok.mono ?_);rintro e w1 ⟨M,a,c,rfl,hpos,hlc,hrow,hfr,hst⟩;have hs1:=hst.bel.size)
  have hBV:=(Below.refl w1.heap.size w1).alloc (Nat.le_refl _) (Obj.cells #[.slice D.ta D.ts.length D.tc,.slice D.ga D.gs.length D.gc,.slice D.oa D.os.length D.oc,.slice D.ha D.hs.length D.hc,.slice D.ca D.cs.length D.cc,.map (some M)] 74)
  have h7:=B6.new w1 (.slice D.ta D.ts.length D.tc) (.slice D.ga D.gs.length D.gc) (.slice D.oa D.os.length D.oc) (.slice D.ha D.hs.length D.hc) (.slice D.ca D.cs.length D.cc) (.map (some M)) 74
  have hML:=hst.kn.lt
  obtain ⟨T,hT⟩:∃T,w1.heap.size=T:=⟨_,rfl⟩
  obtain ⟨V,hV⟩:∃V,w1.alloc (Obj.cells #[.slice D.ta D.ts.length D.tc,.slice D.ga D.gs.length D.gc,.slice D.oa D.os.length D.oc,.slice D.ha D.hs.length D.hc,.slice D.ca D.cs.length D.cc,.map (some M)] 74)=V:=⟨_,rfl⟩
  rw [hV] at h7 hBV ⊢
  have hsV:=hst.keep hBV
  have hrV:=hrow.keep hBV
  rw [hT] at h7 hML ⊢
  have kgV:=qb _ hsV.bel kg
  have ktV:=qb _ hsV.bel kt
  have hga:=QO D M (fun _=>False) W V hsV (fun b hb=>hb.elim) 49 #[pt T,pt (w.heap.size+1),pt (w.heap.size+1+1)] (cE 49 (by decide +kernel)) (fun p=>qdj D k t p) (qo D) a c hpos (by have:=qN HZ.out;omega) hlc hrV (fun x hx A V2 hS hA hg=>qdi D M A W V2 hS hA T (w.heap.size+1) (w.heap.size+1+1) (h7.mod (Mod.grown hg (fun b e=>(Option.some.inj e).symm)) (show ¬ T=M by omega)) k hk4 t (hsV.cell hg kgV) (hsV.cell hg ktV) x (jA HZ.out x hx))
  have hll:1≤(qbM D k t).length∧(qbM D k t).length≤1000:=⟨jT (by rw [List.length_map];exact hpos),by have:=qN HZ.out;have h9:=QN ((qo D).map fun p=>qdj D k t p);rw [List.length_map] at h9;exact Nat.le_trans h9 (by omega)⟩
  have HF:=Lib.hid (And.intro hBW hsV)
  clear h7 hBV hV hrow hrV hst hok hfr k0 k1 k2 k3 k4 kg kt kgV ktV
  go_wp2_with (first | (go_at_call 36;(with_reducible refine hga.mono ?_);rintro e w2 ⟨a2,c2,rfl,hl2,hr2,hf2,hst2,hg2⟩) | (go_at_call 48;(with_reducible refine (YK (qbM D k t) a2 c2 hll.1 hl2 hll.2 _ hr2).mono ?_);rintro e w3 ⟨rfl,hB3⟩;have hB4:=Below.call hst2.bel hB3 (by have:=hst2.bel.size;omega);have c0:=qb _ hB4 b0;have c1:=qb _ hB4 b1;have f0:=qd _ hB4 b0 g0;have f1:=qd _ hB4 b1 g1))
  refine LoadR.ret_ct2 results14 ji xE rfl rfl c0 c1 ⟨?_,.inr ⟨HA.out,rfl⟩⟩
  exact LoadR.Below.set2 (Below.call HF.out.1 hB4 (by omega)) (by omega)
 ·have hbad:=hask.mono (fun e w' h=>h.bad ha)
  have hb:(zf D al != 0)=true:=by simpa using ha
  unfold dz at hbad
  have HA:=Lib.hid ha
  clear hask ha hal
  generalize zf D al=r at *
  go_enter (sf 14 f14),ntmps14
  go_upto_region 1 with fail
  try rw [hW]
  clear hW
  go_upto_region 3 with (go_at_call 33;(with_reducible refine hbad.mono ?_);rintro e w1 ⟨rfl,hB1⟩;have hs1:=hB1.size)
  have hBV:=bcl hB1 ((Below.refl w1.heap.size w1).alloc (Nat.le_refl _) (Obj.cells #[.slice none 0 0,.slice none 0 0,.slice none 0 0,.slice none 0 0,.slice none 0 0,.map none] 74))
  obtain ⟨V,hV⟩:∃V,w1.alloc (Obj.cells #[.slice none 0 0,.slice none 0 0,.slice none 0 0,.slice none 0 0,.slice none 0 0,.map none] 74)=V:=⟨_,rfl⟩
  rw [hV] at hBV ⊢
  clear hV hB1
  have c0:=qb _ hBV b0
  have c1:=qb _ hBV b1
  have f0:=qd _ hBV b0 g0
  have f1:=qd _ hBV b1 g1
  go_wp2
  refine LoadR.ret_ct2 results14 ji xE rfl rfl c0 c1 ⟨?_,.inl ⟨HA.out,rfl⟩⟩
  exact LoadR.Below.set2 (Below.call hBW hBV (by omega)) (by omega)
theorem make_int {w:World} {n:Nat} (hn:n≤1000):(Instr.makeSlice 31 (.int .i64 n) (.int .i64 n)).run qj w=.ok (.slice (some ⟨w.heap.size,0,none⟩) n n) (w.alloc (.cells (madeCells #[.int .i64 0] n) 3)):=by
 have hi:qj.info? 3=some ((Tryz.prog.info? 3).getD default):=by rw [qbm];kernel_rfl
 have hs:((Tryz.prog.info? 3).getD default).size=1:=by kernel_rfl
 have hby:((Tryz.prog.info? 3).getD default).bytes=8:=by kernel_rfl
 have hz:((Tryz.prog.info? 3).getD default).zero=some (.int .i64 0):=by kernel_rfl
 generalize (Tryz.prog.info? 3).getD default=inf at hi hs hby hz
 have hr:=run_makeSlice (P:=qj) w 31 3 inf (.int .i64 0) (by rw [qy];exact Tryz.underlying31) hi hz .i64 .i64 (n:Int) n (by omega) (by omega) (by rw [hs];omega) (by rw [hby];omega) (by omega)
 rw [hs] at hr
 simpa [Value.cells] using hr
def RowI (W:World) (s n:Nat) (L:List Int) (k:Nat):Prop:=∀i,i < n→∃x,W.cell? ⟨s,i,none⟩=some (.int .i64 x)∧W.frozen? ⟨s,i,none⟩=false∧(i < k→L[i]? = some x)
theorem RowI.set {W:World} {s n k:Nat} {L:List Int} {y:Int} (h:RowI W s n L k) (hk:k < n) (hy:L[k]? = some y):RowI (W.setCell ⟨s,k,none⟩ (.int .i64 y)) s n L (k+1):=fun i hi=>by
 obtain ⟨x,a,b,c⟩:=h i hi
 by_cases e:i=k
 ·subst e;exact ⟨y,qp (qz a),by simpa using b,fun _=>hy⟩
 ·exact ⟨x,qf a (.inr e),by simpa using b,fun h=>c (by omega)⟩
theorem RowI.made (w:World) (n:Nat) (L:List Int):RowI (w.alloc (.cells (madeCells #[.int .i64 0] n) 3)) w.heap.size n L 0:=fun i hi=>by
 have hs:(madeCells #[Value.int .i64 0] n).size=n:=size_madeCells _ _
 refine ⟨0,?_,?_,fun h=>by omega⟩
 ·have hb:(w.alloc (.cells (madeCells #[.int .i64 0] n) 3)).heap[w.heap.size]? = some (.cells (madeCells #[.int .i64 0] n) 3 (0,0)):=World.alloc_heap_new w _
  unfold World.cell?
  rw [hb]
  have:(madeCells #[Value.int .i64 0] n)[i]? = some (.int .i64 0):=by
   rw [Array.getElem?_eq_getElem (by omega)]
   simp [madeCells,Nat.mod_one]
  simpa using this
 ·have hb:(w.alloc (.cells (madeCells #[.int .i64 0] n) 3)).heap[w.heap.size]? = some (.cells (madeCells #[.int .i64 0] n) 3 (0,0)):=World.alloc_heap_new w _
  unfold World.frozen?
  rw [hb]
  simp
theorem RowI.rows {W:World} {s:Nat} {L:List Int} (h:RowI W s L.length L L.length):qh W 1 encI (some ⟨s,0,none⟩) L:=fun _=>⟨s,0,rfl,fun i x hx j v hv=>by
 have hi:=(List.getElem?_eq_some_iff.1 hx).1
 obtain ⟨y,a,b,c⟩:=h i hi
 rw [hx] at c
 have:=c hi
 cases this
 cases j with
 | zero=>simp [encI] at hv;subst hv;simpa using a
 | succ j=>simp [encI] at hv⟩
def jJ (n:Nat):List Int:=(List.range n).map fun (k:Nat)=>(k:Int)
theorem yw (n:Nat):(jJ n).length=n:=by unfold jJ;simp
theorem Yt {n k:Nat} (h:k < n):(jJ n)[k]? = some (k:Int):=by unfold jJ;simp [h]
set_option maxHeartbeats 2000000 in
set_option maxRecDepth 100000 in
theorem qbp (n:Nat) (hn:n≤20) (w:World):Calls qj 69 #[.int .i64 n] w fun e w'=>e=.returned (.slice (some ⟨w.heap.size,0,none⟩) n n)∧qh w' 1 encI (some ⟨w.heap.size,0,none⟩) (jJ n)∧Below w.heap.size w w':=by
 have hmk:=make_int (w:=w) (n:=n) (by omega)
 have hro:=RowI.made w n (jJ n)
 have hBW:=(Below.refl w.heap.size w).alloc (Nat.le_refl _) (.cells (madeCells #[.int .i64 0] n) 3)
 obtain ⟨W,hW⟩:∃W,w.alloc (.cells (madeCells #[.int .i64 0] n) 3)=W:=⟨_,rfl⟩
 rw [hW] at hmk hro hBW
 have HRO:=Lib.hid hro
 have HBW:=Lib.hid hBW
 clear hro hBW hW
 go_enter (sf 69 f69),ntmps69
 go_wp2
 go_loopw [8] (fun i wr=>∃k:Nat,i=.int .i64 k∧k≤n∧Hid (RowI wr w.heap.size n (jJ n) k)∧Hid (Below w.heap.size w wr)) (fun i _=>n - (intOf i).toNat)
 case atStart=>exact ⟨0,rfl,Nat.zero_le _,HRO,HBW⟩
 case round =>
  obtain ⟨k,rfl,hk,HR,HB⟩:=hrel
  by_cases hlt:k < n
  ·obtain ⟨x,c0,f0,-⟩:=HR.out k hlt
   have hk0:(0:Int)≤(k:Int):=Int.natCast_nonneg k
   have hkn:(k:Int) < (n:Int):=by omega
   go_wp2
   go_roundw
   case rel=>exact ⟨k+1,rfl,by omega,Lib.hid (HR.out.set hlt (Yt hlt)),Lib.hid (HB.out.setCell (p:=⟨w.heap.size,k,none⟩) (Nat.le_refl _) _)⟩
   case measure=>simp [intOf];omega
  ·obtain rfl:k=n:=by omega
   go_wp2
   go_ret
   exact ⟨rfl,by have h:=HR.out;have e:=yw k;exact (RowI.rows (L:=jJ k) (by rw [e];exact h)),HB.out⟩
def YL (f:Int→Int):Nat→Int×Int→List Int→Int×Int
 | _,kb,[]=>kb
 | i,kb,x :: l=>YL f (i+1) (if f x < kb.2 then (i,f x) else kb) l
def qcJ (f:Int→Int) (l:List Int) (b:Int):Int×Int:=YL f 0 (-1,b) l
set_option maxHeartbeats 2000000 in
set_option maxRecDepth 100000 in
theorem qaK (fid:FuncId) (bound:Array Value) (hf:∀(args:Array Value) (w:World),(callFunc fid args).run qj w=.ok (.enter fid args) w) (f:Int→Int) (l:List Int) (a:Option Addr) (c:Nat) (b0:Int) (hlen:l.length≤1000) (hlc:l.length≤c) (I:World→Prop) (hI:∀W,I W→qh W 1 encI a l) (w:World) (hw:I w)
 (hcall:∀(i:Nat) (x:Int),l[i]? = some x→∀W,I W→Calls qj fid (#[.int .i64 x] ++ bound) W fun e w'=>e=.returned (.int .i64 (f x))∧I w') :
 Calls qj 68 #[.slice a l.length c,.int .i64 b0,.func (.func fid) #[] bound] w fun e w'=>e=.returned (.tuple #[.int .i64 (qcJ f l b0).1,.int .i64 (qcJ f l b0).2])∧I w':=by
 obtain ⟨R,hR⟩:∃R,qcJ f l b0=R:=⟨_,rfl⟩
 rw [hR]
 have HR:Hid (YL f 0 (-1,b0) (l.drop 0)=R):=Lib.hid hR
 clear hR
 go_enter (sf 68 f68),ntmps68
 go_wp2
 go_loopw [14,8,1] (fun i u v wr=>∃(k:Nat) (m b:Int),i=.int .i64 k∧u=.int .i64 m∧v=.int .i64 b∧k≤l.length∧I wr∧Hid (YL f k (m,b) (l.drop k)=R)) (fun i _ _ _=>l.length - (intOf i).toNat)
 case atStart=>exact ⟨0,-1,b0,rfl,rfl,rfl,Nat.zero_le _,hw,HR⟩
 case round =>
  obtain ⟨k,m,b,rfl,rfl,rfl,hk,hB,HN⟩:=hrel
  by_cases hlt:k < l.length
  ·obtain ⟨bb,o,rfl,hP⟩:=hI wr hB (by omega)
   obtain ⟨x,hx⟩:∃x,l[k]? = some x:=⟨l[k],by simp [hlt]⟩
   have c0:=hP k x hx 0 _ rfl
   simp only [Nat.mul_one,Nat.add_zero] at c0
   have hkc:(k:Int)≤(c:Int):=by omega
   have hcl:=hcall k x hx wr hB
   have hE:=HN.out
   rw [List.drop_eq_getElem_cons hlt,YL,show l[k]=x from (List.getElem?_eq_some_iff.1 hx).2] at hE
   clear hP hx hI hcall
   obtain ⟨y,hy⟩:∃y,f x=y:=⟨_,rfl⟩
   rw [hy] at hcl hE
   simp only at hE
   obtain ⟨args,hargs⟩:∃args,(#[.int .i64 x] ++ bound)=args:=⟨_,rfl⟩
   rw [hargs] at hcl
   by_cases hyb:y < b
   ·rw [if_pos hyb] at hE
    have HE:=Lib.hid hE
    clear hE
    go_wp2_with ((first | (rw [hargs]) | skip);(with_reducible refine hcl.mono ?_);rintro e w1 ⟨rfl,hB1⟩)
    go_roundw
    case rel=>exact ⟨k+1,k,y,rfl,rfl,rfl,by omega,hB1,HE⟩
    case measure=>simp [intOf];omega
   ·rw [if_neg hyb] at hE
    have HE:=Lib.hid hE
    clear hE
    go_wp2_with ((first | (rw [hargs]) | skip);(with_reducible refine hcl.mono ?_);rintro e w1 ⟨rfl,hB1⟩)
    go_roundw
    case rel=>exact ⟨k+1,m,b,rfl,rfl,rfl,by omega,hB1,HE⟩
    case measure=>simp [intOf];omega
  ·obtain rfl:k=l.length:=by omega
   have hE:=HN.out
   rw [List.drop_eq_nil_of_le (Nat.le_refl _),YL] at hE
   subst hE
   go_wp2
   go_ret2
   exact ⟨rfl,hB⟩
theorem qeW {n:Nat} (h:n≤1000):wrap64 ((n:Int)+1)=(n:Int)+1:=by unfold wrap64;omega
theorem max_succ (m n:Nat):max (m:Int) ((n:Int)+1)=((max m (n+1):Nat):Int):=by omega
def qea:List Int→Nat
 | []=>0
 | x :: r=>max (qea r) ((x :: r).count x)
def Xv (vs:List Int):Nat:=qea vs.reverse
theorem qdZ (vs:List Int) (x:Int):Xv (vs ++ [x])=max (Xv vs) (vs.count x+1):=by
 unfold Xv
 rw [List.reverse_append]
 show max (qea vs.reverse) ((x :: vs.reverse).count x)=_
 rw [List.count_cons_self,List.count_reverse]
theorem mostN_le (vs:List Int):Xv vs≤vs.length:=by
 unfold Xv
 have key:∀l:List Int,qea l≤l.length:=by
  intro l
  induction l with
  | nil=>exact Nat.le_refl _
  | cons x r ih=>unfold qea;have:=List.count_le_length (a:=x) (l:=x :: r);simp only [List.length_cons] at *;omega
 have:=key vs.reverse
 rwa [List.length_reverse] at this
def cntF (vs:List Int):Int→Option Value:=fun x=>if vs.count x=0 then none else some (.int .i64 (vs.count x:Nat))
theorem qaO (vs:List Int) (x:Int):(cntF vs x).getD (.int .i64 0)=.int .i64 (vs.count x:Nat):=by
 unfold cntF
 split
 ·rename_i h;rw [h];rfl
 ·rfl
theorem cntF_add (vs:List Int) (x:Int):(fun k=>if k=x then some (.int .i64 ((vs.count x:Nat)+1:Int)) else cntF vs k)=cntF (vs ++ [x]):=by
 funext k
 unfold cntF
 rw [List.count_append]
 by_cases hk:k=x
 ·subst hk
  rw [if_pos rfl,List.count_cons_self,List.count_nil]
  rw [if_neg (by omega)]
  congr 2
 ·rw [if_neg hk,List.count_cons_of_ne (fun e=>hk e.symm),List.count_nil,Nat.add_zero]
def qex (D:DayM) (i:Nat):Int:=match D.cs[i]? with
 | some c=>c.se
 | none=>-2
def askV (D:DayM) (i:Nat):Int:=if qex D i≠-2 then (qo D).length else Xv ((qo D).map fun p=>(qG D (setOf p)).getD i 0)
set_option maxHeartbeats 4000000 in
set_option maxRecDepth 100000 in
theorem ask1_any (D:DayM) (M:Nat) (A:Nat→Prop) (w0 w:World) (h:St D M A w0 w) (hA:∀b,A b→b < w.heap.size) (hz:checkN D=0) (db lb:Nat) (hd:B6 w db (.slice D.ta D.ts.length D.tc) (.slice D.ga D.gs.length D.gc) (.slice D.oa D.os.length D.oc) (.slice D.ha D.hs.length D.hc) (.slice D.ca D.cs.length D.cc) (.map (some M)))
 (a:Option Addr) (c:Nat) (hl:w.cell? ⟨lb,0,none⟩=some (.slice a (qo D).length c)) (hlc:(qo D).length≤c) (hr:qh w 4 QK a (qo D)) (i:Nat) (hi:i < D.cs.length) :
 Calls qj 74 #[.int .i64 i,pt db,pt lb] w fun e w'=>e=.returned (.int .i64 (askV D i))∧St D M A w0 w'∧w.grownBy w' (some M):=by
 obtain ⟨y,hy⟩:∃y,D.cs[i]? = some y:=⟨D.cs[i],by simp [hi]⟩
 have hml:=h.kn.lt
 have hcl:=h.ok.cs
 have hN:=qN hz
 have hi0:(0:Int)≤(i:Int):=Int.natCast_nonneg i
 have hil:(i:Int) < (D.cs.length:Int):=by omega
 have hid:(i:Int)≤(D.cc:Int):=by have:=h.sm.cs.2;omega
 obtain ⟨cb,co,hca,hC⟩:=h.day.cs (by show 1≤D.cs.length;omega)
 have y4:=hC i y hy 4 _ rfl
 have hsee:qex D i=y.se:=by unfold qex;rw [hy]
 have hplx:=fun p (hp:p.ok) (B:Nat→Prop) W (hS:St D M B w0 W) (hB:∀b,B b→b < W.heap.size)=>jY hS (setOf p) (by simp [setOf]) hp (by simp [setOf]) hB
 have HPL:=Lib.hid hplx
 have HOK:=Lib.hid (jA hz)
 have HD:=Lib.hid hd
 have HST:=Lib.hid h
 have HA:=Lib.hid hA
 have HR:=Lib.hid hr
 have HL:=Lib.hid hl
 have hdl:=hd.lt
 have hll:=lt_of_cell hl
 simp only at hll
 obtain ⟨d0,d1,d2,d3,d4,d5⟩:=hd
 rw [hca] at d4
 clear hC hr h hA hplx hz hy hca
 obtain ⟨f1,f2,f3,f4,se⟩:=y
 simp only at y4 hsee
 by_cases hs:se=-2
 ·have hAV:askV D i=Xv ((qo D).map fun p=>(qG D (setOf p)).getD i 0):=by unfold askV;rw [if_neg (by rw [hsee];simpa using hs)]
  rw [hAV]
  subst hs
  clear hsee hAV
  have hmk:=qdU w
  have hG0:=jH.new (enc:=Zh) w
  have hBC:=(Below.refl w.heap.size w).alloc (Nat.le_refl _) (Obj.map #[] 0)
  obtain ⟨W0,hW0⟩:∃W0,w.alloc (Obj.map #[] 0)=W0:=⟨_,rfl⟩
  rw [hW0] at hmk hG0 hBC
  obtain ⟨C,hC⟩:∃C,w.heap.size=C:=⟨_,rfl⟩
  rw [hC] at hmk hG0
  have hl0:=qb _ hBC hl
  have HG0:=Lib.hid hG0
  have HBC:=Lib.hid hBC
  clear hG0 hBC hW0 hl d0 d1 d2 d3 d5
  go_enter (sf 74 f74),ntmps74
  go_upto_region 5 with fail
  clear hmk d4 y4
  go_wp2
  go_loopw [23,6] (fun i2 u wr=>∃(k m:Nat),i2=.int .i64 k∧u=.int .i64 m∧k≤(qo D).length∧Hid (St D M (fun b=>A b∨b=C) w0 wr)∧Hid (w.grownBy wr (some M))∧Hid (jH Zh wr C (cntF (((qo D).map fun p=>(qG D (setOf p)).getD i 0).take k)))∧Hid (m=Xv (((qo D).map fun p=>(qG D (setOf p)).getD i 0).take k))∧Hid (Mod (fun b=>b=M∨b=C) W0 wr)) (fun i2 _ _=>(qo D).length - (intOf i2).toNat)
  case atStart=>exact ⟨0,0,rfl,rfl,Nat.zero_le _,Lib.hid ((HST.out.mod (S:=fun _=>False) (Mod.refl _ _) (fun _ e=>e.elim) (fun b hb=>by rcases hb with hb | hb;exact .inl hb;exact .inr (by omega))).keep HBC.out),Lib.hid (qi HBC.out),Lib.hid (by have e:cntF []=fun _=>none:=(by funext x;simp [cntF]);rw [List.take_zero,e];exact HG0.out),Lib.hid rfl,Lib.hid (Mod.refl _ _)⟩
  case round =>
   obtain ⟨k,m,rfl,rfl,hk,HS,HG,HC,HM,HMD⟩:=hrel
   have hsz:=HMD.out.size
   by_cases hlt:k < (qo D).length
   ·have hrR:=HST.out.rows HG.out HR.out
    obtain ⟨b,o,rfl,hP⟩:=hrR (by omega)
    obtain ⟨p,hp⟩:∃p,(qo D)[k]? = some p:=⟨(qo D)[k],by simp [hlt]⟩
    have c0:=hP k p hp 0 _ rfl
    have c1:=hP k p hp 1 _ rfl
    have c2:=hP k p hp 2 _ rfl
    have c3:=hP k p hp 3 _ rfl
    simp only [Nat.add_zero] at c0
    have hkc:(k:Int)≤(c:Int):=by omega
    have hokp:=HOK.out p (List.mem_of_getElem? hp)
    obtain ⟨x,hx⟩:∃x,(qG D (setOf p)).getD i 0=x:=⟨_,rfl⟩
    have hxr:(qG D (setOf p))[i]? = some x:=by
     have hpl:(qG D (setOf p)).length=D.cs.length:=qX _ _
     rw [← hx,List.getD_eq_getElem?_getD,List.getElem?_eq_getElem (by omega)];rfl
    have hvk:((qo D).map fun p=>(qG D (setOf p)).getD i 0)[k]? = some x:=by rw [List.getElem?_map,hp,← hx];rfl
    have HV:=Lib.hid (And.intro hvk hxr)
    have hpll:(qG D (setOf p)).length=D.cs.length:=qX _ _
    have e6:B6 wr db (.slice D.ta D.ts.length D.tc) (.slice D.ga D.gs.length D.gc) (.slice D.oa D.os.length D.oc) (.slice D.ha D.hs.length D.hc) (.slice D.ca D.cs.length D.cc) (.map (some M)):=⟨HST.out.cell HG.out HD.out.c0,HST.out.cell HG.out HD.out.c1,HST.out.cell HG.out HD.out.c2,HST.out.cell HG.out HD.out.c3,HST.out.cell HG.out HD.out.c4,HST.out.cell HG.out HD.out.c5⟩
    have has:=fun X=>zG p X
    unfold pvP at has
    have hpl:=HPL.out p hokp (fun b=>A b∨b=C)
    generalize qG D (setOf p)=R at *
    generalize setOf p=s at *
    obtain ⟨sv,hsv⟩:∃sv,qL s=sv:=⟨_,rfl⟩
    rw [hsv] at has
    simp only [hsv] at hpl
    unfold dm at hpl
    have HP:=Lib.hid hpl
    have HAS:=Lib.hid has
    have HE:=Lib.hid e6
    have HPK:=Lib.hid (And.intro hp hx)
    clear hpl has hP hp hx hvk hxr hrR e6 hokp
    have hCw:=HC.out.lt
    go_upto_region 8 with fail
    obtain ⟨W,hW⟩:∃W,wr.alloc (Obj.cells #[.int .i64 p.a,.int .i64 p.b,.int .i64 p.c,.int .i64 p.d] 82)=W:=⟨_,rfl⟩
    have hBW:Below wr.heap.size wr W:=by subst hW;go_grown
    have hq:PB W wr.heap.size p:=by subst hW;exact PB.of (by go_cell) (by go_cell) (by go_cell) (by go_cell) (by go_cell) (by go_cell) (by go_cell) (by go_cell)
    obtain ⟨q0,q1,q2,q3⟩:=hq.four
    obtain ⟨d0,d1,d2,d3,d4,d5⟩:=HE.out.keep hBW
    have hS:RG10 D M (fun b=>A b∨b=C) w0 W ⟨db,0,none⟩ ⟨db,1,none⟩ ⟨db,2,none⟩ ⟨db,3,none⟩ ⟨db,4,none⟩ ⟨db,5,none⟩ ⟨wr.heap.size,0,none⟩ ⟨wr.heap.size,1,none⟩ ⟨wr.heap.size,2,none⟩ ⟨wr.heap.size,3,none⟩ (.slice D.ta D.ts.length D.tc) (.slice D.ga D.gs.length D.gc) (.slice D.oa D.os.length D.oc) (.slice D.ha D.hs.length D.hc) (.slice D.ca D.cs.length D.cc) (.map (some M)) (.int .i64 p.a) (.int .i64 p.b) (.int .i64 p.c) (.int .i64 p.d) W:=⟨d0,d1,d2,d3,d4,d5,q0,q1,q2,q3,HS.out.keep hBW,qi (Below.refl _ _)⟩
    rw [hW]
    have hWs:=hBW.size
    clear hW hq q0 q1 q2 q3 d0 d1 d2 d3 d4 d5 c0 c1 c2 c3
    refine wp_region_held_drew (S:=(RG10 D M (fun b=>A b∨b=C) w0 W ⟨db,0,none⟩ ⟨db,1,none⟩ ⟨db,2,none⟩ ⟨db,3,none⟩ ⟨db,4,none⟩ ⟨db,5,none⟩ ⟨wr.heap.size,0,none⟩ ⟨wr.heap.size,1,none⟩ ⟨wr.heap.size,2,none⟩ ⟨wr.heap.size,3,none⟩ (.slice D.ta D.ts.length D.tc) (.slice D.ga D.gs.length D.gc) (.slice D.oa D.os.length D.oc) (.slice D.ha D.hs.length D.hc) (.slice D.ca D.cs.length D.cc) (.map (some M)) (.int .i64 p.a) (.int .i64 p.b) (.int .i64 p.c) (.int .i64 p.d))) (by kernel_rfl) (by exact RGL.drew hS) (fun hHeld=>?_)
    (refine tk 0 ?_;try simp only [zs,Act.put])
    (refine tk 1 ?_;try simp only [zs,Act.put])
    (refine tk 4 ?_;try simp only [zs,Act.put])
    refine wpAnyH_ready (rs:=[2]) (by kernel_rfl) (by simp) ?_;refine AllReadyH.cons rfl (fun K hK=>?_) AllReadyH.nil;go_simp;go_wp2_with (go_at_call 39;(with_reducible refine (HAS.out _).mono ?_);rintro e w1 ⟨rfl,hB1⟩);refine hK.out _ _ (by exact RGL.call hHeld hB1) (fun hHeldN=>?_);clear hK K hHeld;have hHeld:=hHeldN;clear hHeldN;try simp only [zs,Act.put]
    refine wpAnyH_ready (rs:=[3]) (by kernel_rfl) (by simp) ?_;refine AllReadyH.cons rfl (fun K hK=>?_) AllReadyH.nil;go_simp;go_wp2_with (go_at_call 38;(with_reducible refine (HP.out _ (RGL.st hHeld) (fun b hb=>by have:=(RGL.gr hHeld).size;have:=HBC.out.size;rcases hb with hb | hb;have:=HA.out b hb;omega;omega)).mono ?_);rintro e X ⟨a2,c2,rfl,hlc2,hrow,hst1,hg1⟩);refine hK.out _ _ (by exact RGL.play hHeld hst1 hg1) (fun hHeldN=>?_);clear hK K hHeld;have hHeld:=hHeldN;clear hHeldN;try simp only [zs,Act.put]
    obtain ⟨b2,o2,rfl,hP2⟩:=hrow (by omega)
    have c9:=hP2 i x HV.out.2 0 _ rfl
    simp only [Nat.mul_one,Nat.add_zero] at c9
    have hic:(i:Int)≤(c2:Int):=by omega
    clear hP2
    (refine tk 5 ?_;try simp only [zs,Act.put])
    (refine wpAnyH_ready (rs:=[6]) (by kernel_rfl) (by simp) ?_;refine AllReadyH.cons rfl (fun K hK=>?_) AllReadyH.nil;go_simp;refine hK.out _ _ (by exact hHeld) (fun hHeldN=>?_);clear hK K hHeld;have hHeld:=hHeldN;clear hHeldN;try simp only [zs,Act.put])
    (refine tk 7 ?_;try simp only [zs,Act.put])
    refine wpAnyH_done (by kernel_rfl) ?_ _;try simp only [zs,Act.put]
    have hgX:=RGL.gr hHeld
    have hsX:=RGL.st hHeld
    have hmX:Mod (fun b=>b=M∨b=C) W0 X:=HMD.out.trans ((Mod.below hBW).trans ((Mod.grown hgX (S:=fun b=>b=M) (fun b e=>(Option.some.inj e).symm)).mono (fun b e=>.inl e)))
    have hCl:=HC.out.lt
    have hGX:jH Zh X C (cntF (((qo D).map fun p=>(qG D (setOf p)).getD i 0).take k)):=(HC.out.keep hBW).block (hgX.block C (by omega) (by intro e;cases e;omega))
    have hk1:((((qo D).map fun p=>(qG D (setOf p)).getD i 0).take k).count x)≤k:=Nat.le_trans List.count_le_length (by rw [List.length_take];omega)
    have hl1:=yj qeb hGX x false
    rw [qaO] at hl1
    simp only [if_false,Bool.false_eq_true,Zh] at hl1
    obtain ⟨X2,hu,hG2,hgr2,hsz2⟩:=xH qeb hGX x (.int .i64 (((((qo D).map fun p=>(qG D (setOf p)).getD i 0).take k).count x:Nat)+1:Int))
    rw [cntF_add] at hG2
    have hl2:=yj qeb hG2 x false
    rw [qaO] at hl2
    simp only [if_false,Bool.false_eq_true,Zh] at hl2 hu
    rw [List.count_append,List.count_cons_self,List.count_nil] at hl2
    have hvs:((qo D).map fun p=>(qG D (setOf p)).getD i 0).take (k+1)=((qo D).map fun p=>(qG D (setOf p)).getD i 0).take k ++ [x]:=by rw [List.take_add_one,HV.out.1];rfl
    have hmn:=mostN_le (((qo D).map fun p=>(qG D (setOf p)).getD i 0).take k)
    have hmk:Xv (((qo D).map fun p=>(qG D (setOf p)).getD i 0).take (k+1))=max m ((((qo D).map fun p=>(qG D (setOf p)).getD i 0).take k).count x+1):=by rw [hvs,qdZ,← HM.out]
    have hmb:m≤k:=by have:=HM.out;rw [List.length_take] at hmn;omega
    obtain ⟨n,hn⟩:∃n,(((qo D).map fun p=>(qG D (setOf p)).getD i 0).take k).count x=n:=⟨_,rfl⟩
    rw [hn] at hl1 hl2 hu hk1 hmk
    have hmm:Mod (fun b=>b=C) X X2:=Mod.grown hgr2 (fun b e=>(Option.some.inj e).symm)
    have hG2':jH Zh X2 C (cntF (((qo D).map fun p=>(qG D (setOf p)).getD i 0).take (k+1))):=by rw [hvs];exact hG2
    have HF:=Lib.hid (And.intro (hsX.mod (A':=fun b=>A b∨b=C) hmm (fun b hb=>⟨.inr hb,by omega,by have:=HST.out.bel.size;omega⟩) (fun b hb=>.inl hb)) (And.intro (zC (ql (ql HG.out (qi hBW)) hgX) hmm (fun b hb=>by omega)) (And.intro hG2' (hmX.trans (hmm.mono (fun b e=>.inr e))))))
    have HMK:=Lib.hid hmk
    have hw1:=qeW (show n≤1000 by omega)
    clear hGX hG2 hG2' hmX hsX hgX hHeld hmm hgr2 hvs hmn hmk hrow hst1 hg1 hS hn
    go_wp2
    have hmx:Value.int .i64 (max (m:Int) ((n:Int)+1))=.int .i64 ((max m (n+1):Nat):Int):=by rw [max_succ]
    clear hw1 hl1 hl2 hu
    go_roundw
    case rel=>exact ⟨k+1,max m (n+1),rfl,hmx,by omega,Lib.hid HF.out.1,Lib.hid HF.out.2.1,Lib.hid HF.out.2.2.1,Lib.hid HMK.out.symm,Lib.hid HF.out.2.2.2⟩
    case measure=>simp [intOf];omega
   ·obtain rfl:k=(qo D).length:=by omega
    have hM:=HM.out
    rw [List.take_of_length_le (by rw [List.length_map];exact Nat.le_refl _)] at hM
    have HMM:=Lib.hid hM
    clear hM
    go_wp2
    go_ret
    exact ⟨by rw [HMM.out];rfl,HS.out.mod (S:=fun _=>False) (Mod.refl _ _) (fun _ e=>e.elim) (fun b hb=>.inl (.inl hb)),HG.out⟩
 ·have hAV:askV D i=(qo D).length:=by unfold askV;rw [if_pos (by rw [hsee];exact hs)]
  rw [hAV]
  have hb:(se != -2)=true:=by simpa using hs
  clear hAV hs hsee
  go_enter (sf 74 f74),ntmps74
  go_wp2
  go_ret
  exact ⟨rfl,HST.out,qi (Below.refl _ _)⟩
def TwoP (al:Int) (r:Int×Int) (w:World) (e:Ending) (w':World):Prop :=
 Below w.heap.size w w'∧((al≠0∧e=.returned (.tuple #[.int .i64 0,.int .i64 0,.int .i64 al]))∨(al=0∧e=.returned (.tuple #[.int .i64 r.1,.int .i64 r.2,.int .i64 0])))
def askN (D:DayM):Int×Int:=qcJ (fun i=>askV D i.toNat) (jJ D.cs.length) (qo D).length
set_option maxHeartbeats 4000000 in
set_option maxRecDepth 100000 in
theorem ask_top (D:DayM) (w:World) (h:DayAt w D) (hs:DaySm D) (hG:Globs w):Calls qj 28 #[dv D] w (TwoP (zf D 0) (askN D) w):=by
 obtain ⟨W,hW⟩:∃W,w.alloc (Obj.cells #[.slice D.ta D.ts.length D.tc,.slice D.ga D.gs.length D.gc,.slice D.oa D.os.length D.oc,.slice D.ha D.hs.length D.hc,.slice D.ca D.cs.length D.cc] 28)=W:=⟨_,rfl⟩
 have hBW:Below w.heap.size w W:=by subst hW;go_grown
 have hsW:W.heap.size=w.heap.size+1:=by subst hW;simp
 have k0:W.cell? ⟨w.heap.size,0,none⟩=some (.slice D.ta D.ts.length D.tc):=by subst hW;go_cell
 have k1:W.cell? ⟨w.heap.size,1,none⟩=some (.slice D.ga D.gs.length D.gc):=by subst hW;go_cell
 have k2:W.cell? ⟨w.heap.size,2,none⟩=some (.slice D.oa D.os.length D.oc):=by subst hW;go_cell
 have k3:W.cell? ⟨w.heap.size,3,none⟩=some (.slice D.ha D.hs.length D.hc):=by subst hW;go_cell
 have k4:W.cell? ⟨w.heap.size,4,none⟩=some (.slice D.ca D.cs.length D.cc):=by subst hW;go_cell
 have hask:=yG D W (h.keep hBW) hs (hG.keep hBW) 55 #[] (cE 55 (by decide +kernel)) 0 (fun M V hM hB=>by unfold dm;exact yF _ _ _ _ _ _ V)
 have hdv:dv D=.agg #[.slice D.ta D.ts.length D.tc,.slice D.ga D.gs.length D.gc,.slice D.oa D.os.length D.oc,.slice D.ha D.hs.length D.hc,.slice D.ca D.cs.length D.cc]:=rfl
 rw [hdv] at hask ⊢
 have HD:=Lib.hid (And.intro h hs)
 unfold TwoP
 clear h hs hG hdv
 by_cases ha:zf D 0=0
 ·have hz:=yf ha
  have hok:=hask.mono (fun e w' h=>h.ok ha)
  have HA:=Lib.hid ha
  have HZ:=Lib.hid hz.1
  clear hask ha hz
  go_enter (sf 28 f28),ntmps28
  go_upto_region 1 with fail
  try rw [hW]
  clear hW
  unfold dm at hok
  go_upto_region 4 with (go_at_call 33;(with_reducible refine hok.mono ?_);rintro e w1 ⟨M,a,c,rfl,hpos,hlc,hrow,hfr,hst⟩;have hs1:=hst.bel.size)
  have hML:=hst.kn.lt
  obtain ⟨V2,hV2⟩:∃V2,(w1.alloc (Obj.cells #[.slice D.ta D.ts.length D.tc,.slice D.ga D.gs.length D.gc,.slice D.oa D.os.length D.oc,.slice D.ha D.hs.length D.hc,.slice D.ca D.cs.length D.cc,.map (some M)] 74)).alloc (Obj.cells #[.slice a (qo D).length c] 75)=V2:=⟨_,rfl⟩
  have hBV:Below w1.heap.size w1 V2:=by subst hV2;go_grown
  have h7:B6 V2 w1.heap.size (.slice D.ta D.ts.length D.tc) (.slice D.ga D.gs.length D.gc) (.slice D.oa D.os.length D.oc) (.slice D.ha D.hs.length D.hc) (.slice D.ca D.cs.length D.cc) (.map (some M)):=by subst hV2;exact ⟨by go_cell,by go_cell,by go_cell,by go_cell,by go_cell,by go_cell⟩
  have hl7:V2.cell? ⟨w1.heap.size+1,0,none⟩=some (.slice a (qo D).length c):=by subst hV2;go_cell
  have hszV:V2.heap.size=w1.heap.size+2:=by subst hV2;simp
  obtain ⟨T,hT⟩:∃T,w1.heap.size=T:=⟨_,rfl⟩
  try rw [hV2]
  have hsV:=hst.keep hBV
  have hrV:=hrow.keep hBV
  rw [hT] at h7 hl7 hML hszV ⊢
  have hcs8:=(zF D HZ.out).cs
  have hup:=fun X=>qbp D.cs.length (by omega) X
  have hbe:=fun X (hX:Below V2.heap.size V2 X) (g:Nat) (hg:qh X 1 encI (some ⟨g,0,none⟩) (jJ D.cs.length))=>qaK 74 #[pt T,pt (T+1)] (cE 74 (by decide +kernel)) (fun i=>askV D i.toNat) (jJ D.cs.length) (some ⟨g,0,none⟩) D.cs.length (qo D).length (by rw [yw];omega) (by rw [yw];exact Nat.le_refl _)
   (fun Y=>St D M (fun _=>False) W Y∧X.grownBy Y (some M)) (fun Y hY=>(hsV.keep hX).rows hY.2 hg) X ⟨hsV.keep hX,qi (Below.refl _ _)⟩ (fun i x hx Y hY=>by
     have hi:i < D.cs.length:=by have:=(List.getElem?_eq_some_iff.1 hx).1;rwa [yw] at this
     rw [Yt hi] at hx
     cases hx
     have hm:=Mod.grown hY.2 (S:=fun b=>b=M) (fun b e=>(Option.some.inj e).symm)
     exact (ask1_any D M (fun _=>False) W Y hY.1 (fun b hb=>hb.elim) HZ.out T (T+1) ((h7.keep hX).mod hm (show ¬ T=M by omega)) a c (hm.cell (qb _ hX hl7) (show ¬ T+1=M by omega)) hlc ((hsV.keep hX).rows hY.2 (hrV.keep hX)) i hi).mono fun e w' ⟨he,hs9,hg9⟩=>⟨he,hs9,ql hY.2 hg9⟩)
  rw [yw] at hbe
  have HF:=Lib.hid (And.intro hBW hsV)
  have HUP:=Lib.hid hup
  have HBE:=Lib.hid hbe
  obtain ⟨t0,t1,t2,t3,t4,t5⟩:=h7
  have hS:RG7 D M (fun _=>False) W V2 ⟨T,0,none⟩ ⟨T,1,none⟩ ⟨T,2,none⟩ ⟨T,3,none⟩ ⟨T,4,none⟩ ⟨T,5,none⟩ ⟨T+1,0,none⟩ (.slice D.ta D.ts.length D.tc) (.slice D.ga D.gs.length D.gc) (.slice D.oa D.os.length D.oc) (.slice D.ha D.hs.length D.hc) (.slice D.ca D.cs.length D.cc) (.map (some M)) (.slice a (qo D).length c) V2:=⟨t0,t1,t2,t3,t4,t5,hl7,hsV,qi (Below.refl _ _)⟩
  clear hBV hV2 hrow hrV hst hok hfr k0 k1 k2 k3 k4 hup hbe t0 t1 t2 t3 t4 t5 hl7 hsV
  refine wp_region_held_drew (S:=(RG7 D M (fun _=>False) W V2 ⟨T,0,none⟩ ⟨T,1,none⟩ ⟨T,2,none⟩ ⟨T,3,none⟩ ⟨T,4,none⟩ ⟨T,5,none⟩ ⟨T+1,0,none⟩ (.slice D.ta D.ts.length D.tc) (.slice D.ga D.gs.length D.gc) (.slice D.oa D.os.length D.oc) (.slice D.ha D.hs.length D.hc) (.slice D.ca D.cs.length D.cc) (.map (some M)) (.slice a (qo D).length c))) (by kernel_rfl) (by exact RGL.drew hS) (fun hHeld=>?_)
  (refine tk 0 ?_;try simp only [zs,Act.put])
  (refine tk 1 ?_;try simp only [zs,Act.put])
  (refine tk 2 ?_;try simp only [zs,Act.put])
  (refine tk 3 ?_;try simp only [zs,Act.put])
  (refine tk 5 ?_;try simp only [zs,Act.put])
  (refine tk 6 ?_;try simp only [zs,Act.put])
  (refine tk 7 ?_;try simp only [zs,Act.put])
  refine wpAnyH_ready (rs:=[4]) (by kernel_rfl) (by simp) ?_;refine AllReadyH.cons rfl (fun K hK=>?_) AllReadyH.nil;go_simp;go_wp2_with (go_at_call 69;(with_reducible refine (HUP.out _).mono ?_);rintro e X ⟨rfl,hrU,hB4⟩);refine hK.out _ _ (by exact RGL.call hHeld hB4) (fun hHeldN=>?_);clear hK K hHeld;have hHeld:=hHeldN;clear hHeldN;try simp only [zs,Act.put]
  have hrU2:qh X 1 encI (some ⟨V2.heap.size,0,none⟩) (jJ D.cs.length):=hrU
  rw [hszV] at hrU2
  have hcl:=HBE.out X (((Below.refl _ V2).drew).trans hB4) _ hrU2
  refine wpAnyH_ready (rs:=[8]) (by kernel_rfl) (by simp) ?_;refine AllReadyH.cons rfl (fun K hK=>?_) AllReadyH.nil;go_simp;go_wp2_with (go_at_call 68;(with_reducible refine hcl.mono ?_);rintro e Y ⟨rfl,hst1,hg1⟩);refine hK.out _ _ (by exact RGL.play hHeld hst1 hg1) (fun hHeldN=>?_);clear hK K hHeld;have hHeld:=hHeldN;clear hHeldN;try simp only [zs,Act.put]
  (refine tk 9 ?_;try simp only [zs,Act.put])
  (refine tk 10 ?_;try simp only [zs,Act.put])
  (refine tk 11 ?_;try simp only [zs,Act.put])
  (refine tk 12 ?_;try simp only [zs,Act.put])
  (refine tk 13 ?_;try simp only [zs,Act.put])
  refine wpAnyH_done (by kernel_rfl) ?_ _;try simp only [zs,Act.put]
  have hstf:=RGL.st hHeld
  go_wp2
  go_ret3
  exact ⟨Below.call HF.out.1 hstf.bel (by omega),.inr ⟨HA.out,rfl⟩⟩
 ·have hbad:=hask.mono (fun e w' h=>h.bad ha)
  have hb:(zf D 0 != 0)=true:=by simpa using ha
  unfold dz at hbad
  have HA:=Lib.hid ha
  clear hask ha
  generalize zf D 0=r at *
  go_enter (sf 28 f28),ntmps28
  go_upto_region 1 with fail
  try rw [hW]
  clear hW
  go_wp2_with (go_at_call 33;(with_reducible refine hbad.mono ?_);rintro e w1 ⟨rfl,hB1⟩;have hs1:=hB1.size)
  go_ret3
  exact ⟨Below.call hBW (by go_grown) (by omega),.inl ⟨HA.out,rfl⟩⟩
theorem qbh (a b c e a' b' c' e':Int) (w:World):(binOp .neq 82 (.agg #[.int .i64 a,.int .i64 b,.int .i64 c,.int .i64 e]) (.agg #[.int .i64 a',.int .i64 b',.int .i64 c',.int .i64 e'])).run qj w=.ok (.bool (!(a == a' && (b == b' && (c == c' && (e == e' && true)))))) w:=by
 rw [run_neq_struct,qcT 9998];rfl
theorem hmPast:qj.eqGuardType qj.depth 82=false:=by kernel_rfl
@[go_sem] theorem guardP_run (op:BinOp) (p q:Operand) (xs ys:Array Value) (w:World):(eqGuard op 82 p q (.agg xs) (.agg ys)).run qj w=.ok () w:=run_eqGuard_agg w op _ p q xs ys hmPast
def PastM.add (p q:PastM):PastM:=⟨p.a+q.a,p.b+q.b,p.c+q.c,p.d+q.d⟩
theorem PastM.add_get (p q:PastM) (j:Nat):(p.add q).get j=p.get j+q.get j:=by
 match j with
 | 0=>rfl
 | 1=>rfl
 | 2=>rfl
 | n+3=>rfl
def zT:PastM:=⟨0,0,0,0⟩
theorem PastM.add_zero (p:PastM):p.add zT=p:=by
 obtain ⟨a,b,c,d⟩:=p
 simp [PastM.add,zT]
def PastM.le (p:PastM) (n:Int):Prop:=∀g,0≤p.get g∧p.get g≤n
theorem PastM.le_add {p q:PastM} {n m:Int} (h:p.le n) (k:q.le m):(p.add q).le (n+m):=fun g=>by rw [PastM.add_get];have:=h g;have:=k g;omega
theorem PastM.le_set {p:PastM} {n:Int} (h:p.le n) {i:Nat} (hi:i < 4) {v:Int} (hv:0≤v∧v≤n):(p.set i v).le n:=by
 have hx:∀j,j < 4→0≤(p.set i v).get j∧(p.set i v).get j≤n:=fun j hj=>by
  by_cases e:j=i
  ·subst e;rw [PastM.get_set _ hj];exact hv
  ·rw [PastM.get_set_ne _ hi hj e];exact h j
 intro g
 by_cases hg:g < 4
 ·exact hx g hg
 ·rw [PastM.get_big _ (by omega)];exact hx 3 (by omega)
theorem ZE {n:Int} (hn:0≤n):zT.le n:=fun g=>by
 match g with
 | 0=>exact ⟨Int.le_refl _,hn⟩
 | 1=>exact ⟨Int.le_refl _,hn⟩
 | 2=>exact ⟨Int.le_refl _,hn⟩
 | n+3=>exact ⟨Int.le_refl _,hn⟩
theorem XC {D:DayM} (hz:checkN D=0):∀p∈qo D,p.le 6:=by
 have hg:=QP D hz
 have h4:=(zF D hz).gs
 have key:∀(gs:List GrpM) (i:Nat) (p:PastM),i+gs.length≤4→p.le 6→(∀g∈gs,0≤g.lo∧g.hi≤6)→∀q∈za gs i p,q.le 6:=by
  intro gs
  induction gs with
  | nil=>intro i p _ hp _ q hq;simp [za] at hq;subst hq;exact hp
  | cons g gs ih =>
    intro i p hi hp hgs q hq
    unfold za at hq
    obtain ⟨n,hn,hq⟩:=List.mem_flatMap.1 hq
    unfold QF at hn
    obtain ⟨k,hk,rfl⟩:=List.mem_map.1 hn
    have hk:=List.mem_range.1 hk
    have h1:=hgs g (List.mem_cons_self)
    simp only [List.length_cons] at hi
    exact ih (i+1) _ (by omega) (PastM.le_set hp (by omega) (by omega)) (fun g' hg'=>hgs g' (List.mem_cons_of_mem _ hg')) q hq
 intro p hp
 have hp:=(List.mem_filter.1 hp).1
 exact key D.gs 0 ⟨0,0,0,0⟩ (by omega) (ZE (by decide)) (fun g hm=>⟨(hg g hm).1,(hg g hm).2.2.1⟩) p hp
theorem wrap_le {a b:Int} (h:0≤a∧a≤6) (k:0≤b∧b≤3):wrap64 (a+b)=a+b:=by unfold wrap64;omega
theorem qbg (m n:Nat):max (m:Int) (n:Int)=((max m n:Nat):Int):=by omega
def Jd (D:DayM) (s:SetM):Nat:=(qG D s).countP fun k=>k == -1
theorem qbf (D:DayM) (s:SetM):QT D s=(Jd D s:Nat):=rfl
def zP (D:DayM) (l:List PastM) (more:PastM):Nat:=l.foldl (fun m p=>max m (Jd D (setOf (p.add more)))) 0
theorem Xb (D:DayM) (l:List PastM) (p more:PastM):zP D (l ++ [p]) more=max (zP D l more) (Jd D (setOf (p.add more))):=by unfold zP;rw [List.foldl_append];rfl
structure SX (W:World) (b:Nat) (q:PastM):Prop where
 c0:W.cell? ⟨b,0,none⟩=some (.int .i64 q.a)
 c1:W.cell? ⟨b,1,none⟩=some (.int .i64 q.b)
 c2:W.cell? ⟨b,2,none⟩=some (.int .i64 q.c)
 c3:W.cell? ⟨b,3,none⟩=some (.int .i64 q.d)
 c4:W.cell? ⟨b,4,none⟩=some (.int .u64 0)
 c5:W.cell? ⟨b,5,none⟩=some (.int .i64 (-1))
 c6:W.cell? ⟨b,6,none⟩=some (.int .i64 0)
 c7:W.cell? ⟨b,7,none⟩=some (.int .i64 0)
 c8:W.cell? ⟨b,8,none⟩=some (.int .i64 0)
 f0:W.frozen? ⟨b,0,none⟩=false
 f1:W.frozen? ⟨b,1,none⟩=false
 f2:W.frozen? ⟨b,2,none⟩=false
 f3:W.frozen? ⟨b,3,none⟩=false
theorem SX.mod {S:Nat→Prop} {W W1:World} {b:Nat} {q:PastM} (h:SX W b q) (hm:Mod S W W1) (hb:¬ S b):SX W1 b q :=
 ⟨hm.cell h.c0 hb,hm.cell h.c1 hb,hm.cell h.c2 hb,hm.cell h.c3 hb,hm.cell h.c4 hb,hm.cell h.c5 hb,hm.cell h.c6 hb,hm.cell h.c7 hb,hm.cell h.c8 hb,(hm.frozen h.c0 hb).trans h.f0,(hm.frozen h.c1 hb).trans h.f1,(hm.frozen h.c2 hb).trans h.f2,(hm.frozen h.c3 hb).trans h.f3⟩
theorem SX.keep {W W1:World} {b:Nat} {q:PastM} (h:SX W b q) (hB:Below W.heap.size W W1):SX W1 b q:=h.mod (S:=fun _=>False) (Mod.below hB) (fun e=>e)
def qcA (W:World) (b:Nat) (r:PastM):World:=(((W.setCell ⟨b,0,none⟩ (.int .i64 r.a)).setCell ⟨b,1,none⟩ (.int .i64 r.b)).setCell ⟨b,2,none⟩ (.int .i64 r.c)).setCell ⟨b,3,none⟩ (.int .i64 r.d)
theorem qbj (W:World) (b:Nat) (r:PastM):Mod (fun k=>k=b) W (qcA W b r):=by
 unfold qcA
 exact ((((Mod.refl (fun k=>k=b) W).put ⟨b,0,none⟩ _ rfl).put ⟨b,1,none⟩ _ rfl).put ⟨b,2,none⟩ _ rfl).put ⟨b,3,none⟩ _ rfl
theorem SX.put {W:World} {b:Nat} {q:PastM} (h:SX W b q) (r:PastM):SX (qcA W b r) b r:=by
 have n:∀(i j:Nat),i≠j→((⟨b,i,none⟩:Addr).block≠(⟨b,j,none⟩:Addr).block∨(⟨b,i,none⟩:Addr).off≠(⟨b,j,none⟩:Addr).off):=fun i j h=>.inr h
 have s0:=qp (v:=.int .i64 r.a) (qz h.c0)
 have p1:=qf (u:=.int .i64 r.a) h.c1 (n 1 0 (by decide))
 have p2:=qf (u:=.int .i64 r.a) h.c2 (n 2 0 (by decide))
 have p3:=qf (u:=.int .i64 r.a) h.c3 (n 3 0 (by decide))
 have far:∀(i:Nat) (v:Value),4≤i→W.cell? ⟨b,i,none⟩=some v→(qcA W b r).cell? ⟨b,i,none⟩=some v:=fun i v hi hc=>qf (qf (qf (qf hc (n i 0 (by omega))) (n i 1 (by omega))) (n i 2 (by omega))) (n i 3 (by omega))
 refine ⟨?_,?_,?_,?_,far 4 _ (by omega) h.c4,far 5 _ (by omega) h.c5,far 6 _ (by omega) h.c6,far 7 _ (by omega) h.c7,far 8 _ (by omega) h.c8,?_,?_,?_,?_⟩
 ·exact qf (qf (qf s0 (n 0 1 (by decide))) (n 0 2 (by decide))) (n 0 3 (by decide))
 ·exact qf (qf (qp (qz p1)) (n 1 2 (by decide))) (n 1 3 (by decide))
 ·exact qf (qp (qz (qf (u:=.int .i64 r.b) p2 (n 2 1 (by decide))))) (n 2 3 (by decide))
 ·exact qp (qz (qf (u:=.int .i64 r.c) (qf (u:=.int .i64 r.b) p3 (n 3 1 (by decide))) (n 3 2 (by decide))))
 ·unfold qcA;simpa using h.f0
 ·unfold qcA;simpa using h.f1
 ·unfold qcA;simpa using h.f2
 ·unfold qcA;simpa using h.f3
set_option maxHeartbeats 4000000 in
set_option maxRecDepth 100000 in
theorem JD (D:DayM) (M:Nat) (A:Nat→Prop) (w0 w:World) (h:St D M A w0 w) (hA:∀b,A b→b < w.heap.size) (l:List PastM) (a:Option Addr) (c:Nat) (hlen:l.length≤81) (hlc:l.length≤c) (hr:qh w 4 QK a l) (hle:∀p∈l,p.le 6) (z more:PastM) (hmo:more.le 3) :
 Calls qj 85 #[dm D (some M),.slice a l.length c,.agg #[.int .i64 z.a,.int .i64 z.b,.int .i64 z.c,.int .i64 z.d,.int .u64 0,.int .i64 (-1),.int .i64 0,.int .i64 0,.int .i64 0],.agg #[.int .i64 more.a,.int .i64 more.b,.int .i64 more.c,.int .i64 more.d]] w fun e w'=>e=.returned (.int .i64 (zP D l more))∧St D M A w0 w'∧w.grownBy w' (some M):=by
 obtain ⟨W0,hW0⟩:∃W0,((w.alloc (Obj.cells #[.slice D.ta D.ts.length D.tc,.slice D.ga D.gs.length D.gc,.slice D.oa D.os.length D.oc,.slice D.ha D.hs.length D.hc,.slice D.ca D.cs.length D.cc,.map (some M)] 74)).alloc (Obj.cells #[.int .i64 z.a,.int .i64 z.b,.int .i64 z.c,.int .i64 z.d,.int .u64 0,.int .i64 (-1),.int .i64 0,.int .i64 0,.int .i64 0] 87)).alloc (Obj.cells #[.int .i64 more.a,.int .i64 more.b,.int .i64 more.c,.int .i64 more.d] 82)=W0:=⟨_,rfl⟩
 have hB0:Below w.heap.size w W0:=by subst hW0;go_grown
 have hs0:W0.heap.size=w.heap.size+3:=by subst hW0;simp
 have hd0:B6 W0 w.heap.size (.slice D.ta D.ts.length D.tc) (.slice D.ga D.gs.length D.gc) (.slice D.oa D.os.length D.oc) (.slice D.ha D.hs.length D.hc) (.slice D.ca D.cs.length D.cc) (.map (some M)):=by subst hW0;exact ⟨by go_cell,by go_cell,by go_cell,by go_cell,by go_cell,by go_cell⟩
 have hx0:SX W0 (w.heap.size+1) z:=by subst hW0;exact ⟨by go_cell,by go_cell,by go_cell,by go_cell,by go_cell,by go_cell,by go_cell,by go_cell,by go_cell,by go_cell,by go_cell,by go_cell,by go_cell⟩
 have hm0:PB W0 (w.heap.size+1+1) more:=by subst hW0;exact PB.of (by go_cell) (by go_cell) (by go_cell) (by go_cell) (by go_cell) (by go_cell) (by go_cell) (by go_cell)
 have hml:=h.kn.lt
 have HST:=Lib.hid h
 have HA:=Lib.hid hA
 have HR:=Lib.hid hr
 have HLE:=Lib.hid hle
 have HMO:=Lib.hid hmo
 have HD:=Lib.hid hd0
 have HX0:=Lib.hid hx0
 have HM0:=Lib.hid hm0
 have HB0:=Lib.hid hB0
 have hw0:=h.bel.size
 clear h hA hr hle hmo hd0 hx0 hm0 hB0
 unfold dm
 go_enter (sf 85 f85),ntmps85
 go_wp2
 try rw [hW0]
 clear hW0
 go_loopw [15,9] (fun i2 u wr=>∃(k m:Nat),i2=.int .i64 k∧u=.int .i64 m∧k≤l.length∧Hid (St D M (fun b=>A b∨b=w.heap.size+1) w0 wr)∧Hid (w.grownBy wr (some M))∧Hid (∃q,SX wr (w.heap.size+1) q)∧Hid (Mod (fun b=>b=M∨b=w.heap.size+1) W0 wr)∧Hid (m=zP D (l.take k) more)) (fun i2 _ _=>l.length - (intOf i2).toNat)
 case atStart=>exact ⟨0,0,rfl,rfl,Nat.zero_le _,Lib.hid ((HST.out.mod (S:=fun _=>False) (Mod.refl _ _) (fun _ e=>e.elim) (fun b hb=>by rcases hb with hb | hb;exact .inl hb;exact .inr (by omega))).keep HB0.out),Lib.hid (qi HB0.out),Lib.hid ⟨_,HX0.out⟩,Lib.hid (Mod.refl _ _),Lib.hid rfl⟩
 case round =>
  obtain ⟨k,m,rfl,rfl,hk,HS,HG,HQ,HMD,HM⟩:=hrel
  have hsz:=HMD.out.size
  by_cases hlt:k < l.length
  ·have hrR:=HST.out.rows HG.out HR.out
   obtain ⟨b,o,rfl,hP⟩:=hrR (by omega)
   obtain ⟨p,hp⟩:∃p,l[k]? = some p:=⟨l[k],by simp [hlt]⟩
   have c0:=hP k p hp 0 _ rfl
   have c1:=hP k p hp 1 _ rfl
   have c2:=hP k p hp 2 _ rfl
   have c3:=hP k p hp 3 _ rfl
   simp only [Nat.add_zero] at c0
   have hkc:(k:Int)≤(c:Int):=by omega
   have hlp:=HLE.out p (List.mem_of_getElem? hp)
   obtain ⟨q,hq⟩:=HQ.out
   have HSX:=Lib.hid hq
   have hdW:=HD.out.mod HMD.out (show ¬ (w.heap.size=M∨w.heap.size=w.heap.size+1) by omega)
   have hmW:=HM0.out.mod HMD.out (show ¬ (w.heap.size+1+1=M∨w.heap.size+1+1=w.heap.size+1) by omega)
   have HPK:=Lib.hid (And.intro hp hlp)
   have HDW:=Lib.hid hdW
   have HMW:=Lib.hid hmW
   clear hP hp hlp hq hdW hmW hrR
   go_upto_region 5 with fail
   obtain ⟨W,hW⟩:∃W,wr.alloc (Obj.cells #[.int .i64 p.a,.int .i64 p.b,.int .i64 p.c,.int .i64 p.d] 82)=W:=⟨_,rfl⟩
   have hBW:Below wr.heap.size wr W:=by subst hW;go_grown
   have hsW:W.heap.size=wr.heap.size+1:=by subst hW;simp
   have hq:PB W wr.heap.size p:=by subst hW;exact PB.of (by go_cell) (by go_cell) (by go_cell) (by go_cell) (by go_cell) (by go_cell) (by go_cell) (by go_cell)
   rw [hW]
   obtain ⟨m0,m1,m2,m3⟩:=(HMW.out.keep hBW).four
   have HPB:=Lib.hid hq
   have HBW:=Lib.hid hBW
   clear hW hq hBW c0 c1 c2 c3
   by_cases hz:more=zT
   ·subst hz
    simp only [zT] at m0 m1 m2 m3
    have hneq:=fun X=>qbh 0 0 0 0 0 0 0 0 X
    simp only [beq_self_eq_true,Bool.and_true,Bool.not_true] at hneq
    have hp4:p.add zT=p:=PastM.add_zero p
    have HPX:Hid (PB W wr.heap.size (p.add zT)):=Lib.hid (by rw [hp4];exact HPB.out)
    have HMX:Hid (Mod (fun b=>b=wr.heap.size) W W):=Lib.hid (Mod.refl _ _)
    clear hp4
    go_upto_region 11 with fail
    obtain ⟨X,hX⟩:∃X,X=W:=⟨_,rfl⟩
    rw [← hX] at HPX HMX ⊢
    have HMX:Hid (Mod (fun b=>b=wr.heap.size) W X):=Lib.hid (by rw [hX];exact Mod.refl _ _)
    have hszX:X.heap.size=wr.heap.size+1:=by rw [hX];exact hsW
    clear hX
    have hBX:Below wr.heap.size wr X:=HBW.out.trans (HMX.out.keep (by omega) (fun b hb=>by omega))
    have hsX:=hBX.size
    have hxX:=(HSX.out.keep hBX)
    have hst11:=HS.out.keep hBX
    have hmod11:Mod (fun b=>b=M∨b=w.heap.size+1) W0 X:=HMD.out.trans (Mod.below hBX)
    obtain ⟨p0,p1,p2,p3⟩:=HPX.out.four
    have HX:=Lib.hid hxX
    have hrle:(p.add zT).le 9:=by have h9:=PastM.le_add HPK.out.2 HMO.out;exact fun g=>by have:=h9 g;omega
    obtain ⟨r,hr⟩:∃r,p.add zT=r:=⟨_,rfl⟩
    rw [hr] at p0 p1 p2 p3 hrle
    have HRR:=Lib.hid hr
    have HST11:=Lib.hid (And.intro hst11 (And.intro hmod11 hBX))
    obtain ⟨x0,x1,x2,x3,-,-,-,-,-,g0,g1,g2,g3⟩:=hxX
    have hwlt:w.heap.size+1 < X.heap.size:=by omega
    clear hst11 hmod11 hBX hr
    go_upto_region 12 with fail
    have hY:=HX.out.put r
    have hYm:=qbj X (w.heap.size+1) r
    obtain ⟨Y,hYe⟩:∃Y,qcA X (w.heap.size+1) r=Y:=⟨_,rfl⟩
    rw [hYe] at hY hYm
    unfold qcA at hYe
    rw [hYe]
    have hstY:=HST11.out.1.mod (A':=fun b=>A b∨b=w.heap.size+1) hYm (fun b hb=>⟨.inr hb,by omega,by omega⟩) (fun b hb=>.inl hb)
    have hmY:Mod (fun b=>b=M∨b=w.heap.size+1) W0 Y:=HST11.out.2.1.trans (hYm.mono (fun b e=>.inr e))
    have hgY:w.grownBy Y (some M):=zC (ql HG.out (qi HST11.out.2.2)) hYm (fun b hb=>by omega)
    have hlo:=Xr D M _ w0 Y hstY (setOf r) (by simp [setOf]) (fun g=>by have:=hrle g;show 0≤r.get g∧r.get g≤100;omega) (by simp [setOf]) (fun b hb=>by have:=hYm.size;rcases hb with hb | hb;have:=HA.out b hb;omega;omega)
    rw [qbf] at hlo
    unfold dm at hlo
    simp only [qL] at hlo
    simp only [show (setOf r).p=r from rfl,show (setOf r).away=0 from rfl,show (setOf r).order=-1 from rfl,show (setOf r).t0=0 from rfl,show (setOf r).t1=0 from rfl,show (setOf r).t2=0 from rfl] at hlo
    have hdY:=(HDW.out.mod (Mod.below HST11.out.2.2 (S:=fun b=>b=w.heap.size+1)) (by omega)).mod hYm (show ¬ w.heap.size=w.heap.size+1 by omega)
    obtain ⟨d0,d1,d2,d3,d4,d5⟩:=hdY
    have hYs:=hYm.size
    have HY:=Lib.hid hY
    obtain ⟨y0,y1,y2,y3,y4,y5,y6,y7,y8,-,-,-,-⟩:=hY
    have HF:=Lib.hid (And.intro hgY hmY)
    have hwn:zP D (l.take (k+1)) zT=max m (Jd D (setOf r)):=by rw [List.take_add_one,HPK.out.1,← HRR.out];show zP D (l.take k ++ [p]) zT=_;rw [Xb,← HM.out]
    have HWN:=Lib.hid hwn
    obtain ⟨n,hn⟩:∃n,Jd D (setOf r)=n:=⟨_,rfl⟩
    rw [hn] at hlo HWN
    clear hYe hYm hstY hmY hgY hwn p0 p1 p2 p3 x0 x1 x2 x3 g0 g1 g2 g3 hrle hneq m0 m1 m2 m3 hn
    have hmx:Value.int .i64 (max (m:Int) (n:Int))=.int .i64 ((max m n:Nat):Int):=by rw [qbg]
    go_wp2_with (go_at_call 57;(with_reducible refine hlo.mono ?_);rintro e Z ⟨rfl,hst5,hg5⟩)
    have hmZ:=Mod.grown hg5 (S:=fun b=>b=M) (fun b e=>(Option.some.inj e).symm)
    go_roundw
    case rel=>exact ⟨k+1,max m n,rfl,(by first | rfl | exact hmx),by omega,Lib.hid hst5,Lib.hid (ql HF.out.1 hg5),Lib.hid ⟨r,HY.out.mod hmZ (show ¬ w.heap.size+1=M by omega)⟩,Lib.hid (HF.out.2.trans (hmZ.mono (fun b e=>.inl e))),Lib.hid HWN.out.symm⟩
    case measure=>simp [intOf];omega
   ·have hneq:=fun X=>qbh more.a more.b more.c more.d 0 0 0 0 X
    have hnb:(!(more.a == 0 && (more.b == 0 && (more.c == 0 && (more.d == 0 && true)))))=true:=by
     obtain ⟨ma,mb,mc,md⟩:=more
     simp only [zT,PastM.mk.injEq] at hz
     simp only
     by_cases h1:ma=0 <;> by_cases h2:mb=0 <;> by_cases h3:mc=0 <;> by_cases h4:md=0 <;> simp_all
    simp only [hnb] at hneq
    clear hnb
    have hmle:=HMO.out
    have hple:=HPK.out.2
    have HLL:=Lib.hid (And.intro hmle hple)
    clear hmle hple
    go_wp2
    obtain ⟨WR,hWR⟩:∃WR,WR=wr:=⟨_,rfl⟩
    subst hWR
    go_loopw [22] (fun i3 wx=>∃(j:Nat) (q5:PastM),i3=.int .i64 j∧j≤4∧Hid (PB wx WR.heap.size q5)∧Hid (Mod (fun b=>b=WR.heap.size) W wx)∧Hid (∀g,g < 4→q5.get g=if g < j then p.get g+more.get g else p.get g)) (fun i3 _=>4 - (intOf i3).toNat)
    case atStart=>exact ⟨0,p,rfl,by omega,HPB,Lib.hid (Mod.refl _ _),Lib.hid (fun g _=>by rw [if_neg (by omega)])⟩
    case round =>
     obtain ⟨j,q5,rfl,hj,HP5,HM5,HQ5⟩:=hrel
     by_cases hj4:j < 4
     ·have e0:=HP5.out.c j hj4
      have f0:=HP5.out.f j hj4
      have e1:=(HMW.out.keep HBW.out).mod HM5.out (show ¬ w.heap.size+1+1=WR.heap.size by omega)
      have e1:=e1.c j hj4
      have hq5:q5.get j=p.get j:=by have h:=HQ5.out j hj4;rwa [if_neg (by omega)] at h
      rw [hq5] at e0
      have hj0:(0:Int)≤(j:Int):=Int.natCast_nonneg j
      have hji:(j:Int) < 4:=by omega
      have hwr:wrap64 (p.get j+more.get j)=p.get j+more.get j:=wrap_le (HLL.out.2 j) (HLL.out.1 j)
      have hwlx:=lt_of_cell e0
      simp only at hwlx
      go_upto_region 9 with fail
      go_region
      all_goals
       go_wp2
       go_roundw
       case rel =>
        refine ⟨j+1,q5.set j (p.get j+more.get j),rfl,by omega,Lib.hid ?_,Lib.hid ?_,Lib.hid (fun g hg=>?_)⟩
        ·first | exact (HP5.out.keep ((Below.refl _ wr).drew)).put hj4 _ | exact HP5.out.put hj4 _ | exact (HP5.out.put hj4 _).keep ((Below.refl _ _).drew)
        ·first | exact (HM5.out.trans (Mod.below ((Below.refl _ wr).drew))).put ⟨WR.heap.size,j,none⟩ _ rfl | exact HM5.out.put ⟨WR.heap.size,j,none⟩ _ rfl | exact (HM5.out.put ⟨WR.heap.size,j,none⟩ _ rfl).trans (Mod.below ((Below.refl _ _).drew))
        ·by_cases e:g=j
         ·subst e
          rw [PastM.get_set _ hg,if_pos (by omega)]
         ·rw [PastM.get_set_ne _ hj4 hg e,HQ5.out g hg]
          by_cases h1:g < j
          ·rw [if_pos h1,if_pos (by omega)]
          ·rw [if_neg h1,if_neg (by omega)]
       case measure=>simp [intOf];omega
     ·obtain rfl:j=4:=by omega
      have hq6:q5=p.add more:=PastM.same fun g hg=>by rw [HQ5.out g hg,if_pos hg,PastM.add_get]
      rw [hq6] at HP5
      clear hq6 HQ5 hj4 hj
      obtain ⟨X,hX⟩:∃X,X=wr:=⟨_,rfl⟩
      subst hX
      obtain ⟨wr,hX⟩:∃X,X=WR:=⟨_,rfl⟩
      subst hX
      have HPX:=HP5
      have HMX:=HM5
      go_upto_region 11 with fail
      have hBX:Below wr.heap.size wr X:=HBW.out.trans (HMX.out.keep (by omega) (fun b hb=>by omega))
      have hsX:=hBX.size
      have hxX:=(HSX.out.keep hBX)
      have hst11:=HS.out.keep hBX
      have hmod11:Mod (fun b=>b=M∨b=w.heap.size+1) W0 X:=HMD.out.trans (Mod.below hBX)
      obtain ⟨p0,p1,p2,p3⟩:=HPX.out.four
      have HX:=Lib.hid hxX
      have hrle:(p.add more).le 9:=by have h9:=PastM.le_add HPK.out.2 HMO.out;exact fun g=>by have:=h9 g;omega
      obtain ⟨r,hr⟩:∃r,p.add more=r:=⟨_,rfl⟩
      rw [hr] at p0 p1 p2 p3 hrle
      have HRR:=Lib.hid hr
      have HST11:=Lib.hid (And.intro hst11 (And.intro hmod11 hBX))
      obtain ⟨x0,x1,x2,x3,-,-,-,-,-,g0,g1,g2,g3⟩:=hxX
      have hwlt:w.heap.size+1 < X.heap.size:=by omega
      clear hst11 hmod11 hBX hr
      go_upto_region 12 with fail
      have hY:=HX.out.put r
      have hYm:=qbj X (w.heap.size+1) r
      obtain ⟨Y,hYe⟩:∃Y,qcA X (w.heap.size+1) r=Y:=⟨_,rfl⟩
      rw [hYe] at hY hYm
      unfold qcA at hYe
      rw [hYe]
      have hstY:=HST11.out.1.mod (A':=fun b=>A b∨b=w.heap.size+1) hYm (fun b hb=>⟨.inr hb,by omega,by omega⟩) (fun b hb=>.inl hb)
      have hmY:Mod (fun b=>b=M∨b=w.heap.size+1) W0 Y:=HST11.out.2.1.trans (hYm.mono (fun b e=>.inr e))
      have hgY:w.grownBy Y (some M):=zC (ql HG.out (qi HST11.out.2.2)) hYm (fun b hb=>by omega)
      have hlo:=Xr D M _ w0 Y hstY (setOf r) (by simp [setOf]) (fun g=>by have:=hrle g;show 0≤r.get g∧r.get g≤100;omega) (by simp [setOf]) (fun b hb=>by have:=hYm.size;rcases hb with hb | hb;have:=HA.out b hb;omega;omega)
      rw [qbf] at hlo
      unfold dm at hlo
      simp only [qL] at hlo
      simp only [show (setOf r).p=r from rfl,show (setOf r).away=0 from rfl,show (setOf r).order=-1 from rfl,show (setOf r).t0=0 from rfl,show (setOf r).t1=0 from rfl,show (setOf r).t2=0 from rfl] at hlo
      have hdY:=(HDW.out.mod (Mod.below HST11.out.2.2 (S:=fun b=>b=w.heap.size+1)) (by omega)).mod hYm (show ¬ w.heap.size=w.heap.size+1 by omega)
      obtain ⟨d0,d1,d2,d3,d4,d5⟩:=hdY
      have hYs:=hYm.size
      have HY:=Lib.hid hY
      obtain ⟨y0,y1,y2,y3,y4,y5,y6,y7,y8,-,-,-,-⟩:=hY
      have HF:=Lib.hid (And.intro hgY hmY)
      have hwn:zP D (l.take (k+1)) more=max m (Jd D (setOf r)):=by rw [List.take_add_one,HPK.out.1,← HRR.out];show zP D (l.take k ++ [p]) more=_;rw [Xb,← HM.out]
      have HWN:=Lib.hid hwn
      obtain ⟨n,hn⟩:∃n,Jd D (setOf r)=n:=⟨_,rfl⟩
      rw [hn] at hlo HWN
      clear hYe hYm hstY hmY hgY hwn p0 p1 p2 p3 x0 x1 x2 x3 g0 g1 g2 g3 hrle hneq m0 m1 m2 m3 hn
      have hmx:Value.int .i64 (max (m:Int) (n:Int))=.int .i64 ((max m n:Nat):Int):=by rw [qbg]
      go_wp2_with (go_at_call 57;(with_reducible refine hlo.mono ?_);rintro e Z ⟨rfl,hst5,hg5⟩)
      have hmZ:=Mod.grown hg5 (S:=fun b=>b=M) (fun b e=>(Option.some.inj e).symm)
      go_roundw
      case rel=>exact ⟨k+1,max m n,rfl,(by first | rfl | exact hmx),by omega,Lib.hid hst5,Lib.hid (ql HF.out.1 hg5),Lib.hid ⟨r,HY.out.mod hmZ (show ¬ w.heap.size+1=M by omega)⟩,Lib.hid (HF.out.2.trans (hmZ.mono (fun b e=>.inl e))),Lib.hid HWN.out.symm⟩
      case measure=>simp [intOf];omega
  ·obtain rfl:k=l.length:=by omega
   have hM:=HM.out
   rw [List.take_length] at hM
   have HMM:=Lib.hid hM
   clear hM
   go_wp2
   go_ret
   exact ⟨by rw [HMM.out];rfl,HS.out.mod (S:=fun _=>False) (Mod.refl _ _) (fun _ e=>e.elim) (fun b hb=>.inl (.inl hb)),HG.out⟩
theorem nt_tried:qeD.ntmps=17:=rfl
@[go_sem] theorem c_tried (args:Array Value) (w:World):(callFunc 70 args).run qj w=.ok (.enter 70 args) w:=Go.Sim.enter_of Qy (by kernel_rfl) (by kernel_rfl) args w
theorem re_tried:qeD.results=#[.tmp 8]:=by kernel_rfl
set_option maxHeartbeats 4000000 in
set_option maxRecDepth 100000 in
theorem Jy (D:DayM) (m:Option Nat) (w:World) (h:DayAt w D) (hs:DaySm D) (hz:checkN D=0) (l:List PastM) (a:Option Addr) (c:Nat) (hlen:l.length≤81) (hlc:l.length≤c) (hr:qh w 4 QK a l) (hle:∀p∈l,p.le 6) (z more:PastM) (hmo:more.le 3) :
 Calls qj 70 #[dm D m,.slice a l.length c,.agg #[.int .i64 z.a,.int .i64 z.b,.int .i64 z.c,.int .i64 z.d,.int .u64 0,.int .i64 (-1),.int .i64 0,.int .i64 0,.int .i64 0],.agg #[.int .i64 more.a,.int .i64 more.b,.int .i64 more.c,.int .i64 more.d]] w fun e w'=>e=.returned (.int .i64 (zP D l more))∧Below w.heap.size w w':=by
 obtain ⟨W,hW⟩:∃W,(((w.alloc (Obj.cells #[.slice D.ta D.ts.length D.tc,.slice D.ga D.gs.length D.gc,.slice D.oa D.os.length D.oc,.slice D.ha D.hs.length D.hc,.slice D.ca D.cs.length D.cc,.map m] 74)).alloc (Obj.cells #[.slice a l.length c] 75)).alloc (Obj.cells #[.int .i64 z.a,.int .i64 z.b,.int .i64 z.c,.int .i64 z.d,.int .u64 0,.int .i64 (-1),.int .i64 0,.int .i64 0,.int .i64 0] 87)).alloc (Obj.cells #[.int .i64 more.a,.int .i64 more.b,.int .i64 more.c,.int .i64 more.d] 82)=W:=⟨_,rfl⟩
 have hBW:Below w.heap.size w W:=by subst hW;go_grown
 have hsW:W.heap.size=w.heap.size+4:=by subst hW;simp
 have hmk:=Jf W
 have hGM:=jH.new (enc:=qL) W
 have hBm:=(Below.refl W.heap.size W).alloc (Nat.le_refl _) (Obj.map #[] 0)
 have hx0:SX W (w.heap.size+1+1) z:=by subst hW;exact ⟨by go_cell,by go_cell,by go_cell,by go_cell,by go_cell,by go_cell,by go_cell,by go_cell,by go_cell,by go_cell,by go_cell,by go_cell,by go_cell⟩
 have hm0:PB W (w.heap.size+1+1+1) more:=by subst hW;exact PB.of (by go_cell) (by go_cell) (by go_cell) (by go_cell) (by go_cell) (by go_cell) (by go_cell) (by go_cell)
 have k0:W.cell? ⟨w.heap.size,0,none⟩=some (.slice D.ta D.ts.length D.tc):=by subst hW;go_cell
 have k1:W.cell? ⟨w.heap.size,1,none⟩=some (.slice D.ga D.gs.length D.gc):=by subst hW;go_cell
 have k2:W.cell? ⟨w.heap.size,2,none⟩=some (.slice D.oa D.os.length D.oc):=by subst hW;go_cell
 have k3:W.cell? ⟨w.heap.size,3,none⟩=some (.slice D.ha D.hs.length D.hc):=by subst hW;go_cell
 have k4:W.cell? ⟨w.heap.size,4,none⟩=some (.slice D.ca D.cs.length D.cc):=by subst hW;go_cell
 have hl0:W.cell? ⟨w.heap.size+1,0,none⟩=some (.slice a l.length c):=by subst hW;go_cell
 obtain ⟨X,hX⟩:∃X,W.alloc (Obj.map #[] 0)=X:=⟨_,rfl⟩
 rw [hX] at hmk hGM hBm
 rw [hsW] at hmk hGM
 have hBX:=bcl hBW hBm
 have hst:St D (w.heap.size+4) (fun _=>False) w X:=St.open h hs hz hBX (by omega) hGM
 have hwo:=JD D (w.heap.size+4) (fun _=>False) w X hst (fun b hb=>hb.elim) l a c hlen hlc (hr.keep hBX) hle z more hmo
 unfold dm at hwo ⊢
 obtain ⟨m0,m1,m2,m3⟩:=(hm0.keep hBm).four
 obtain ⟨x0,x1,x2,x3,x4,x5,x6,x7,x8,-,-,-,-⟩:=hx0.keep hBm
 have k0:=qb _ hBm k0
 have k1:=qb _ hBm k1
 have k2:=qb _ hBm k2
 have k3:=qb _ hBm k3
 have k4:=qb _ hBm k4
 have hl0:=qb _ hBm hl0
 have HF:=Lib.hid hBX
 clear h hs hz hr hle hGM hBm hx0 hm0 hX hBX hst
 go_enter Qy,nt_tried
 unfold Qb sO op2
 go_wp2_with (go_at_call 85;(with_reducible refine hwo.mono ?_);rintro e w1 ⟨rfl,hst1,hg1⟩)
 refine bodyPost_ret (results_tmp re_tried _ _ _) rfl ⟨rfl,hst1.bel⟩
abbrev oneP (i:Nat):PastM:=zT.set i 1
theorem oneP_le {i:Nat} (hi:i < 4):(oneP i).le 3:=PastM.le_set (ZE (by decide)) hi ⟨by decide,by decide⟩
set_option maxHeartbeats 4000000 in
set_option maxRecDepth 100000 in
theorem qdW (D:DayM) (m:Option Nat) (w:World) (h:DayAt w D) (hs:DaySm D) (hz:checkN D=0) (db lb sb:Nat) (hd:B6 w db (.slice D.ta D.ts.length D.tc) (.slice D.ga D.gs.length D.gc) (.slice D.oa D.os.length D.oc) (.slice D.ha D.hs.length D.hc) (.slice D.ca D.cs.length D.cc) (.map m)) (a:Option Addr) (c:Nat) (hlc:(qo D).length≤c) (hr:qh w 4 QK a (qo D))
 (hl:w.cell? ⟨lb,0,none⟩=some (.slice a (qo D).length c)) (z:PastM) (hx:SX w sb z) (i:Nat) (hi:i < 4) :
 Calls qj 71 #[.int .i64 i,pt db,pt lb,pt sb] w fun e w'=>e=.returned (.int .i64 (zP D (qo D) (oneP i)))∧Below w.heap.size w w':=by
 have hN:=qN hz
 have htr:=fun X (hX:Below w.heap.size w X)=>Jy D m X (h.keep hX) hs hz (qo D) a c (by omega) hlc (hr.keep hX) (XC hz) z (oneP i) (oneP_le hi)
 have HT:=Lib.hid htr
 have hi0:(0:Int)≤(i:Int):=Int.natCast_nonneg i
 have hi4:(i:Int) < 4:=by omega
 have HD:=Lib.hid hd
 have HX:=Lib.hid hx
 have HL:=Lib.hid hl
 clear h hs hz hr htr
 obtain ⟨W,hW⟩:∃W,w.alloc (Obj.cells #[.int .i64 0,.int .i64 0,.int .i64 0,.int .i64 0] 82)=W:=⟨_,rfl⟩
 have hBW:Below w.heap.size w W:=by subst hW;go_grown
 have hp0:PB W w.heap.size ⟨0,0,0,0⟩:=by subst hW;exact PB.of (by go_cell) (by go_cell) (by go_cell) (by go_cell) (by go_cell) (by go_cell) (by go_cell) (by go_cell)
 have hp0:PB W w.heap.size zT:=hp0
 go_enter (sf 71 f71),ntmps71
 go_upto_region 2 with fail
 try rw [hW]
 have ci:=hp0.c i hi
 have fi:=hp0.f i hi
 clear hW hd hx hl
 go_upto_region 3 with fail
 have hp1:=hp0.put hi 1
 have hB1:Below w.heap.size w (W.setCell ⟨w.heap.size,i,none⟩ (.int .i64 1)):=hBW.setCell (p:=⟨w.heap.size,i,none⟩) (Nat.le_refl _) _
 obtain ⟨X,hX⟩:∃X,W.setCell ⟨w.heap.size,i,none⟩ (.int .i64 1)=X:=⟨_,rfl⟩
 try rw [hX]
 rw [hX] at hp1 hB1
 have ht:=HT.out X hB1
 unfold dm at ht
 obtain ⟨p0,p1,p2,p3⟩:=hp1.four
 obtain ⟨d0,d1,d2,d3,d4,d5⟩:=HD.out.keep hB1
 obtain ⟨x0,x1,x2,x3,x4,x5,x6,x7,x8,-,-,-,-⟩:=HX.out.keep hB1
 have hl1:=qb _ hB1 HL.out
 clear hX ci fi hp0 hp1 hBW
 go_wp2_with (go_at_call 70;(with_reducible refine ht.mono ?_);rintro e w1 ⟨rfl,hB2⟩)
 go_ret
 exact ⟨rfl,Below.call hB1 hB2 (by have:=hB1.size;omega)⟩
def qag (D:DayM):Int×Int:=qcJ (fun i=>zP D (qo D) (oneP i.toNat)) (jJ D.gs.length) (zP D (qo D) zT)
set_option maxHeartbeats 4000000 in
set_option maxRecDepth 100000 in
theorem Xu (D:DayM) (w:World) (h:DayAt w D) (hs:DaySm D) (hG:Globs w):Calls qj 25 #[dv D] w (TwoP (zf D 0) (qag D) w):=by
 obtain ⟨W,hW⟩:∃W,w.alloc (Obj.cells #[.slice D.ta D.ts.length D.tc,.slice D.ga D.gs.length D.gc,.slice D.oa D.os.length D.oc,.slice D.ha D.hs.length D.hc,.slice D.ca D.cs.length D.cc] 28)=W:=⟨_,rfl⟩
 have hBW:Below w.heap.size w W:=by subst hW;go_grown
 have hsW:W.heap.size=w.heap.size+1:=by subst hW;simp
 have k0:W.cell? ⟨w.heap.size,0,none⟩=some (.slice D.ta D.ts.length D.tc):=by subst hW;go_cell
 have k1:W.cell? ⟨w.heap.size,1,none⟩=some (.slice D.ga D.gs.length D.gc):=by subst hW;go_cell
 have k2:W.cell? ⟨w.heap.size,2,none⟩=some (.slice D.oa D.os.length D.oc):=by subst hW;go_cell
 have k3:W.cell? ⟨w.heap.size,3,none⟩=some (.slice D.ha D.hs.length D.hc):=by subst hW;go_cell
 have k4:W.cell? ⟨w.heap.size,4,none⟩=some (.slice D.ca D.cs.length D.cc):=by subst hW;go_cell
 have hask:=yG D W (h.keep hBW) hs (hG.keep hBW) 55 #[] (cE 55 (by decide +kernel)) 0 (fun M V hM hB=>by unfold dm;exact yF _ _ _ _ _ _ V)
 have hdv:dv D=.agg #[.slice D.ta D.ts.length D.tc,.slice D.ga D.gs.length D.gc,.slice D.oa D.os.length D.oc,.slice D.ha D.hs.length D.hc,.slice D.ca D.cs.length D.cc]:=rfl
 rw [hdv] at hask ⊢
 have HD:=Lib.hid (And.intro h hs)
 unfold TwoP
 clear h hs hG hdv
 by_cases ha:zf D 0=0
 ·have hz:=yf ha
  have hok:=hask.mono (fun e w' h=>h.ok ha)
  have HA:=Lib.hid ha
  have HZ:=Lib.hid hz.1
  clear hask ha hz
  have has:=fun X=>zG zT X
  unfold pvP at has
  have HAS:=Lib.hid has
  clear has
  go_enter (sf 25 f25),ntmps25
  go_upto_region 1 with fail
  try rw [hW]
  clear hW
  unfold dm at hok
  go_upto_region 4 with (go_at_call 33;(with_reducible refine hok.mono ?_);rintro e w1 ⟨M,a,c,rfl,hpos,hlc,hrow,hfr,hst⟩;have hs1:=hst.bel.size)
  have hML:=hst.kn.lt
  obtain ⟨V2,hV2⟩:∃V2,(w1.alloc (Obj.cells #[.slice D.ta D.ts.length D.tc,.slice D.ga D.gs.length D.gc,.slice D.oa D.os.length D.oc,.slice D.ha D.hs.length D.hc,.slice D.ca D.cs.length D.cc,.map (some M)] 74)).alloc (Obj.cells #[.slice a (qo D).length c] 75)=V2:=⟨_,rfl⟩
  have hBV:Below w1.heap.size w1 V2:=by subst hV2;go_grown
  have h7:B6 V2 w1.heap.size (.slice D.ta D.ts.length D.tc) (.slice D.ga D.gs.length D.gc) (.slice D.oa D.os.length D.oc) (.slice D.ha D.hs.length D.hc) (.slice D.ca D.cs.length D.cc) (.map (some M)):=by subst hV2;exact ⟨by go_cell,by go_cell,by go_cell,by go_cell,by go_cell,by go_cell⟩
  have hl7:V2.cell? ⟨w1.heap.size+1,0,none⟩=some (.slice a (qo D).length c):=by subst hV2;go_cell
  have hszV:V2.heap.size=w1.heap.size+2:=by subst hV2;simp
  obtain ⟨T,hT⟩:∃T,w1.heap.size=T:=⟨_,rfl⟩
  try rw [hV2]
  have hsV:=hst.keep hBV
  have hrV:=hrow.keep hBV
  rw [hT] at h7 hl7 hML hszV ⊢
  have H7:=Lib.hid (And.intro h7 (And.intro hl7 (And.intro hsV hrV)))
  have HBW:=Lib.hid hBW
  clear hBV hV2 hrow hrV hst hok hfr k0 k1 k2 k3 k4 h7 hl7 hsV hBW
  have hasV:=HAS.out V2
  simp only [zT,qL,setOf] at hasV
  go_upto_region 5 with (go_at_call 39;(with_reducible refine hasV.mono ?_);rintro e w2 ⟨rfl,hB2⟩;have hs2:=hB2.size)
  obtain ⟨V3,hV3⟩:∃V3,w2.alloc (Obj.cells #[.int .i64 0,.int .i64 0,.int .i64 0,.int .i64 0,.int .u64 0,.int .i64 (-1),.int .i64 0,.int .i64 0,.int .i64 0] 87)=V3:=⟨_,rfl⟩
  have hB3:Below V2.heap.size V2 V3:=bcl hB2 (by subst hV3;go_grown)
  have hx3:SX V3 w2.heap.size ⟨0,0,0,0⟩:=by subst hV3;exact ⟨by go_cell,by go_cell,by go_cell,by go_cell,by go_cell,by go_cell,by go_cell,by go_cell,by go_cell,by go_cell,by go_cell,by go_cell,by go_cell⟩
  have hz3:V3.heap.size=w2.heap.size+1:=by subst hV3;simp
  obtain ⟨B,hB⟩:∃B,w2.heap.size=B:=⟨_,rfl⟩
  try rw [hV3]
  rw [hB] at hx3 hz3 hs2 ⊢
  have h73:=H7.out.1.keep hB3
  have hl3:=qb _ hB3 H7.out.2.1
  have hs3:=H7.out.2.2.1.keep hB3
  have hr3:=H7.out.2.2.2.keep hB3
  have hg4:=(zF D HZ.out).gs
  have hup:=fun X=>qbp D.gs.length (by omega) X
  have htr:=fun X (hX:Below V3.heap.size V3 X)=>Jy D (some M) X (hs3.keep hX).day HD.out.2 HZ.out (qo D) a c (qN HZ.out) hlc (hr3.keep hX) (XC HZ.out) ⟨0,0,0,0⟩ zT (ZE (by decide))
  have hbe:=fun X (hX:Below V3.heap.size V3 X) (g:Nat) (hg:qh X 1 encI (some ⟨g,0,none⟩) (jJ D.gs.length))=>qaK 71 #[pt T,pt (T+1),pt B] (cE 71 (by decide +kernel)) (fun i=>zP D (qo D) (oneP i.toNat)) (jJ D.gs.length) (some ⟨g,0,none⟩) D.gs.length (zP D (qo D) zT) (by rw [yw];omega) (by rw [yw];exact Nat.le_refl _)
   (fun Y=>Below X.heap.size X Y) (fun Y hY=>hg.keep hY) X (Below.refl _ _) (fun i x hx Y hY=>by
     have hi:i < D.gs.length:=by have:=(List.getElem?_eq_some_iff.1 hx).1;rwa [yw] at this
     rw [Yt hi] at hx
     cases hx
     have hXY:=bcl hX hY
     exact (qdW D (some M) Y (hs3.keep hXY).day HD.out.2 HZ.out T (T+1) B (h73.keep hXY) a c hlc (hr3.keep hXY) (qb _ hXY hl3) ⟨0,0,0,0⟩ (hx3.keep hXY) i (by omega)).mono fun e w' ⟨he,hB9⟩=>⟨he,bcl hY hB9⟩)
  rw [yw] at hbe
  unfold dm at htr
  simp only [zT] at htr hbe
  have HF:=Lib.hid (And.intro HBW.out hs3)
  have HUP:=Lib.hid hup
  have HBE:=Lib.hid hbe
  have HTR:=Lib.hid htr
  obtain ⟨t0,t1,t2,t3,t4,t5⟩:=h73
  obtain ⟨y0,y1,y2,y3,y4,y5,y6,y7,y8,-,-,-,-⟩:=hx3
  have hS:RH16 V3 ⟨T,0,none⟩ ⟨T,1,none⟩ ⟨T,2,none⟩ ⟨T,3,none⟩ ⟨T,4,none⟩ ⟨T,5,none⟩ ⟨T+1,0,none⟩ ⟨B,0,none⟩ ⟨B,1,none⟩ ⟨B,2,none⟩ ⟨B,3,none⟩ ⟨B,4,none⟩ ⟨B,5,none⟩ ⟨B,6,none⟩ ⟨B,7,none⟩ ⟨B,8,none⟩ (.slice D.ta D.ts.length D.tc) (.slice D.ga D.gs.length D.gc) (.slice D.oa D.os.length D.oc) (.slice D.ha D.hs.length D.hc) (.slice D.ca D.cs.length D.cc) (.map (some M)) (.slice a (qo D).length c) (.int .i64 0) (.int .i64 0) (.int .i64 0) (.int .i64 0) (.int .u64 0) (.int .i64 (-1)) (.int .i64 0) (.int .i64 0) (.int .i64 0) V3:=⟨t0,t1,t2,t3,t4,t5,hl3,y0,y1,y2,y3,y4,y5,y6,y7,y8,Below.refl _ _⟩
  clear hV3 hB2 hB3 hup hbe htr t0 t1 t2 t3 t4 t5 y0 y1 y2 y3 y4 y5 y6 y7 y8 hl3 hs3 hr3 hasV
  refine wp_region_held_drew (S:=(RH16 V3 ⟨T,0,none⟩ ⟨T,1,none⟩ ⟨T,2,none⟩ ⟨T,3,none⟩ ⟨T,4,none⟩ ⟨T,5,none⟩ ⟨T+1,0,none⟩ ⟨B,0,none⟩ ⟨B,1,none⟩ ⟨B,2,none⟩ ⟨B,3,none⟩ ⟨B,4,none⟩ ⟨B,5,none⟩ ⟨B,6,none⟩ ⟨B,7,none⟩ ⟨B,8,none⟩ (.slice D.ta D.ts.length D.tc) (.slice D.ga D.gs.length D.gc) (.slice D.oa D.os.length D.oc) (.slice D.ha D.hs.length D.hc) (.slice D.ca D.cs.length D.cc) (.map (some M)) (.slice a (qo D).length c) (.int .i64 0) (.int .i64 0) (.int .i64 0) (.int .i64 0) (.int .u64 0) (.int .i64 (-1)) (.int .i64 0) (.int .i64 0) (.int .i64 0))) (by kernel_rfl) (by exact RHL.drew hS) (fun hHeld=>?_)
  (refine tk 0 ?_;try simp only [zs,Act.put])
  (refine tk 1 ?_;try simp only [zs,Act.put])
  (refine tk 2 ?_;try simp only [zs,Act.put])
  (refine tk 3 ?_;try simp only [zs,Act.put])
  (refine tk 5 ?_;try simp only [zs,Act.put])
  (refine tk 6 ?_;try simp only [zs,Act.put])
  (refine tk 7 ?_;try simp only [zs,Act.put])
  (refine tk 8 ?_;try simp only [zs,Act.put])
  (refine tk 10 ?_;try simp only [zs,Act.put])
  refine wpAnyH_ready (rs:=[4]) (by kernel_rfl) (by simp) ?_;refine AllReadyH.cons rfl (fun K hK=>?_) AllReadyH.nil;go_simp;go_wp2_with (go_at_call 69;(with_reducible refine (HUP.out _).mono ?_);rintro e X4 ⟨rfl,hrU,hB4⟩);refine hK.out _ _ (by exact RHL.call hHeld hB4) (fun hHeldN=>?_);clear hK K hHeld;have hHeld:=hHeldN;clear hHeldN;try simp only [zs,Act.put]
  refine wpAnyH_ready (rs:=[9]) (by kernel_rfl) (by simp) ?_;refine AllReadyH.cons rfl (fun K hK=>?_) AllReadyH.nil;go_simp;go_wp2_with (go_at_call 70;(with_reducible refine (HTR.out _ (RHL.bel hHeld)).mono ?_);rintro e X ⟨rfl,hB5⟩);refine hK.out _ _ (by exact RHL.call hHeld hB5) (fun hHeldN=>?_);clear hK K hHeld;have hHeld:=hHeldN;clear hHeldN;try simp only [zs,Act.put]
  have hrU2:qh X 1 encI (some ⟨V3.heap.size,0,none⟩) (jJ D.gs.length):=qh.keep hrU hB5
  rw [hz3] at hrU2
  have hcl:=HBE.out X (RHL.bel hHeld) _ hrU2
  refine wpAnyH_ready (rs:=[11]) (by kernel_rfl) (by simp) ?_;refine AllReadyH.cons rfl (fun K hK=>?_) AllReadyH.nil;go_simp;go_wp2_with (go_at_call 68;(with_reducible refine hcl.mono ?_);rintro e Y ⟨rfl,hB9⟩);refine hK.out _ _ (by exact RHL.call hHeld hB9) (fun hHeldN=>?_);clear hK K hHeld;have hHeld:=hHeldN;clear hHeldN;try simp only [zs,Act.put]
  (refine tk 12 ?_;try simp only [zs,Act.put])
  (refine tk 13 ?_;try simp only [zs,Act.put])
  (refine tk 14 ?_;try simp only [zs,Act.put])
  (refine tk 15 ?_;try simp only [zs,Act.put])
  (refine tk 16 ?_;try simp only [zs,Act.put])
  refine wpAnyH_done (by kernel_rfl) ?_ _;try simp only [zs,Act.put]
  have hBf:=RHL.bel hHeld
  go_wp2
  go_ret3
  exact ⟨Below.call (Below.call HF.out.1 HF.out.2.bel (by omega)) hBf (by have:=HF.out.2.bel.size;omega),.inr ⟨HA.out,rfl⟩⟩
 ·have hbad:=hask.mono (fun e w' h=>h.bad ha)
  have hb:(zf D 0 != 0)=true:=by simpa using ha
  unfold dz at hbad
  have HA:=Lib.hid ha
  clear hask ha
  generalize zf D 0=r at *
  go_enter (sf 25 f25),ntmps25
  go_upto_region 1 with fail
  try rw [hW]
  clear hW
  go_wp2_with (go_at_call 33;(with_reducible refine hbad.mono ?_);rintro e w1 ⟨rfl,hB1⟩;have hs1:=hB1.size)
  go_ret3
  exact ⟨Below.call hBW (by go_grown) (by omega),.inl ⟨HA.out,rfl⟩⟩
def xu:Nat→Nat→Int→PastM→List PastM
 | 0,_,left,p=>if 0 < left then [] else [p]
 | m+1,i,left,p=>(QF 0 left).flatMap fun v=>xu m (i+1) (left - v) (p.set i v)
def qan (m i:Nat) (p:PastM) (v left:Int):List PastM:=(QF v left).flatMap fun v=>xu m (i+1) (left - v) (p.set i v)
theorem qcl {m i:Nat} {p:PastM} {v left:Int} (h:v≤left):qan m i p v left=xu m (i+1) (left - v) (p.set i v) ++ qan m i p (v+1) left:=by
 unfold qan
 rw [YJ h,List.flatMap_cons]
theorem qer {m i:Nat} {p:PastM} {v left:Int} (h:left < v):qan m i p v left=[]:=by
 unfold qan
 rw [XI h]
 rfl
theorem PastM.set_set (p:PastM) {i:Nat} (hi:i < 4) (u v:Int):(p.set i u).set i v=p.set i v:=PastM.same fun j hj=>by
 by_cases e:j=i
 ·subst e;rw [PastM.get_set _ hj,PastM.get_set _ hj]
 ·rw [PastM.get_set_ne _ hi hj e,PastM.get_set_ne _ hi hj e,PastM.get_set_ne _ hi hj e]
theorem PastM.set_zero (p:PastM) {i:Nat} (hi:i < 4) (h:p.get i=0):p.set i 0=p:=PastM.same fun j hj=>by
 by_cases e:j=i
 ·subst e;rw [PastM.get_set _ hj,h]
 ·rw [PastM.get_set_ne _ hi hj e]
structure MB (r s l n:Nat) (W:World) (q:PastM):Prop where
 nc:W.cell? ⟨r,0,none⟩=some (.int .i64 n)
 y:W.cell? ⟨s,0,none⟩=some (.func (.yield l) #[] #[])
 x:W.cell? ⟨s+2,0,none⟩=some (.func (.func 113) #[] #[pt r,pt s,pt (s+1),pt (s+2)])
 c:∀i,i < 4→W.cell? ⟨s+1,i,none⟩=some (.int .i64 (q.get i))
 f:∀i,i < 4→W.frozen? ⟨s+1,i,none⟩=false
section
variable {r s l n:Nat} {W W1:World} {q:PastM}
theorem MB.mod {S:Nat→Prop} (h:MB r s l n W q) (hm:Mod S W W1) (hr:¬ S r) (hs:∀b,s≤b→b < s+3→¬ S b):MB r s l n W1 q :=
 ⟨hm.cell h.nc hr,hm.cell h.y (hs _ (by simp) (by simp)),hm.cell h.x (hs _ (by simp) (by simp)),fun i hi=>hm.cell (h.c i hi) (hs _ (by simp) (by simp)),fun i hi=>(hm.frozen (h.c i hi) (hs _ (by simp) (by simp))).trans (h.f i hi)⟩
theorem MB.keep (h:MB r s l n W q) (hB:Below W.heap.size W W1):MB r s l n W1 q:=h.mod (S:=fun _=>False) (Mod.below hB) (fun e=>e) (fun _ _ _ e=>e)
theorem MB.put (h:MB r s l n W q) (hr:r < s) {i:Nat} (hi:i < 4) (v:Int):MB r s l n (W.setCell ⟨s+1,i,none⟩ (.int .i64 v)) (q.set i v):=by
 refine ⟨qf h.nc (.inl (by simp only;omega)),qf h.y (.inl (by simp)),qf h.x (.inl (by simp)),?_,?_⟩
 ·intro j hj
  by_cases e:j=i
  ·subst e
   rw [PastM.get_set _ hi]
   exact qp (qz (h.c j hj))
  ·rw [PastM.get_set_ne _ hi hj e]
   exact qf (h.c j hj) (.inr e)
 ·intro j hj
  simpa using h.f j hj
end
def NextP (r s l n:Nat) (J:World→Prop) (Jx:PastM→World→Prop) (p:PastM):Option PastM→Ending→World→Prop
 | none,e,W=>e=.returned (.bool true)∧J W∧MB r s l n W p
 | some q,e,W=>e=.returned (.bool false)∧Jx q W
theorem wrap_up9 {i:Int} (h0:0≤i) (h4:i≤5):IntKind.i64.wrap (i+1)=i+1:=by rw [IntKind.wrap_i64];omega
theorem wrap_dn9 {a b:Int} (h:0≤a∧a≤3) (k:0≤b∧b≤3):IntKind.i64.wrap (a - b)=a - b:=by rw [IntKind.wrap_i64];omega
theorem qeV {a b:Int} (h:0≤a∧a≤3) (k:0≤b∧b≤3):wrap64 (a - b)=a - b:=by unfold wrap64;omega
theorem JF {a:Int} (h:0≤a∧a≤5):wrap64 (a+1)=a+1:=by unfold wrap64;omega
set_option maxHeartbeats 4000000 in
set_option maxRecDepth 100000 in
theorem qdV {r s l n:Nat} {good:PastM→Bool} {J:World→Prop} {Jx:PastM→World→Prop} (hn:n≤4) (hrs:r < s)
 (jk:∀W W1,J W→Below W.heap.size W W1→J W1)
 (jp:∀W i v,J W→s+3≤W.heap.size→J (W.setCell ⟨s+1,i,none⟩ (.int .i64 v)))
 (jy:∀W q,J W→MB r s l n W q→q.le 3→YieldAt Fence.wide 1 qj l #[pvP q] W fun e W'=>NextP r s l n J Jx q (if good q then some q else none) e W') :
 ∀m i,i+m=n→∀W p left,0≤left→left≤3→J W→MB r s l n W p→(∀j,i≤j→j < 4→p.get j=0)→p.le 3 →
  Calls qj 113 #[.int .i64 i,.int .i64 left,pt r,pt s,pt (s+1),pt (s+2)] W (NextP r s l n J Jx p ((xu m i left p).find? good)):=by
 intro m
 induction m with
 | zero =>
   intro i hi W p left hl0 hl3 hJ hM hz hp
   obtain rfl:i=n:=by omega
   unfold xu
   by_cases hlt:0 < left
   ·rw [if_pos hlt,List.find?_nil]
    have HF:=Lib.hid (And.intro hJ hM)
    obtain ⟨k0,-,-,-,-⟩:=hM
    clear hJ jk jp jy hz hp
    go_enter (sf 113 f113),ntmps113
    go_wp2
    go_ret
    exact ⟨rfl,HF.out.1,HF.out.2⟩
   ·obtain ⟨O,hO⟩:∃O,(if good p then some p else none)=O:=⟨_,rfl⟩
    have hO2:[p].find? good=O:=by rw [← hO,List.find?_cons];cases good p <;> rfl
    rw [if_neg hlt,hO2]
    obtain rfl:left=0:=by omega
    have hy:=jy W p hJ hM hp
    rw [hO] at hy
    clear hO hO2
    obtain ⟨fn,tmps,assign,body,hy,hR⟩:=hy
    obtain ⟨k0,y,-,c,-⟩:=hM
    have c0:=c 0 (by omega)
    have c1:=c 1 (by omega)
    have c2:=c 2 (by omega)
    have c3:=c 3 (by omega)
    simp only [PastM.get] at c0 c1 c2 c3
    unfold pvP at hy
    clear jy jk jp c hz hp hJ
    have HR:=Lib.hid hR
    clear hR
    go_enter (sf 113 f113),ntmps113
    refine (wpIn_wide (n:=2)).1 ?_
    gi_wp2
    refine HR.out.mono ?_
    intro e w2 h2
    cases O with
    | some q =>
      obtain ⟨rfl,h2⟩:=h2
      gi_wp2
      go_wp2
      go_ret
      exact ⟨rfl,h2⟩
    | none =>
      obtain ⟨rfl,h2,h3⟩:=h2
      gi_wp2
      go_wp2
      go_ret
      exact ⟨rfl,h2,h3⟩
 | succ m ih =>
   intro i hi W p left hl0 hl3 hJ hM hz hp
   have hi4:i < 4:=by omega
   have hne:((i:Int) == (n:Int))=false:=by simp;omega
   have hi0:(0:Int)≤(i:Int):=Int.natCast_nonneg i
   have hi1:(i:Int) < 4:=by omega
   have hw:wrap64 ((i:Int)+1)=(i:Int)+1:=by unfold wrap64;omega
   have hw2:IntKind.i64.wrap ((i:Int)+1)=(i:Int)+1:=wrap_up9 hi0 (by omega)
   have hpz:p.set i 0=p:=PastM.set_zero p hi4 (hz i (Nat.le_refl _) hi4)
   have HIH:=Lib.hid (fun W p left h1 h2 h3 h4 h5 h6=>ih (i+1) (by omega) W p left h1 h2 h3 h4 h5 h6)
   have HK:=Lib.hid (And.intro jk jp)
   have HZ:=Lib.hid (And.intro hz (And.intro hp hpz))
   have HJ:=Lib.hid hJ
   have HM:=Lib.hid hM
   obtain ⟨k0,y,x,c,f⟩:=hM
   have ci:=c i hi4
   have fi:=f i hi4
   have hml:=lt_of_cell x
   obtain ⟨R,hR⟩:∃R,(xu (m+1) i left p).find? good=R:=⟨_,rfl⟩
   have HRR:Hid (R=(qan m i p 0 left).find? good):=Lib.hid hR.symm
   rw [hR]
   simp only at hml
   clear ih jk jp jy hz hp hpz hJ c f hR y x
   go_enter (sf 113 f113),ntmps113
   go_wp2
   clear ci fi
   go_loopw [8] (fun i0 wr=>∃(v:Int),i0=.bool false∧0≤v∧v≤left+1∧Hid (MB r s l n wr (p.set i v))∧Hid (J wr)∧Hid (R=(qan m i p v left).find? good)) (fun _ wr=>(left+1 - cI wr ⟨s+1,i,none⟩).toNat)
   case atStart=>exact ⟨0,rfl,by omega,by omega,Lib.hid (HM.out.put hrs hi4 0),Lib.hid (HK.out.2 _ _ _ HJ.out (by omega)),HRR⟩
   case round =>
    clear k0 HM HJ HRR hml
    obtain ⟨v,rfl,hv0,hv1,HM,HJ,HRR⟩:=hrel
    obtain ⟨k0,y,x,c,f⟩:=id HM.out
    have ci:=c i hi4
    have fi:=f i hi4
    rw [PastM.get_set _ hi4] at ci
    have hm:cI wr ⟨s+1,i,none⟩=v:=cI_of ci
    have hml:=lt_of_cell x
    simp only at hml
    clear c f y
    by_cases hle:v≤left
    ·have hwn:wrap64 (v+1)=v+1:=JF ⟨hv0,by omega⟩
     have hws:wrap64 (left - v)=left - v:=qeV ⟨hl0,hl3⟩ ⟨hv0,by omega⟩
     have hws2:IntKind.i64.wrap (left - v)=left - v:=wrap_dn9 ⟨hl0,hl3⟩ ⟨hv0,by omega⟩
     have hcl:=fun X (hX:Below wr.heap.size wr X)=>HIH.out X (p.set i v) (left - v) (by omega) (by omega) (HK.out.1 _ _ HJ.out hX) (HM.out.keep hX) (fun j h1 h2=>by rw [PastM.get_set_ne _ hi4 h2 (by omega)];exact HZ.out.1 j (by omega) h2) (PastM.le_set HZ.out.2.1 hi4 ⟨hv0,by omega⟩)
     rw [show ((i+1:Nat):Int)=(i:Int)+1 from rfl] at hcl
     rw [qcl hle,List.find?_append] at HRR
     cases hf:(xu m (i+1) (left - v) (p.set i v)).find? good with
     | some q =>
       rw [hf] at hcl HRR
       have HR:=HRR.out
       rw [Option.some_or] at HR
       subst HR
       clear HRR
       go_upto_region 6 with (fail)
       go_region_with (go_at_call 113;(with_reducible refine (hcl _ (by go_grown)).mono ?_);rintro e w1 ⟨rfl,hJ1⟩)
       all_goals
        go_wp2
        go_ret
        exact ⟨rfl,hJ1⟩
     | none =>
       rw [hf] at hcl HRR
       have HR:=HRR.out
       rw [Option.none_or] at HR
       have HRR:=Lib.hid HR
       clear HR
       go_upto_region 6 with (fail)
       go_region_with (go_at_call 113;(with_reducible refine (hcl _ (by go_grown)).mono ?_);rintro e w1 ⟨rfl,hJ1,hN1⟩;have c1:=hN1.c i hi4;have f1:=hN1.f i hi4;rw [PastM.get_set _ hi4] at c1;have HJ1:=Lib.hid hJ1;have HN1:=Lib.hid hN1;clear hJ1 hN1)
       all_goals
        go_wp2
        go_roundw
        case rel =>
         refine ⟨v+1,rfl,by omega,by omega,Lib.hid ?_,Lib.hid (HK.out.2 _ _ _ HJ1.out (by have:=lt_of_cell HN1.out.x;simp only at this;omega)),HRR⟩
         have h:=HN1.out.put hrs hi4 (v+1)
         rwa [PastM.set_set _ hi4] at h
        case measure=>rw [cI_of (qp (qz c1)),hm];omega
    ·have hq0:v=left+1:=by omega
     have HR:=HRR.out
     rw [qer (by omega),List.find?_nil] at HR
     have hfin:=HM.out.put hrs hi4 0
     rw [PastM.set_set _ hi4,HZ.out.2.2] at hfin
     have HF:=Lib.hid (And.intro hfin (HK.out.2 wr i 0 HJ.out hml))
     clear hfin
     subst HR
     go_wp2
     go_ret
     exact ⟨rfl,HF.out.2,HF.out.1⟩
theorem MB.of {r s l n:Nat} {W:World} (nc:W.cell? ⟨r,0,none⟩=some (.int .i64 n)) (y:W.cell? ⟨s,0,none⟩=some (.func (.yield l) #[] #[])) (x:W.cell? ⟨s+2,0,none⟩=some (.func (.func 113) #[] #[pt r,pt s,pt (s+1),pt (s+2)]))
 (c0:W.cell? ⟨s+1,0,none⟩=some (.int .i64 0)) (c1:W.cell? ⟨s+1,1,none⟩=some (.int .i64 0)) (c2:W.cell? ⟨s+1,2,none⟩=some (.int .i64 0)) (c3:W.cell? ⟨s+1,3,none⟩=some (.int .i64 0))
 (f0:W.frozen? ⟨s+1,0,none⟩=false) (f1:W.frozen? ⟨s+1,1,none⟩=false) (f2:W.frozen? ⟨s+1,2,none⟩=false) (f3:W.frozen? ⟨s+1,3,none⟩=false):MB r s l n W zT :=
 ⟨nc,y,x,fun i hi=>match i,hi with
   | 0,_=>c0
   | 1,_=>c1
   | 2,_=>c2
   | 3,_=>c3,fun i hi=>match i,hi with
   | 0,_=>f0
   | 1,_=>f1
   | 2,_=>f2
   | 3,_=>f3⟩
def MoreP (J:World→Prop) (Jx:PastM→World→Prop):Option PastM→Ending→World→Prop
 | none,e,W=>(∃v,e=.returned v)∧J W
 | some q,e,W=>(∃v,e=.returned v)∧Jx q W
theorem qeX (g:Nat):zT.get g=0:=match g with
 | 0=>rfl
 | 1=>rfl
 | 2=>rfl
 | _+3=>rfl
set_option maxHeartbeats 4000000 in
set_option maxRecDepth 100000 in
theorem qcb {r l n:Nat} {left:Int} {good:PastM→Bool} {J:World→Prop} {Jx:PastM→World→Prop} (w:World) (s:Nat) (hs:w.heap.size=s) (hn:n≤4) (hl0:0≤left) (hl3:left≤3)
 (hc:w.cell? ⟨r,0,none⟩=some (.int .i64 n)) (hc2:w.cell? ⟨r+1,0,none⟩=some (.int .i64 left))
 (jk:∀W W1,J W→Below W.heap.size W W1→J W1)
 (jp:∀W i v,J W→s+3≤W.heap.size→J (W.setCell ⟨s+1,i,none⟩ (.int .i64 v)))
 (jy:∀W q,J W→MB r s l n W q→q.le 3→YieldAt Fence.wide 1 qj l #[pvP q] W fun e W'=>NextP r s l n J Jx q (if good q then some q else none) e W')
 (h0:J w) :
 Calls qj 112 #[.func (.yield l) #[] #[],pt r,pt (r+1)] w (MoreP J Jx ((xu n 0 left zT).find? good)):=by
 subst hs
 have hr:=lt_of_cell hc
 simp only at hr
 have hr2:=lt_of_cell hc2
 simp only at hr2
 have hnx:=fun W (hJ:J W) (hM:MB r w.heap.size l n W zT)=>qdV hn hr jk jp jy n 0 (by omega) W zT left hl0 hl3 hJ hM (fun j _ _=>qeX j) (ZE (by decide))
 obtain ⟨O,hO⟩:∃O,(xu n 0 left zT).find? good=O:=⟨_,rfl⟩
 rw [hO] at hnx ⊢
 have HK:=Lib.hid (fun W hB=>jk w W h0 hB)
 clear jk jp jy h0 hO
 have e0:((0:Nat):Int)=0:=rfl
 simp only [e0] at hnx
 have HX:=Lib.hid hnx
 clear hnx
 cases O with
 | none =>
   go_enter (sf 112 f112),ntmps112
   go_wp2_with (go_at_call 113;(with_reducible refine (HX.out _ (HK.out _ (by go_grown)) (MB.of (qb _ (by go_grown) hc) (by go_cell) (by go_cell) (by go_cell) (by go_cell) (by go_cell) (by go_cell) (by go_cell) (by go_cell) (by go_cell) (by go_cell))).mono ?_);rintro e w1 ⟨rfl,hJ1,hN1⟩)
   go_end0
   exact ⟨⟨_,rfl⟩,hJ1⟩
 | some q =>
   go_enter (sf 112 f112),ntmps112
   go_wp2_with (go_at_call 113;(with_reducible refine (HX.out _ (HK.out _ (by go_grown)) (MB.of (qb _ (by go_grown) hc) (by go_cell) (by go_cell) (by go_cell) (by go_cell) (by go_cell) (by go_cell) (by go_cell) (by go_cell) (by go_cell) (by go_cell))).mono ?_);rintro e w1 ⟨rfl,hJ1⟩)
   go_end0
   exact ⟨⟨_,rfl⟩,hJ1⟩
set_option maxHeartbeats 4000000 in
set_option maxRecDepth 100000 in
theorem qdY (n left:Int) (w:World):Calls qj 84 #[.int .i64 n,.int .i64 left] w fun e w'=>e=.returned (.func (.func 112) #[] #[pt w.heap.size,pt (w.heap.size+1)])∧w'=(w.alloc (Obj.cells #[.int .i64 n] 3)).alloc (Obj.cells #[.int .i64 left] 3):=by
 go_enter (sf 84 f84),ntmps84
 go_wp2
 go_ret
 exact ⟨rfl,rfl⟩
end Go.Proofs.Tryz
