/-
  Lemmas about the program and the machine (C53 to BR), upon which the last text of this claim rests; no condition.
-/
import Derived.Test.YtnpjncjnmpfgpaaGreatDoorCards
import Derived.Test.YtnpjncjnmpfgpaaGreatDoorTie
import Derived.ProofKit
import Derived.LaidMore
import Derived.OpenShut
import Derived.Stop.Joined
import Derived.Conc.Holds
import Derived.Conc.LeavingOf
import Derived.SevenTiedAt
import Derived.ChangeCalls
import Derived.Deep.SlicePairs
import Derived.ChangeSlices
import Derived.WideShapes
import Derived.Deep.Slices
import Derived.ChangeArms
import Derived.Test.YtnpjncjnmpfgpaaGreatDoorY22
import Derived.Test.YtnpjncjnmpfgpaaGreatDoorY09
import Derived.Test.YtnpjncjnmpfgpaaGreatDoorY11
set_option linter.unusedSimpArgs false
set_option linter.unusedVariables false
section
namespace Go.Proofs.YtnpjncjnmpfgpaaGreatDoor
open Go Go.Conc Go.Sim Go.Load Go.RowKit Go.ChangeShapes Go.WideShapes Go.ChangeAt
open Go.Proofs.Tryz
abbrev laidAll:List (String×DataW Unit):=[("baudot/load.checks",Rows.laid_baudot_load_checks),("baudot/load.nothing",Rows.laid_baudot_load_nothing)]
theorem ownK:ownKnob Tryz.prog.godebug=none:=by kernel_rfl
theorem gNothing:Tryz.prog.globalNamed "baudot/load.nothing"=some 1:=by kernel_rfl
theorem gChecks:Tryz.prog.globalNamed "baudot/load.checks"=some 0:=by kernel_rfl
theorem tNothing:(Tryz.prog.globals[1]?).map (·.type)=some 72:=by kernel_rfl
theorem tChecks:(Tryz.prog.globals[0]?).map (·.type)=some 78:=by kernel_rfl
theorem cInt:Tryz.prog.cellsOf 3=1:=by kernel_rfl
theorem cFn:Tryz.prog.cellsOf 77=1:=by kernel_rfl
theorem cPart:Tryz.prog.cellsOf 72=2:=by kernel_rfl
theorem cTab:Tryz.prog.cellsOf 78=2:=by kernel_rfl
theorem qcz {P:Program} {w:World} {n:String} {g:Nat} {cs:Array Value} (hg:P.globalNamed n=some g) (h:w.var? P n=some cs):∃e f,w.heap[g]? = some (.cells cs e f):=by
 simp only [World.var?,hg,Option.bind_some] at h
 split at h
 ·rename_i c e f he
  cases h
  exact ⟨_,_,he⟩
 ·cases h
theorem qaE {cs:Array Value} (h:cs.toList.length=2):∃x y,cs=#[x,y]:=by
 obtain ⟨l⟩:=cs
 match l,h with
 | [x,y],_=>exact ⟨x,y,rfl⟩
set_option maxRecDepth 100000 in
theorem of_laid {W:World} (h:laidMetH Tryz.prog laidAll W):∃e0 e1 f0 f1,W.heap[1]? = some (.cells #[.int .i64 0,.int .i64 1] e0 f0)∧W.heap[0]? = some (.cells #[fnum,fgrp] e1 f1):=by
 have h1:=h.funcs (List.mem_cons_self ..)
 obtain ⟨g,t,cs,fuel,p,hg,ht,hv,hd⟩:=h1
 obtain rfl:=Option.some.inj (gChecks.symm.trans hg)
 obtain rfl:=Option.some.inj (tChecks.symm.trans ht)
 have h2:laidMet Tryz.prog [("baudot/load.nothing",Rows.laid_baudot_load_nothing)] W:=by
  have h':laidMet Tryz.prog (laidAll.filter fun x=>x.2.handleName?.isNone) W:=h.1
  exact h'
 obtain ⟨ps,⟨g0,t0,cs0,fl0,p0,q0,hg0,ht0,hv0,hd0,_⟩,_,_⟩:=h2
 obtain rfl:=Option.some.inj (gNothing.symm.trans hg0)
 obtain rfl:=Option.some.inj (tNothing.symm.trans ht0)
 obtain ⟨e0,f0,hh0⟩:=qcz hg0 hv0
 obtain ⟨e1,f1,hh1⟩:=qcz hg hv
 obtain ⟨xs,m,rfl,hx,hl,hn,hel⟩:=DataW.trod_array Tryz.underlying78 hd
 obtain ⟨ys,m0,rfl,hy,hl0,hn0,hel0⟩:=DataW.trod_struct Tryz.underlying72 hd0
 rw [cTab] at hl
 rw [cPart] at hl0
 obtain ⟨c0,c1,rfl⟩:=qaE hl
 obtain ⟨d0,d1,rfl⟩:=qaE hl0
 have k0:=hel 0 (by decide)
 have k1:=hel 1 (by decide)
 rw [cFn] at k0 k1
 have j0:=hel0 0 _ rfl
 have j1:=hel0 1 _ rfl
 match xs,hn,hx,k0,k1 with
 | [x0,x1],_,hx,k0,k1 =>
 match ys,hn0,hy,j0,j1 with
 | [y0,y1],_,hy,j0,j1 =>
   have hx':(DataW.agg [.held [40,98,97,117,100,111,116,47,108,111,97,100,46,98,111,111,107,41,46,110,117,109,98,101,114,115],.held [40,98,97,117,100,111,116,47,108,111,97,100,46,98,111,111,107,41,46,103,114,111,117,112,115]]:DataW (List UInt8))=.agg [x0.1,x1.1]:=congrArg Prod.fst hx
   have hy':(DataW.agg [.lit (.int .i64 0),.lit (.int .i64 1)]:DataW Unit)=.agg [y0.1,y1.1]:=congrArg Prod.fst hy
   simp only [DataW.agg.injEq,List.cons.injEq,and_true] at hx' hy'
   obtain ⟨x0,q0⟩:=x0
   obtain ⟨x1,q1⟩:=x1
   obtain ⟨rfl,rfl⟩:=hx'
   obtain ⟨y0,r0⟩:=y0
   obtain ⟨y1,r1⟩:=y1
   obtain ⟨rfl,rfl⟩:=hy'
   have e0':=func_of_trod (f0:=150) Tryz.underlying77 (by kernel_rfl) (show DataW.trod (funcToken Tryz.prog) Tryz.prog W 0 (fun _=>true) true m 77 [c0]=_ from k0)
   have e1':=func_of_trod (f0:=151) Tryz.underlying77 (by kernel_rfl) (show DataW.trod (funcToken Tryz.prog) Tryz.prog W 0 (fun _=>true) true m 77 [c1]=_ from k1)
   subst e0' e1'
   have j0':DataW.trod _ Tryz.prog W 0 _ _ m0 3 ((#[d0,d1].toList.drop 0).take (Tryz.prog.cellsOf 3))=some (.lit (.int .i64 0),r0):=j0
   have j1':DataW.trod _ Tryz.prog W 0 _ _ m0 3 ((#[d0,d1].toList.drop 1).take (Tryz.prog.cellsOf 3))=some (.lit (.int .i64 1),r1):=j1
   rw [cInt] at j0' j1'
   obtain ⟨n0,a0,b0,_⟩:=DataW.trod_int Tryz.underlying3 j0'
   obtain ⟨n1,a1,b1,_⟩:=DataW.trod_int Tryz.underlying3 j1'
   simp at a0 a1 b0 b1
   obtain ⟨rfl,_⟩:=b0
   obtain ⟨rfl,_⟩:=b1
   subst a0 a1
   exact ⟨e0,e1,f0,f1,hh0,hh1⟩
theorem kept_of {w w':World} (h1:w'.os=w.os) (h2:w'.output=w.output) (h3:∀k,k < w.heap.size→w'.heap[k]? = w.heap[k]?) (may:MemPlace→Prop):w.keptBut w' may:=by
 refine ⟨h1,h2,fun i hi=>?_⟩
 rw [h3 i hi]
 rcases w.heap[i]? with _ | o
 ·rfl
 ·cases o <;> simp
theorem qgb (Lk:Looks) {p:Pinned} {s:OpenSpec} {c:OpenClaim} (al:List (List PathCond)) (kinds:List LaidKind) (tests:Bool) (har:Bool×String) (lk:Bool)
 (hc:c.holds p s) (hal:∀D∈al,(c.withDomain D).holds p s) (hw:c.wfByText s=true) (hwal:∀D∈al,(c.withDomain D).wfByText s=true)
 (htie:c.laidByTextAt Lk p kinds tests)
 (hst:c.start=.entering) (hnb:c.noBlocks=false∧c.again=false) (hm:p.checked.prog.mainIs=some (har.1,har.2.toList)) (hn:(!har.1 && har.2.isEmpty && !lk)=false)
 (hl:∀f fn,p.checked.prog.funcNamed c.func=some f→p.checked.prog.funcs[f]? = some fn→lk=p.checked.prog.looks []∧∀(j:Nat) t,fn.params[j]? = some t→p.checked.prog.wantsStandIn t=false)
 (hg:true=c.goesBy p.checked.prog) :
 Claim7.holds p (.plain s) { stood:={ row:=c,standIns:=[],harness:=har,looks:=lk },kinds:=[],alts:=al,goes:=true,laidByText:=true,laidKinds:=kinds,laidTests:=tests,laidLooks:=Lk }:=by
 have h6:∀r:OpenClaim,Claim7.isSixth { stood:={ row:=r,standIns:=[],harness:=har,looks:=lk },kinds:=[] }=false:=fun r=>by simpa [Claim7.isSixth] using hn
 refine ⟨Claim7.tied_new_at Lk kinds tests (Claim7.new_of_sixth hc har lk hst hnb hm (h6 c) hl) hw,fun D hD=>?_,htie,(fun h=>by cases h),hg⟩
 exact Claim7.tied_new_at Lk kinds tests (Claim7.new_of_sixth (hal D hD) har lk hst hnb hm (h6 _) hl) (hwal D hD)
set_option maxRecDepth 100000 in
theorem door_met (os:Os) (args:Array Value):laidMetH Tryz.prog laidAll ((World.doorLaid Tryz.prog 19 os).forCall (fun _ _=>0) ⟨#[],args,[]⟩).memory :=
 laidMetH_of_parts3 (fuel:=8) (laidMet_of_run' 8 (by kernel_rfl) (by kernel_rfl)) (by kernel_rfl) (by kernel_rfl)
end Go.Proofs.YtnpjncjnmpfgpaaGreatDoor
end
section
namespace Go.Proofs.YtnpjncjnmpfgpaaGreatDoor
open Go Go.Conc Go.Sim Go.Load Go.RowKit Go.ChangeShapes Go.WideShapes Go.ChangeAt
open Go.Proofs.Tryz
set_option maxRecDepth 100000 in
theorem qbC:∀t e,t < Tryz.prog.types.size→Tryz.prog.underlying t=some (.slice e)→0 < Tryz.prog.cellsOf e:=slices_full_of Tryz.prog (by kernel_rfl)
set_option maxRecDepth 100000 in
theorem kids_all:Kids Tryz.prog (· < Tryz.prog.types.size):=kids_rows (by kernel_rfl) (by kernel_rfl)
def qbK {H:Type} (enc:TypeId×Value→H) (fn:Func) (W:World) (args:Array Value) (ds:List (DataW H)):Prop :=
 ∃p r b0,args.size=fn.params.size∧DataW.TrodAll enc Tryz.prog W 0 (fun _=>true) true fn.params.toList args.toList ds p∧∀(j:Nat) (t:TypeId) v,fn.params[j]? = some t→args[j]? = some v→Value.okWide Tryz.prog W r b0 t v
def qbO (f:FuncId) (W:World) (args:Array Value):Prop :=
 ∃X:Nat→Prop,(∀b,X b→∃c e f,W.heap[b]? = some (.cells c e f))∧(∀(C:FuncId→Prop) (R:Nat→Nat→Prop),(∀b,X b→R b b)→AR C R args args) ∧
  ∀w,Globs w→(∀b o v,X b→W.cell? ⟨b,o,none⟩=some v→PlainX X v→w.cell? ⟨b,o,none⟩=some v)→Calls qf f args w fun e w'=>e=.returned (.bool true)∧Below w.heap.size w w'
set_option maxRecDepth 100000 in
theorem law_at {f:FuncId} {fn:Func} {s:ChangeSpec} (os:Os) (started:os.Started) (H:Type) (enc:TypeId×Value→H) (hfn:Tryz.prog.funcs[f]? = some fn) (hres:fn.resultTypes=#[4]) (hvars:s.vars=[])
 (hspec:∀ds:List (DataW H),ds.length=fn.params.size→s.fn H ds={ results:=[.lit (.bool true)],args:=ds }) (hpar:∀t∈fn.params.toList,t < Tryz.prog.types.size) (hf:cB f=true) (hne:f≠15)
 (hC:∀W args ds,qbK enc fn W args ds→qbO f W args)
 (witness:∃(w:World) (tape:Tape) (i:Input),w.os=os∧(w.forCall tape i).Shaped Tryz.checked.prog∧i.vars=[]∧Input.okWide Tryz.checked.prog (w.forCall tape i) .any w.heap.size f i ∧
   ((s.pre enc Tryz.checked.prog fn [] false (w.forCall tape i).memory i.args∧laidMetH Tryz.checked.prog laidAll (w.forCall tape i).memory)∧sizedMet enc Tryz.checked.prog fn (OpenSpec.ofChange s) false (w.forCall tape i).memory i.args)∧({}:Assume).holds Tryz.checked.prog (lone (Frame.enter Tryz.checked.prog f i.args .normal) [] (w.forCall tape i))) :
 ReturnsInLeavingWide {} Tryz.checked os f .any (fun w args=>(s.pre enc Tryz.prog fn [] false w args∧laidMetH Tryz.prog laidAll w)∧sizedMet enc Tryz.prog fn (OpenSpec.ofChange s) false w args) (s.post enc Tryz.prog fn false true false false):=by
 refine returnsInLeavingWide_of_good ownK started witness ?_
 intro w tape i _ _ _ hok hpre hholds
 obtain ⟨_,_,_,fn',hfn',_,_,_,hsz,hval⟩:=hok
 have e:fn'=fn:=Option.some.inj (hfn'.symm.trans hfn)
 subst e
 obtain ⟨⟨⟨ds,gs,before,hw,_⟩,hL⟩,_⟩:=hpre
 have hw':=DataW.Whole.of_heap (w':=w.forCall tape i) (by rfl) hw
 have hL':=of_laid (laidMetH.of_heap (w':=w.forCall tape i) (by rfl) hL)
 have hval':∃b0,∀(j:Nat) (t:TypeId) v,fn'.params[j]? = some t→i.args[j]? = some v→Value.okWide Tryz.prog (w.forCall tape i) .any b0 t v:=⟨_,hval⟩
 clear hval hL hw hholds witness
 revert hL' hval' hw'
 generalize w.forCall tape i=W
 intro hw' hL' hval'
 obtain ⟨e0,e1,f0,f1,hn,hc⟩:=hL'
 obtain ⟨b0,hval'⟩:=hval'
 have hwhole:=hw'
 rw [hvars] at hw'
 obtain ⟨p,q,hA,hV,hpq,_,_⟩:=hw'
 obtain ⟨hgs,rfl⟩:=trodVars_none hV
 subst hgs
 obtain ⟨X,hX,hargs,hcalls⟩:=hC W i.args ds ⟨p,_,b0,hsz,hA,hval'⟩
 have hng:Tryz.prog.globals.size≤W.heap.size:=by
  have h1:Tryz.prog.globals.size=2:=by kernel_rfl
  have h2:=(Array.getElem?_eq_some_iff.1 hc).1
  have h3:=(Array.getElem?_eq_some_iff.1 hn).1
  omega
 have hlen:ds.length=fn'.params.size:=by
  have:=(trodAll_length hA).2
  simpa using this
 obtain ⟨N,last,o,w',t',r1,r2,r3,r4⟩:=qdx hf hne hX hargs hng hn hc hcalls
 refine ⟨N,last,o,w',t',r1,r2,r3,r4.mono fun v hp=>ChangeSpec.post_blind ?_⟩
 obtain ⟨⟨_,rfl⟩,h1,h2,h3,h4,_⟩:=hp
 refine ⟨ds,[],_,[],p,[],hwhole,?_,?_,?_,kept_of h3 h4 h1 _,fun h=>by cases h⟩
 ·rw [List.append_nil,hspec _ hlen,hres]
  exact trodAll_mk1 (shut_bool Tryz.underlying4 _)
 ·rw [List.append_nil,hspec _ hlen]
  exact Yp kids_all qbC h1 hpar hA
 ·rw [List.append_nil,hspec _ hlen,hvars]
  rfl
end Go.Proofs.YtnpjncjnmpfgpaaGreatDoor
end
section
namespace Go.Proofs.YtnpjncjnmpfgpaaGreatDoor
open Go Go.Conc Go.Sim Go.Load Go.RowKit Go.ChangeShapes Go.WideShapes Go.ChangeAt
open Go.Proofs.Tryz
set_option maxRecDepth 100000 in
theorem qbB {W:World} {r:Reach} {b0:Nat} {t e:TypeId} {a:Addr} {n c:Nat} (ht:Tryz.prog.underlying t=some (.slice e)) (h:Value.okWide Tryz.prog W r b0 t (.slice (some a) n c)):a.spot=none∧∃cs e f,W.heap[a.block]? = some (.cells cs e f):=by
 unfold Value.okWide at h
 rw [ht] at h
 simp only at h
 unfold Cell.okWide at h
 rw [ht] at h
 simp only at h
 unfold Cell.ok at h
 rw [ht] at h
 simp only at h
 obtain ⟨_,_,_,h1,row,cells,h2,_⟩:=h
 refine ⟨h1,?_⟩
 unfold World.shape? at h2
 split at h2
 ·exact ⟨_,_,_,by assumption⟩
 ·cases h2
theorem addr_add (a:Addr) (i:Nat) (h:a.spot=none):a.add i=⟨a.block,a.off+i,none⟩:=by
 obtain ⟨b,o,s⟩:=a
 obtain rfl:s=none:=h
 unfold Addr.add
 split
 ·rename_i e;subst e;rfl
 ·rfl
def AddrOk (W:World) (a:Option Addr):Prop:=∀x,a=some x→x.spot=none∧∃cs e f,W.heap[x.block]? = some (.cells cs e f)
section
variable {H:Type} {enc:TypeId×Value→H} {W:World} {t e:TypeId} {r:Reach} {b0:Nat} {v:Value} {d:DataW H} {ps:List MemPlace}
set_option maxRecDepth 100000 in
theorem qdu {f0 f1:Field} (ht:Tryz.prog.underlying t=some (.slice e)) (he:Tryz.prog.underlying e=some (.struct #[f0,f1])) (ce:Tryz.prog.cellsOf e=2) (o0:f0.offset=0) (o1:f1.offset=1) (t0:f0.type=3) (t1:f1.type=3)
 (hv:Value.okWide Tryz.prog W r b0 t v) (h:DataW.Trod enc Tryz.prog W 0 (fun _=>true) true t v d ps) :
 ∃(l:List (Int×Int)) (a:Option Addr) (c:Nat),v=.slice a l.length c∧AddrOk W a∧(1≤l.length→∃b o,a=some ⟨b,o,none⟩∧qE W b o l):=by
 obtain ⟨a,n,c,rfl⟩:=okWide_slice ht hv
 obtain ⟨fuel,h⟩:=h
 rcases Go.Deep.open_slice_pairs ht he ce o0 o1 (by rw [t0];exact cInt) (by rw [t1];exact cInt) h with ⟨hc,_⟩ | ⟨a',len,cap,m,k,V0,V1,D0,D1,P0,P1,hc,_,hlc,_,hm,_,hx⟩
 ·simp only [Value.cells,List.cons.injEq,and_true] at hc
  cases hc
  exact ⟨[],none,0,rfl,fun x e=>(by cases e),fun h=>(by simp at h)⟩
 ·simp only [Value.cells,List.cons.injEq,and_true] at hc
  cases hc
  have hb:=qbB ht hv
  have hm':m=c:=by simpa using hm
  have one:∀i,i < n→∃x:Int×Int,V0 i=.int .i64 x.1∧V1 i=.int .i64 x.2:=fun i hi=>by
   obtain ⟨_,_,q0,q1⟩:=hx i (by omega)
   rw [t0] at q0
   rw [t1] at q1
   obtain ⟨n0,e0,_⟩:=DataW.trod_int Tryz.underlying3 q0
   obtain ⟨n1,e1,_⟩:=DataW.trod_int Tryz.underlying3 q1
   simp only [List.cons.injEq,and_true] at e0 e1
   exact ⟨(n0,n1),e0,e1⟩
  have num:∀i,∃x:Int×Int,i < n→V0 i=.int .i64 x.1∧V1 i=.int .i64 x.2:=fun i=>by
   by_cases hi:i < n
   ·obtain ⟨x,hx⟩:=one i hi
    exact ⟨x,fun _=>hx⟩
   ·exact ⟨(0,0),fun h=>absurd h hi⟩
  obtain ⟨g,hg⟩:=Classical.axiomOfChoice num
  refine ⟨(List.range n).map g,some a',c,by simp,fun x e=>(by cases e;exact hb),fun _=>⟨a'.block,a'.off,?_,fun i x hi=>?_⟩⟩
  ·obtain ⟨b,o,s⟩:=a'
   obtain rfl:s=none:=hb.1
   rfl
  ·rw [List.getElem?_map,Option.map_eq_some_iff] at hi
   obtain ⟨j,hj,rfl⟩:=hi
   have hjn:i < n:=by have:=(List.getElem?_eq_some_iff.1 hj).1;simpa using this
   have hji:j=i:=by rw [List.getElem?_range hjn] at hj;exact (Option.some.inj hj).symm
   subst hji
   obtain ⟨q0,q1,_⟩:=hx j (by omega)
   rw [addr_add _ _ hb.1] at q0 q1
   rw [(hg j hjn).1] at q0
   rw [(hg j hjn).2] at q1
   exact ⟨q0,q1⟩
end
theorem vr_slice {C:FuncId→Prop} {R:Nat→Nat→Prop} (a:Option Addr) (n c:Nat) (h:∀x,a=some x→R x.block x.block):VR C R (.slice a n c) (.slice a n c):=by
 cases a with
 | none=>exact .snil _ _
 | some x=>exact .slice _ _ ⟨h x rfl,rfl,rfl⟩
end Go.Proofs.YtnpjncjnmpfgpaaGreatDoor
end
section
namespace Go.Proofs.YtnpjncjnmpfgpaaGreatDoor
open Go Go.Conc Go.Sim Go.Load Go.RowKit Go.ChangeShapes Go.WideShapes Go.ChangeAt
open Go.Proofs.Tryz
def AddrZ (W:World) (a:Option Addr) (l c:Nat):Prop:=∀x,a=some x→(l=0∧c=0)∨∃cs e f,W.heap[x.block]? = some (.cells cs e f)
theorem xe {W:World} {a:Addr} {v:Value} (h:W.cell? a=some v):a.spot=none∧∃cs e f,W.heap[a.block]? = some (.cells cs e f):=by
 unfold World.cell? at h
 split at h
 ·rename_i c e f hb
  split at h
  ·cases h
  ·rename_i hs
   exact ⟨by simpa using hs,_,_,_,hb⟩
 ·cases h
theorem add_zero' (a:Addr):a.add 0=a:=by unfold Addr.add;rfl
structure GrpRd (W:World) (g:Grp):Prop where
 traf:yK W g
 cap:g.traffic.length≤g.tc
 big:g.name.size≤maxLen∧g.tc≤maxLen
 ad:AddrZ W g.ta g.traffic.length g.tc
structure BookRd (W:World) (B:Bk):Prop where
 row:qcG W B
 cap:B.gs.length≤B.gc∧B.gc≤maxLen
 ad:AddrZ W B.ga B.gs.length B.gc
 gr:∀g∈B.gs,GrpRd W g
section
variable {H:Type} {enc:TypeId×Value→H} {W:World} {t e:TypeId} {fuel:Nat}
set_option maxRecDepth 100000 in
theorem qas {z:Value} {x:DataW H×List MemPlace} (h:DataW.trod enc Tryz.prog W 0 (fun _=>true) true fuel 54 [z]=some x) :
 ∃(l:List (Int×Int)) (a:Option Addr) (c:Nat),z=.slice a l.length c∧(1≤l.length→∃b o,a=some ⟨b,o,none⟩∧qE W b o l)∧l.length≤c∧c≤maxLen∧AddrZ W a l.length c:=by
 rcases Go.Deep.open_slice_pairs (f0:=(fld 23 0)) (f1:=(fld 23 1)) Tryz.underlying54 (by kernel_rfl) (by kernel_rfl) (by kernel_rfl) (by kernel_rfl) (by kernel_rfl) (by kernel_rfl) h with ⟨hc,_⟩ | ⟨a',len,cap,m,k,V0,V1,D0,D1,P0,P1,hc,_,hlc,hcm,hm,_,hx⟩
 ·simp only [List.cons.injEq,and_true] at hc
  subst hc
  exact ⟨[],none,0,rfl,fun h=>(by simp at h),Nat.le_refl _,Nat.zero_le _,fun x e=>(by cases e)⟩
 ·simp only [List.cons.injEq,and_true] at hc
  subst hc
  have hm':m=cap:=by simpa using hm
  have t0:(fld 23 0).type=3:=by kernel_rfl
  have t1:(fld 23 1).type=3:=by kernel_rfl
  have num:∀i,∃x:Int×Int,i < len→V0 i=.int .i64 x.1∧V1 i=.int .i64 x.2:=fun i=>by
   by_cases hi:i < len
   ·obtain ⟨_,_,q0,q1⟩:=hx i (by omega)
    rw [t0] at q0
    rw [t1] at q1
    obtain ⟨n0,e0,_⟩:=DataW.trod_int Tryz.underlying3 q0
    obtain ⟨n1,e1,_⟩:=DataW.trod_int Tryz.underlying3 q1
    simp only [List.cons.injEq,and_true] at e0 e1
    exact ⟨(n0,n1),fun _=>⟨e0,e1⟩⟩
   ·exact ⟨(0,0),fun h=>absurd h hi⟩
  obtain ⟨g,hg⟩:=Classical.axiomOfChoice num
  have hb:1≤cap→a'.spot=none∧∃cs e f,W.heap[a'.block]? = some (.cells cs e f):=fun h1=>by
   obtain ⟨q0,_⟩:=hx 0 (by omega)
   rw [Nat.zero_mul,add_zero'] at q0
   exact xe q0
  refine ⟨(List.range len).map g,some a',cap,by simp,fun h1=>?_,by simpa using hlc,hcm,fun x e=>?_⟩
  ·have h1':1≤len:=by simpa using h1
   have hs:=(hb (by omega)).1
   refine ⟨a'.block,a'.off,?_,fun i x hi=>?_⟩
   ·obtain ⟨b,o,s⟩:=a'
    obtain rfl:s=none:=hs
    rfl
   ·rw [List.getElem?_map,Option.map_eq_some_iff] at hi
    obtain ⟨j,hj,rfl⟩:=hi
    have hjn:i < len:=by have:=(List.getElem?_eq_some_iff.1 hj).1;simpa using this
    have hji:j=i:=by rw [List.getElem?_range hjn] at hj;exact (Option.some.inj hj).symm
    subst hji
    obtain ⟨q0,q1,_⟩:=hx j (by omega)
    rw [addr_add _ _ hs] at q0 q1
    rw [(hg j hjn).1] at q0
    rw [(hg j hjn).2] at q1
    exact ⟨q0,q1⟩
  ·cases e
   by_cases h1:1≤cap
   ·exact .inr (hb h1).2
   ·exact .inl ⟨by simp;omega,by omega⟩
set_option maxRecDepth 100000 in
theorem qdt {cs:List Value} {x:DataW H×List MemPlace} (h:DataW.trod enc Tryz.prog W 0 (fun _=>true) true fuel 56 cs=some x) :
 ∃g:Grp,cs=[.string g.name,.int .i64 g.trunks,.slice g.ta g.traffic.length g.tc]∧GrpRd W g:=by
 obtain ⟨ys,m0,rfl,hy,hl0,hn0,hel0⟩:=DataW.trod_struct Tryz.underlying56 h
 have c3:Tryz.prog.cellsOf 56=3:=by kernel_rfl
 rw [c3] at hl0
 match cs,hl0 with
 | [z0,z1,z2],_ =>
   have j0:DataW.trod enc Tryz.prog W 0 (fun _=>true) true m0 9 (([z0,z1,z2].drop 0).take (Tryz.prog.cellsOf 9))=ys[0]? := hel0 0 _ rfl
   have j1:DataW.trod enc Tryz.prog W 0 (fun _=>true) true m0 3 (([z0,z1,z2].drop 1).take (Tryz.prog.cellsOf 3))=ys[1]? := hel0 1 _ rfl
   have j2:DataW.trod enc Tryz.prog W 0 (fun _=>true) true m0 54 (([z0,z1,z2].drop 2).take (Tryz.prog.cellsOf 54))=ys[2]? := hel0 2 _ rfl
   have cs1:Tryz.prog.cellsOf 9=1:=by kernel_rfl
   have cs2:Tryz.prog.cellsOf 54=1:=by kernel_rfl
   rw [cs1] at j0
   rw [cInt] at j1
   rw [cs2] at j2
   match ys,hn0 with
   | [y0,y1,y2],_ =>
     obtain ⟨s,a0,_,hs⟩:=DataW.trod_string Tryz.underlying9 (show DataW.trod enc Tryz.prog W 0 _ _ m0 9 [z0]=some y0 from j0)
     obtain ⟨n,a1,_⟩:=DataW.trod_int Tryz.underlying3 (show DataW.trod enc Tryz.prog W 0 _ _ m0 3 [z1]=some y1 from j1)
     obtain ⟨l,a,c,rfl,h1,h2,h3,h4⟩:=qas (show DataW.trod enc Tryz.prog W 0 _ _ m0 54 [z2]=some y2 from j2)
     simp only [List.cons.injEq,and_true] at a0 a1
     exact ⟨⟨s,n,l,a,c⟩,by rw [a0,a1],fun h=>h1 h,h2,⟨hs,h3⟩,h4⟩
set_option maxRecDepth 100000 in
theorem qbt {z:Value} {x:DataW H×List MemPlace} (h:DataW.trod enc Tryz.prog W 0 (fun _=>true) true fuel 24 [z]=some x) :
 ∃(l:List Grp) (a:Option Addr) (c:Nat),z=.slice a l.length c∧(1≤l.length→∃b o,a=some ⟨b,o,none⟩∧zJ W b o l)∧l.length≤c∧c≤maxLen∧AddrZ W a l.length c∧∀g∈l,GrpRd W g:=by
 rcases Go.Deep.open_slice Tryz.underlying24 h with ⟨hc,_⟩ | ⟨a',len,cap,m,k,D,P,hc,_,hlc,hcm,hm,_,hx⟩
 ·simp only [List.cons.injEq,and_true] at hc
  subst hc
  exact ⟨[],none,0,rfl,fun h=>(by simp at h),Nat.le_refl _,Nat.zero_le _,fun x e=>(by cases e),fun g hg=>(by cases hg)⟩
 ·simp only [List.cons.injEq,and_true] at hc
  subst hc
  have hm':m=cap:=by simpa using hm
  have c3:Tryz.prog.cellsOf 56=3:=by kernel_rfl
  rw [c3] at hx
  have one:∀i,∃g:Grp,i < cap→W.cell? (a'.add (i * 3))=some (.string g.name)∧W.cell? (a'.add (i * 3+1))=some (.int .i64 g.trunks)∧W.cell? (a'.add (i * 3+2))=some (.slice g.ta g.traffic.length g.tc)∧GrpRd W g:=fun i=>by
   by_cases hi:i < cap
   ·obtain ⟨cs,q1,q2⟩:=hx i (by omega)
    obtain ⟨g,rfl,hg⟩:=qdt q2
    obtain ⟨_,_,q3⟩:=World.cells?_some q1
    refine ⟨g,fun _=>⟨?_,?_,?_,hg⟩⟩
    ·have:=q3 0 (by decide);rwa [add_zero'] at this
    ·have:=q3 1 (by decide);rwa [Go.Deep.add_add] at this
    ·have:=q3 2 (by decide);rwa [Go.Deep.add_add] at this
   ·exact ⟨⟨⟨#[]⟩,0,[],none,0⟩,fun h=>absurd h hi⟩
  obtain ⟨g,hg⟩:=Classical.axiomOfChoice one
  have hb:1≤cap→a'.spot=none∧∃cs e f,W.heap[a'.block]? = some (.cells cs e f):=fun h1=>by
   obtain ⟨q0,_⟩:=hg 0 (by omega)
   rw [Nat.zero_mul,add_zero'] at q0
   exact xe q0
  refine ⟨(List.range len).map g,some a',cap,by simp,fun h1=>?_,by simpa using hlc,hcm,fun x e=>?_,fun y hy=>?_⟩
  ·have h1':1≤len:=by simpa using h1
   have hs:=(hb (by omega)).1
   refine ⟨a'.block,a'.off,?_,fun i x hi=>?_⟩
   ·obtain ⟨b,o,s⟩:=a'
    obtain rfl:s=none:=hs
    rfl
   ·rw [List.getElem?_map,Option.map_eq_some_iff] at hi
    obtain ⟨j,hj,rfl⟩:=hi
    have hjn:i < len:=by have:=(List.getElem?_eq_some_iff.1 hj).1;simpa using this
    have hji:j=i:=by rw [List.getElem?_range hjn] at hj;exact (Option.some.inj hj).symm
    subst hji
    obtain ⟨q0,q1,q2,_⟩:=hg j (by omega)
    rw [addr_add _ _ hs] at q0 q1 q2
    exact ⟨q0,q1,q2⟩
  ·cases e
   by_cases h1:1≤cap
   ·exact .inr (hb h1).2
   ·exact .inl ⟨by simp;omega,by omega⟩
  ·obtain ⟨j,hj,rfl⟩:=List.mem_map.1 hy
   have hj:=List.mem_range.1 hj
   exact (hg j (by omega)).2.2.2
set_option maxRecDepth 100000 in
theorem qfI {r:Reach} {b0:Nat} {v:Value} {d:DataW H} {ps:List MemPlace} (hv:Value.okWide Tryz.prog W r b0 26 v) (h:DataW.Trod enc Tryz.prog W 0 (fun _=>true) true 26 v d ps):∃B:Bk,v=bv B∧BookRd W B:=by
 obtain ⟨cs,rfl,hcs⟩:=okWide_struct Tryz.underlying26 hv
 obtain ⟨fuel,h⟩:=h
 obtain ⟨ys,m0,rfl,hy,hl0,hn0,hel0⟩:=DataW.trod_struct Tryz.underlying26 h
 have c5:Tryz.prog.cellsOf 26=5:=by kernel_rfl
 rw [c5] at hcs
 obtain ⟨l⟩:=cs
 match l,hcs with
 | [z0,z1,z2,z3,z4],_ =>
   have j0:DataW.trod enc Tryz.prog W 0 (fun _=>true) true m0 23 (([z0,z1,z2,z3,z4].drop 0).take (Tryz.prog.cellsOf 23))=ys[0]? := hel0 0 _ rfl
   have j1:DataW.trod enc Tryz.prog W 0 (fun _=>true) true m0 3 (([z0,z1,z2,z3,z4].drop 2).take (Tryz.prog.cellsOf 3))=ys[1]? := hel0 1 _ rfl
   have j2:DataW.trod enc Tryz.prog W 0 (fun _=>true) true m0 3 (([z0,z1,z2,z3,z4].drop 3).take (Tryz.prog.cellsOf 3))=ys[2]? := hel0 2 _ rfl
   have j3:DataW.trod enc Tryz.prog W 0 (fun _=>true) true m0 24 (([z0,z1,z2,z3,z4].drop 4).take (Tryz.prog.cellsOf 24))=ys[3]? := hel0 3 _ rfl
   rw [show Tryz.prog.cellsOf 23=2 by kernel_rfl] at j0
   rw [cInt] at j1 j2
   rw [show Tryz.prog.cellsOf 24=1 by kernel_rfl] at j3
   match ys,hn0 with
   | [y0,y1,y2,y3],_ =>
     obtain ⟨us,m1,rfl,_,_,hn1,hel1⟩:=DataW.trod_struct Tryz.underlying23 (show DataW.trod enc Tryz.prog W 0 _ _ m0 23 [z0,z1]=some y0 from j0)
     have k0:DataW.trod enc Tryz.prog W 0 (fun _=>true) true m1 3 (([z0,z1].drop 0).take (Tryz.prog.cellsOf 3))=us[0]? := hel1 0 _ rfl
     have k1:DataW.trod enc Tryz.prog W 0 (fun _=>true) true m1 3 (([z0,z1].drop 1).take (Tryz.prog.cellsOf 3))=us[1]? := hel1 1 _ rfl
     rw [cInt] at k0 k1
     match us,hn1 with
     | [u0,u1],_ =>
       obtain ⟨n0,a0,_⟩:=DataW.trod_int Tryz.underlying3 (show DataW.trod enc Tryz.prog W 0 _ _ m1 3 [z0]=some u0 from k0)
       obtain ⟨n1,a1,_⟩:=DataW.trod_int Tryz.underlying3 (show DataW.trod enc Tryz.prog W 0 _ _ m1 3 [z1]=some u1 from k1)
       obtain ⟨n2,a2,_⟩:=DataW.trod_int Tryz.underlying3 (show DataW.trod enc Tryz.prog W 0 _ _ (m1+1) 3 [z2]=some y1 from j1)
       obtain ⟨n3,a3,_⟩:=DataW.trod_int Tryz.underlying3 (show DataW.trod enc Tryz.prog W 0 _ _ (m1+1) 3 [z3]=some y2 from j2)
       obtain ⟨l,a,c,rfl,h1,h2,h3,h4,h5⟩:=qbt (show DataW.trod enc Tryz.prog W 0 _ _ (m1+1) 24 [z4]=some y3 from j3)
       simp only [List.cons.injEq,and_true] at a0 a1 a2 a3
       subst a0 a1 a2 a3
       exact ⟨⟨(n0,n1),n2,n3,l,a,c⟩,rfl,fun h=>h1 h,⟨h2,h3⟩,h4,h5⟩
end
end Go.Proofs.YtnpjncjnmpfgpaaGreatDoor
end
section
namespace Go.Proofs.YtnpjncjnmpfgpaaGreatDoor
open Go Go.Conc Go.Sim Go.Load Go.RowKit Go.ChangeShapes Go.WideShapes Go.ChangeAt
open Go.Proofs.Tryz
section
variable {H:Type} {enc:TypeId×Value→H} {W:World} {t:TypeId} {r:Reach} {b0:Nat} {v:Value} {d:DataW H} {ps:List MemPlace}
end
end Go.Proofs.YtnpjncjnmpfgpaaGreatDoor
end
section
namespace Go.Proofs.YtnpjncjnmpfgpaaGreatDoor
open Go Go.Conc Go.Sim Go.Load Go.RowKit Go.ChangeShapes Go.WideShapes Go.ChangeAt
open Go.Proofs.Tryz
def BkX (W:World) (B:Bk) (b:Nat):Prop:=(∃cs e f,W.heap[b]? = some (.cells cs e f))∧((∃a,B.ga=some a∧a.block=b)∨∃g∈B.gs,∃a,g.ta=some a∧a.block=b)
structure BookIn (w:World) (B:Bk):Prop where
 row:qcG w B
 traf:∀g∈B.gs,yK w g
theorem BookIn.keep {w w1:World} {B:Bk} (h:BookIn w B) (hB:Below w.heap.size w w1):BookIn w1 B:=⟨h.row.keep hB,fun g hg=>(h.traf g hg).keep hB⟩
theorem BookIn.at {w:World} {B:Bk} (h:BookIn w B) (hs:B.gs.length≤20∧∀g∈B.gs,g.traffic.length≤20∧g.name.size≤100) (hc:B.gs.length≤B.gc):BookAt w B:=⟨h.row,h.traf,hs,hc⟩
theorem vr_book {W:World} {B:Bk} (h:BookRd W B) {X:Nat→Prop} {C:FuncId→Prop} {R:Nat→Nat→Prop} (hX:∀b,BkX W B b→X b) (hR:∀b,X b→R b b):VR C R (bv B) (bv B):=by
 refine .agg rfl fun i x x' hx hx'=>?_
 rw [hx] at hx'
 cases hx'
 have hi:=(Array.getElem?_eq_some_iff.1 hx).1
 rcases (show i=0∨i=1∨i=2∨i=3∨i=4 by simp at hi;omega) with rfl | rfl | rfl | rfl | rfl
 ·cases hx;exact .int _ _
 ·cases hx;exact .int _ _
 ·cases hx;exact .int _ _
 ·cases hx;exact .int _ _
 ·have e:x=.slice B.ga B.gs.length B.gc:=by cases hx;rfl
  rw [e]
  have had:=h.ad
  cases ha:B.ga with
  | none=>exact .snil _ _
  | some a =>
    rcases had a ha with ⟨h1,h2⟩ | h1
    ·rw [h1,h2];exact .zcap a
    ·exact .slice _ _ ⟨hR _ (hX _ ⟨h1,.inl ⟨a,ha,rfl⟩⟩),rfl,rfl⟩
theorem book_in {W w:World} {B:Bk} (h:BookRd W B) {X:Nat→Prop} (hX:∀b,BkX W B b→X b) (hk:∀b o v,X b→W.cell? ⟨b,o,none⟩=some v→PlainX X v→w.cell? ⟨b,o,none⟩=some v):BookIn w B:=by
 refine ⟨fun hl=>?_,fun g hg hl=>?_⟩
 ·obtain ⟨b,o,e,hc⟩:=h.row hl
  have hxb:∀i (g:Grp),B.gs[i]? = some g→X b:=fun i g hg=>hX b ⟨(xe (hc i g hg).1).2,.inl ⟨_,e,rfl⟩⟩
  refine ⟨b,o,e,fun i g hg=>⟨hk _ _ _ (hxb i g hg) (hc i g hg).1 (.str _),hk _ _ _ (hxb i g hg) (hc i g hg).2.1 (.int _ _),hk _ _ _ (hxb i g hg) (hc i g hg).2.2 ?_⟩⟩
  have hm:=List.mem_of_getElem? hg
  have had:=(h.gr g hm).ad
  cases ha:g.ta with
  | none=>exact .snil _ _
  | some a =>
    rcases had a ha with ⟨h1,h2⟩ | h1
    ·rw [h1,h2];exact .zcap a
    ·exact .slice a _ _ (hX _ ⟨h1,.inr ⟨g,hm,a,ha,rfl⟩⟩)
 ·obtain ⟨b,o,e,hp⟩:=(h.gr g hg).traf hl
  refine ⟨b,o,e,fun i x hx=>?_⟩
  have hxb:X b:=hX b ⟨(xe (hp i x hx).1).2,.inr ⟨g,hg,_,e,rfl⟩⟩
  exact ⟨hk _ _ _ hxb (hp i x hx).1 (.int _ _),hk _ _ _ hxb (hp i x hx).2 (.int _ _)⟩
end Go.Proofs.YtnpjncjnmpfgpaaGreatDoor
end
section
namespace Go.Proofs.Tryz
open Go Go.Sim Go.Load Go.RowKit
open Go.Proofs.YtnpjncjnmpfgpaaGreatDoor (BookIn)
def modest (B:Bk):Bool:=decide (B.gs.length≤20) && B.gs.all fun g=>decide (g.name.size≤100) && decide (g.traffic.length≤20)
theorem qdi {B:Bk} (h:modest B=true):B.gs.length≤20∧∀g∈B.gs,g.traffic.length≤20∧g.name.size≤100:=by
 unfold modest at h
 simp only [Bool.and_eq_true,decide_eq_true_eq,List.all_eq_true] at h
 exact ⟨h.1,fun g hg=>⟨(h.2 g hg).2,(h.2 g hg).1⟩⟩
set_option maxHeartbeats 2000000 in
set_option maxRecDepth 100000 in
theorem JE (B:Bk) (w:World) (h:BookIn w B):Calls qf 6 #[bv B] w fun e w'=>e=.returned (.bool (!modest B))∧Below w.heap.size w w':=by
 obtain ⟨R,hR⟩:∃R,modest B=R:=⟨_,rfl⟩
 rw [hR]
 have hrow:=h.row
 clear h
 obtain ⟨lim,gr,hr,gs,ga,gc⟩:=B
 simp only [bv]
 simp only [modest] at hR
 by_cases hlen:gs.length≤20
 ·rw [decide_eq_true hlen,Bool.true_and] at hR
  by_cases h0:1≤gs.length
  ·obtain ⟨b,o,hga,hcs⟩:=hrow h0
   simp only at hga hcs
   subst hga
   have HG:Hid ((∀(j:Nat) (g:Grp),gs[j]? = some g→g.name.size≤100∧g.traffic.length≤20)→R=true):=Lib.hid fun h=>by
    rw [← hR,List.all_eq_true]
    intro x hx
    obtain ⟨j,hj,rfl⟩:=List.getElem_of_mem hx
    have:=h j gs[j] (by simp [hj])
    simp [this.1,this.2]
   have HB:Hid (∀(j:Nat) (g:Grp),gs[j]? = some g→¬ (g.name.size≤100∧g.traffic.length≤20)→R=false):=Lib.hid fun j g hg h=>by
    rw [← hR,List.all_eq_false]
    refine ⟨g,List.mem_of_getElem? hg,fun e=>h ?_⟩
    simpa using e
   have HC:=Lib.hid hcs
   clear hcs hrow hR
   go_enter s6,ntmps6
   go_wp2
   obtain ⟨W,hW⟩:∃W,w.alloc (Obj.cells #[.int .i64 lim.1,.int .i64 lim.2,.int .i64 gr,.int .i64 hr,.slice (some ⟨b,o,none⟩) gs.length gc] 26)=W:=⟨_,rfl⟩
   have k4:W.cell? ⟨w.heap.size,4,none⟩=some (.slice (some ⟨b,o,none⟩) gs.length gc):=by subst hW;go_cell
   have hBW:Below w.heap.size w W:=by subst hW;go_grown
   rw [hW]
   clear hW
   go_loop [3] (fun i=>∃k:Nat,i=.int .i64 k∧k≤gs.length∧Hid (∀(j:Nat) (g:Grp),j < k→gs[j]? = some g→g.name.size≤100∧g.traffic.length≤20)) (fun i=>gs.length - (intOf i).toNat)
   case atStart=>exact ⟨0,rfl,Nat.zero_le _,Lib.hid fun j x hj=>absurd hj (Nat.not_lt_zero _)⟩
   case round =>
    obtain ⟨k,rfl,hk,HK⟩:=hrel
    by_cases hlt:k < gs.length
    ·obtain ⟨g,hg⟩:∃g,gs[k]? = some g:=⟨gs[k],by simp [hlt]⟩
     obtain ⟨c0,c1,c2⟩:=HC.out k g hg
     have c0:=qb _ hBW c0
     have c2:=qb _ hBW c2
     have hBk:=HB.out k g hg
     have HN:(g.name.size≤100∧g.traffic.length≤20)→Hid (∀(j:Nat) (y:Grp),j < k+1→gs[j]? = some y→y.name.size≤100∧y.traffic.length≤20):=fun hh=>Lib.hid fun j y hj hy=>by
      rcases Nat.lt_succ_iff_lt_or_eq.1 hj with h1 | rfl
      ·exact HK.out j y h1 hy
      ·rw [hg] at hy
       cases hy
       exact hh
     clear hg
     by_cases h1:g.name.size≤100
     ·by_cases h2:g.traffic.length≤20
      ·have HN:=HN ⟨h1,h2⟩
       clear hBk
       go_wp2
       go_round
       case rel=>exact ⟨k+1,by go_num,by omega,HN⟩
       case measure=>simp [intOf];omega
      ·have hb:=hBk fun h=>h2 h.2
       subst hb
       clear hBk HN
       go_wp2
       go_ret
       exact ⟨rfl,hBW⟩
     ·have hb:=hBk fun h=>h1 h.1
      subst hb
      clear hBk HN
      go_wp2
      go_ret
      exact ⟨rfl,hBW⟩
    ·obtain rfl:k=gs.length:=by omega
     have hb:R=true:=HG.out fun j g hg=>HK.out j g (List.getElem?_eq_some_iff.1 hg).1 hg
     subst hb
     go_wp2
     go_ret
     exact ⟨rfl,hBW⟩
  ·obtain rfl:gs=[]:=List.length_eq_zero_iff.1 (by omega)
   have hb:R=true:=by rw [← hR];rfl
   subst hb
   clear hrow hR
   go_enter s6,ntmps6
   go_wp2
   refine wp_loop_rounds 1 ?_
   rw [rounds_succ]
   go_wp2
   go_ret
   exact ⟨rfl,by go_grown⟩
 ·have hb:R=false:=by rw [← hR,decide_eq_false hlen,Bool.false_and]
  subst hb
  clear hrow hR
  go_enter s6,ntmps6
  go_wp2
  go_ret
  exact ⟨rfl,by go_grown⟩
end Go.Proofs.Tryz
end
namespace Go.Proofs.Tryz
open Go Go.Sim Go.Load Go.RowKit
theorem XH:qf.funcs[15]? = some Xp:=by kernel_rfl
theorem qfW:Xp.ntmps=48:=rfl
@[go_sem] theorem src_needsC (args:Array Value) (w:World):(callFunc 15 args).run qf w=.ok (.enter 15 args) w:=qh XH (by kernel_rfl) (by kernel_rfl) args w
section
variable {w:World} {a b c d e:Value}
theorem yL {S T:TypeId} {fs:Array Field} {fd:Field} {k:Nat} {cs:Array Value} {z:Value} (hu:qf.underlying S=some (.struct fs)) (hf:fs[k]? = some fd) (ht:fd.type=T) (ha:(isAgg T).run qf w=.ok false w) (hz:cs[fd.offset]? = some z):(Instr.field S (.agg cs) k).run qf w=.ok z w:=by
 simp only [Instr.field,Sem.run_bind,run_underlying hu,Result.andThen_ok,hf,asAgg,Sem.run_pure,part,ht,ha,Bool.false_eq_true,if_false,hz]
@[go_sem] theorem fld_bk1:(Instr.field 26 (.agg #[a,b,c,d,e]) 1).run qf w=.ok c w:=yL ZQ bk1 (T:=3) (by kernel_rfl) jB (by rw [show (fld 26 1).offset=2 by kernel_rfl];rfl)
@[go_sem] theorem fld_bk2:(Instr.field 26 (.agg #[a,b,c,d,e]) 2).run qf w=.ok d w:=yL ZQ bk2 (T:=3) (by kernel_rfl) jB (by rw [show (fld 26 2).offset=3 by kernel_rfl];rfl)
@[go_sem] theorem fld_bk3:(Instr.field 26 (.agg #[a,b,c,d,e]) 3).run qf w=.ok e w:=yL ZQ bk3 (T:=24) (by kernel_rfl) ag_grs (by rw [show (fld 26 3).offset=4 by kernel_rfl];rfl)
@[go_sem] theorem fld_bk0:(Instr.field 26 (.agg #[a,b,c,d,e]) 0).run qf w=.ok (.agg #[a,b]) w:=by
  simp only [Instr.field,Sem.run_bind,run_underlying ZQ,Result.andThen_ok,bk0,asAgg,Sem.run_pure,part,show (fld 26 0).type=23 by kernel_rfl,show (fld 26 0).offset=0 by kernel_rfl,ag_fr,if_true,qdC]
  rfl
@[go_sem] theorem fld_gr0:(Instr.field 56 (.agg #[a,b,c]) 0).run qf w=.ok a w:=yL XK gr0 (T:=9) (by kernel_rfl) ag_str (by rw [show (fld 56 0).offset=0 by kernel_rfl];rfl)
@[go_sem] theorem fld_gr1:(Instr.field 56 (.agg #[a,b,c]) 1).run qf w=.ok b w:=yL XK gr1 (T:=3) (by kernel_rfl) jB (by rw [show (fld 56 1).offset=1 by kernel_rfl];rfl)
@[go_sem] theorem fld_gr2:(Instr.field 56 (.agg #[a,b,c]) 2).run qf w=.ok c w:=yL XK gr2 (T:=54) (by kernel_rfl) ag_frs (by rw [show (fld 56 2).offset=2 by kernel_rfl];rfl)
@[go_sem] theorem fld_fr0:(Instr.field 23 (.agg #[a,b]) 0).run qf w=.ok a w:=yL XJ fr0 (T:=3) (by kernel_rfl) jB (by rw [show (fld 23 0).offset=0 by kernel_rfl];rfl)
@[go_sem] theorem fld_fr1:(Instr.field 23 (.agg #[a,b]) 1).run qf w=.ok b w:=yL XJ fr1 (T:=3) (by kernel_rfl) jB (by rw [show (fld 23 1).offset=1 by kernel_rfl];rfl)
end
theorem qeY {w:World} {n:Nat} (hn:n≤1000):(Instr.makeSlice 33 (.int .i64 n) (.int .i64 n)).run qf w=.ok (.slice (some ⟨w.heap.size,0,none⟩) n n) (w.alloc (.cells (madeCells #[.int .i64 0] n) 3)):=by
 have hi:qf.info? 3=some ((Tryz.prog.info? 3).getD default):=by rw [yI];kernel_rfl
 have hs:((Tryz.prog.info? 3).getD default).size=1:=by kernel_rfl
 have hby:((Tryz.prog.info? 3).getD default).bytes=8:=by kernel_rfl
 have hz:((Tryz.prog.info? 3).getD default).zero=some (.int .i64 0):=by kernel_rfl
 generalize (Tryz.prog.info? 3).getD default=inf at hi hs hby hz
 have hr:=run_makeSlice (P:=qf) w 33 3 inf (.int .i64 0) (by rw [zf];exact Tryz.underlying33) hi hz .i64 .i64 (n:Int) n (by omega) (by omega) (by rw [hs];omega) (by rw [hby];omega) (by omega)
 rw [hs] at hr
 simpa [Value.cells] using hr
def RowI (W:World) (s n:Nat) (L:List Int) (k:Nat):Prop:=∀i,i < n→∃x,W.cell? ⟨s,i,none⟩=some (.int .i64 x)∧W.frozen? ⟨s,i,none⟩=false∧(i < k→L[i]? = some x)
theorem RowI.keep {W w1:World} {s n k:Nat} {L:List Int} (h:RowI W s n L k) (hB:Below W.heap.size W w1):RowI w1 s n L k:=fun i hi =>
 let ⟨x,a,b,c⟩:=h i hi
 ⟨x,qb _ hB a,qg _ hB a b,c⟩
theorem RowI.set {W:World} {s n k:Nat} {L:List Int} {y:Int} (h:RowI W s n L k) (hk:k < n) (hy:L[k]? = some y):RowI (W.setCell ⟨s,k,none⟩ (.int .i64 y)) s n L (k+1):=fun i hi=>by
 obtain ⟨x,a,b,c⟩:=h i hi
 by_cases e:i=k
 ·subst e;exact ⟨y,qQ (qx a),by simpa using b,fun _=>hy⟩
 ·exact ⟨x,qc (by simp <;> omega) a,by simpa using b,fun h=>c (by omega)⟩
def qcq (B:Bk):List Int:=B.gs.map (Qt B)
set_option maxHeartbeats 4000000 in
set_option maxRecDepth 100000 in
theorem Needs_ok (B:Bk) (w:World) (h:BookAt w B) (hG:Globs w) (hl:1≤B.gs.length) (ht:∀g∈B.gs,1≤g.traffic.length) (hcp:∀g∈B.gs,g.traffic.length≤g.tc) (hz:checkN B=0):Calls qf 15 #[bv B] w fun e w'=>∃v,e=.returned (.tuple #[v,.int .i64 0])∧xD w' v (qcq B)∧Below w.heap.size w w':=by
 have hop:=fun W (hB:Below w.heap.size w W)=>zS B true W (h.keep hB) (hG.keep hB)
 unfold jG at hop
 simp only [if_pos hz,if_true] at hop
 have hV:=qN hz
 have hne:=fun (W:World) (hB:Below w.heap.size w W) (i:Nat) (g:Grp) (hg:B.gs[i]? = some g)=>YK B i g hg W ⟨h.keep hB,hV.num.1⟩ (hV.grp g (List.mem_of_getElem? hg)).traf
 obtain ⟨b,o,hga,hcs⟩:=h.row hl
 have htr:=Lib.hid fun g (hg:g∈B.gs)=>h.traf g hg (ht g hg)
 have hsm:=Lib.hid h.small.2
 have hl4:=hV.len4
 have hcap:=h.cap
 have HT:=Lib.hid ht
 have HCP:=Lib.hid hcp
 have HO:=Lib.hid hop
 have HN:=Lib.hid hne
 obtain ⟨L,hL⟩:∃L,L=qcq B:=⟨_,rfl⟩
 have HL:Hid (L.length=B.gs.length∧∀(i:Nat) (g:Grp),B.gs[i]? = some g→L[i]? = some (Qt B g)):=Lib.hid ⟨by rw [hL];simp [qcq],fun i g hg=>by rw [hL];show (B.gs.map (Qt B))[i]? = some (Qt B g);rw [List.getElem?_map,hg];rfl⟩
 obtain ⟨nN,hnN⟩:∃nN,nN=Qt B:=⟨_,rfl⟩
 rw [← hL]
 simp only [← hnN] at HN HL
 clear hop hne hV hz ht hcp hL hnN h hG
 obtain ⟨lim,gr,hr,gs,ga,gc⟩:=B
 simp only at hga hcs hl4 hl hcap
 subst hga
 simp only [bv] at *
 have HC:=Lib.hid hcs
 clear hcs
 obtain ⟨s21,h21⟩:∃s:ByteArray,s=⟨Array.replicate 21 0⟩:=⟨_,rfl⟩
 obtain ⟨s101,h101⟩:∃s:ByteArray,s=⟨Array.replicate 101 0⟩:=⟨_,rfl⟩
 have z21:s21.size=21:=by rw [h21];rfl
 have z101:s101.size=101:=by rw [h101];rfl
 go_enter XH,qfW
 simp only [jY,sB2,sB3,sL0,sL1,sL2,sO0,sO1,sO2,sO3,sO4,sO5,sO6,sO7,sO8,sO9,sO11,sO12,op2,qap,zero2,str21,str101,← h21,← h101]
 clear h21 h101
 go_wp2
 obtain ⟨W,hW⟩:∃W,w.alloc (Obj.cells #[.int .i64 lim.1,.int .i64 lim.2,.int .i64 gr,.int .i64 hr,.slice (some ⟨b,o,none⟩) gs.length gc] 26)=W:=⟨_,rfl⟩
 have hBW:Below w.heap.size w W:=by subst hW;go_grown
 rw [hW]
 clear hW
 go_loopw [7] (fun i wr=>W=wr∧∃k:Nat,i=.int .i64 k∧k≤gs.length) (fun i _=>gs.length - (intOf i).toNat)
 case atStart=>exact ⟨rfl,0,rfl,by omega⟩
 case round =>
  obtain ⟨hwr,k,rfl,hk⟩:=hrel
  subst hwr
  by_cases hlt:k < gs.length
  ·obtain ⟨g,hg⟩:∃g,gs[k]? = some g:=⟨gs[k],by simp [hlt]⟩
   have hm:=List.mem_of_getElem? hg
   obtain ⟨c0,c1,c2⟩:=HC.out k g hg
   replace c0:=qb _ hBW c0
   replace c1:=qb _ hBW c1
   replace c2:=qb _ hBW c2
   obtain ⟨tb,tof,hta,hp⟩:=htr.out g hm
   have ht1:=HT.out g hm
   have htc:=HCP.out g hm
   obtain ⟨ht2,hn2⟩:=hsm.out g hm
   have HP:=Lib.hid hp
   clear hp
   rw [hta] at c2
   go_wp2
   all_goals try (exfalso;omega)
   go_loopw [28] (fun j wr=>W=wr∧∃m:Nat,j=.int .i64 m∧m≤g.traffic.length) (fun j _=>g.traffic.length - (intOf j).toNat)
   case atStart=>exact ⟨rfl,0,rfl,by omega⟩
   case round =>
    obtain ⟨hwr,m,rfl,hmle⟩:=hrel
    subst hwr
    by_cases hlt2:m < g.traffic.length
    ·obtain ⟨x,hx⟩:∃x,g.traffic[m]? = some x:=⟨g.traffic[m],by simp [hlt2]⟩
     obtain ⟨p0,p1⟩:=HP.out m x hx
     replace p0:=qb _ hBW p0
     replace p1:=qb _ hBW p1
     go_wp2
     exact ⟨⟨trivial,m+1,by simp,by omega⟩,by simp [intOf];omega⟩
    ·go_wp2
     exact ⟨⟨trivial,k+1,by simp,by omega⟩,by simp [intOf];omega⟩
  ·go_wp2_with (go_at_call 42;refine (HO.out _ (by go_grown)).mono ?_;rintro e w1 ⟨rfl,hB1⟩;(first | (replace hB:=bcl (by with_reducible assumption) hB1) | (replace hB:=bcl (by go_grown) hB1) | (have hB:=hB1));(try clear hc hg hz);obtain ⟨hc,hg⟩:=qy hB;have hz:=hB.size;clear hB1;(try simp at hz);(try have hlt0:w.heap.size < w1.heap.size:=by omega))
   rw [qeY (by omega)]
   go_wp2
   obtain ⟨X,hX⟩:∃X,w1.alloc (.cells (madeCells #[.int .i64 0] gs.length) 3)=X:=⟨_,rfl⟩
   have hBX:Below w.heap.size w X:=by subst hX;go_grown
   have hsX:X.heap.size=w1.heap.size+1:=by subst hX;simp
   have hRX:RowI X w1.heap.size gs.length L 0:=by
    subst hX
    intro i hi
    have hg0:(madeCells #[.int .i64 0] gs.length)[i]? = some (.int .i64 0):=by simp [madeCells,hi,Nat.mod_one]
    have hb:(w1.alloc (.cells (madeCells #[.int .i64 0] gs.length) 3)).heap[w1.heap.size]? = some (.cells (madeCells #[.int .i64 0] gs.length) 3):=by show (w1.heap.push _)[w1.heap.size]? = _;simp
    exact ⟨0,by unfold World.cell?;rw [hb];exact hg0,by unfold World.frozen?;rw [hb];simp,fun h=>absurd h (Nat.not_lt_zero _)⟩
   rw [hX]
   obtain ⟨s,hs⟩:∃s,w1.heap.size=s:=⟨_,rfl⟩
   have hws:w.heap.size≤s:=by omega
   rw [hs] at hRX ⊢
   have hsX':s < X.heap.size:=by omega
   clear hX hsX
   go_loopw [7] (fun j wr=>∃m:Nat,j=.int .i64 m∧m≤gs.length∧RowI wr s gs.length L m∧Below w.heap.size w wr∧s < wr.heap.size) (fun j _=>gs.length - (intOf j).toNat)
   case atStart=>exact ⟨0,rfl,by omega,hRX,hBX,hsX'⟩
   case round =>
    obtain ⟨m,rfl,hm,hR,hBr,hsr⟩:=hrel
    by_cases hlt3:m < gs.length
    ·obtain ⟨g,hg⟩:∃g,gs[m]? = some g:=⟨gs[m],by simp [hlt3]⟩
     have hne:=fun W hB=>HN.out W hB m g hg
     have hLm:=HL.out.2 m g hg
     go_wp2_with (go_at_call 62;refine (hne _ (by go_grown)).mono ?_;rintro e w2 ⟨rfl,hB2⟩;have hR2:=hR.keep hB2;obtain ⟨x2,kx,fx,_⟩:=hR2 m hlt3;have hz2:=hB2.size)
     refine ⟨⟨m+1,by simp,by omega,hR2.set hlt3 hLm,Below.setCell (bcl hBr hB2) hws _,by simp;omega⟩,by simp [intOf];omega⟩
    ·go_wp2
     refine bodyPost_ret (results_tmp2 (show Xp.results=#[.tmp 2,.tmp 3] by kernel_rfl) _ _ _) rfl ?_
     obtain rfl:m=gs.length:=by omega
     refine ⟨_,rfl,⟨some ⟨s,0,none⟩,gs.length,?_,fun _=>⟨s,rfl,fun i x hx=>?_⟩⟩,hBr⟩
     ·rw [HL.out.1];rfl
     ·have hi:i < gs.length:=by rw [← HL.out.1];exact (List.getElem?_eq_some_iff.1 hx).1
      obtain ⟨y,a1,_,a3⟩:=hR i hi
      rw [a3 hi] at hx
      cases hx;exact a1
end Go.Proofs.Tryz
namespace Go.Proofs.Tryz
open Go Go.Load Go.RowKit
abbrev RN (W:World) (a1 a2 a3 a4 a5 a6:Addr) (v1 v2 v3 v4 v5 v6:Value) (X:World):Prop :=
 X.cell? a1=some v1∧X.cell? a2=some v2∧X.cell? a3=some v3∧X.cell? a4=some v4∧X.cell? a5=some v5∧X.cell? a6=some v6∧Below W.heap.size W X
section
variable {W X Y:World} {a1 a2 a3 a4 a5 a6:Addr} {v1 v2 v3 v4 v5 v6:Value}
theorem RN.call (h:RN W a1 a2 a3 a4 a5 a6 v1 v2 v3 v4 v5 v6 X) (hB:Below X.heap.size X Y):RN W a1 a2 a3 a4 a5 a6 v1 v2 v3 v4 v5 v6 Y :=
 ⟨qb _ hB h.1,qb _ hB h.2.1,qb _ hB h.2.2.1,qb _ hB h.2.2.2.1,qb _ hB h.2.2.2.2.1,qb _ hB h.2.2.2.2.2.1,bcl h.2.2.2.2.2.2 hB⟩
theorem RN.drew (h:RN W a1 a2 a3 a4 a5 a6 v1 v2 v3 v4 v5 v6 X):RN W a1 a2 a3 a4 a5 a6 v1 v2 v3 v4 v5 v6 X.drew:=h.call (Below.refl _ X).drew
theorem RN.bel (h:RN W a1 a2 a3 a4 a5 a6 v1 v2 v3 v4 v5 v6 X):Below W.heap.size W X:=h.2.2.2.2.2.2
end
theorem KSt.box5 {w W:World} {l:List (Addr×Value)} (h:KSt w W l) (v0 v1 v2 v3 v4:Value) (ty:TypeId):KSt w (W.alloc (.cells #[v0,v1,v2,v3,v4] ty)) ((⟨W.heap.size,0,none⟩,v0) :: (⟨W.heap.size,1,none⟩,v1) :: (⟨W.heap.size,2,none⟩,v2) :: (⟨W.heap.size,3,none⟩,v3) :: (⟨W.heap.size,4,none⟩,v4) :: l):=by
 have h':=h.call ((Below.refl _ W).alloc (Nat.le_refl _) (.cells #[v0,v1,v2,v3,v4] ty))
 have hF:=(Five.new W v0 v1 v2 v3 v4 ty).c
 refine ⟨fun p hp=>?_,h'.gl,h'.bw⟩
 simp only [List.mem_cons] at hp
 rcases hp with rfl | rfl | rfl | rfl | rfl | hp
 ·exact hF.1
 ·exact hF.2.1
 ·exact hF.2.2.1
 ·exact hF.2.2.2.1
 ·exact hF.2.2.2.2
 ·exact h'.cs p hp
theorem qM.symm {a b:List Grp} (h:qM a b):qM b a:=⟨h.1.symm,fun i x y hx hy=>let ⟨p,q,r⟩:=h.2 i y x hy hx;⟨p.symm,q.symm,r.symm⟩⟩
def bkZ:Bk:=⟨(0,0),0,0,[],none,0⟩
theorem Xt (w:World):BookAt w bkZ:=⟨fun h=>absurd h (by decide),fun g hg=>(by cases hg),⟨by decide,fun g hg=>(by cases hg)⟩,by decide⟩
structure OB (W:World) (q:Nat) (L:List Grp) (g gc:Nat) (l:List Grp) (tb:Nat→Nat):Prop where
 same:qM L l
 own:OwnGs 0 W g l l.length tb
 cap:l.length≤gc
 ng:q≠g
 nt:∀(i:Nat) y,i < l.length→l[i]? = some y→q≠tb i
section
variable {W W1:World} {q g gc:Nat} {L l:List Grp} {tb:Nat→Nat}
end
end Go.Proofs.Tryz
