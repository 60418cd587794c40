/-
  Lemmas about the program and the machine (C53 to C49), upon which the last text of this claim rests; no condition.
-/
import Derived.Test.YtnpjncjnmpfgpaaGreatDoorCards
import Derived.Test.YtnpjncjnmpfgpaaGreatDoorTie
import Derived.ProofKit
import Derived.LaidMore
import Derived.OpenShut
import Derived.Stop.Joined
import Derived.Conc.Holds
import Derived.Conc.LeavingOf
import Derived.SevenTiedAt
import Derived.ChangeCalls
import Derived.Deep.SlicePairs
import Derived.ChangeSlices
import Derived.WideShapes
import Derived.Deep.Slices
import Derived.ChangeArms
import Derived.Test.YtnpjncjnmpfgpaaGreatDoorG19
import Derived.Test.YtnpjncjnmpfgpaaGreatDoorG10
import Derived.Test.YtnpjncjnmpfgpaaGreatDoorG11
import Derived.Test.YtnpjncjnmpfgpaaGreatDoorG12
set_option linter.unusedSimpArgs false
set_option linter.unusedVariables false
section
namespace Go.Proofs.YtnpjncjnmpfgpaaGreatDoor
open Go Go.Conc Go.Sim Go.Load Go.RowKit Go.ChangeShapes Go.WideShapes Go.ChangeAt
open Go.Proofs.Tryz
abbrev laidAll:List (String×DataW Unit):=[("baudot/load.checks",Rows.laid_baudot_load_checks),("baudot/load.nothing",Rows.laid_baudot_load_nothing)]
theorem ownK:ownKnob Tryz.prog.godebug=none:=by kernel_rfl
theorem gNothing:Tryz.prog.globalNamed "baudot/load.nothing"=some 1:=by kernel_rfl
theorem gChecks:Tryz.prog.globalNamed "baudot/load.checks"=some 0:=by kernel_rfl
theorem tNothing:(Tryz.prog.globals[1]?).map (·.type)=some 72:=by kernel_rfl
theorem tChecks:(Tryz.prog.globals[0]?).map (·.type)=some 78:=by kernel_rfl
theorem cInt:Tryz.prog.cellsOf 3=1:=by kernel_rfl
theorem cFn:Tryz.prog.cellsOf 77=1:=by kernel_rfl
theorem cPart:Tryz.prog.cellsOf 72=2:=by kernel_rfl
theorem cTab:Tryz.prog.cellsOf 78=2:=by kernel_rfl
theorem qco {P:Program} {w:World} {n:String} {g:Nat} {cs:Array Value} (hg:P.globalNamed n=some g) (h:w.var? P n=some cs):∃e f,w.heap[g]? = some (.cells cs e f):=by
 simp only [World.var?,hg,Option.bind_some] at h
 split at h
 ·rename_i c e f he
  cases h
  exact ⟨_,_,he⟩
 ·cases h
theorem qat {cs:Array Value} (h:cs.toList.length=2):∃x y,cs=#[x,y]:=by
 obtain ⟨l⟩:=cs
 match l,h with
 | [x,y],_=>exact ⟨x,y,rfl⟩
set_option maxRecDepth 100000 in
theorem of_laid {W:World} (h:laidMetH Tryz.prog laidAll W):∃e0 e1 f0 f1,W.heap[1]? = some (.cells #[.int .i64 0,.int .i64 1] e0 f0)∧W.heap[0]? = some (.cells #[fnum,fgrp] e1 f1):=by
 have h1:=h.funcs (List.mem_cons_self ..)
 obtain ⟨g,t,cs,fuel,p,hg,ht,hv,hd⟩:=h1
 obtain rfl:=Option.some.inj (gChecks.symm.trans hg)
 obtain rfl:=Option.some.inj (tChecks.symm.trans ht)
 have h2:laidMet Tryz.prog [("baudot/load.nothing",Rows.laid_baudot_load_nothing)] W:=by
  have h':laidMet Tryz.prog (laidAll.filter fun x=>x.2.handleName?.isNone) W:=h.1
  exact h'
 obtain ⟨ps,⟨g0,t0,cs0,fl0,p0,q0,hg0,ht0,hv0,hd0,_⟩,_,_⟩:=h2
 obtain rfl:=Option.some.inj (gNothing.symm.trans hg0)
 obtain rfl:=Option.some.inj (tNothing.symm.trans ht0)
 obtain ⟨e0,f0,hh0⟩:=qco hg0 hv0
 obtain ⟨e1,f1,hh1⟩:=qco hg hv
 obtain ⟨xs,m,rfl,hx,hl,hn,hel⟩:=DataW.trod_array Tryz.underlying78 hd
 obtain ⟨ys,m0,rfl,hy,hl0,hn0,hel0⟩:=DataW.trod_struct Tryz.underlying72 hd0
 rw [cTab] at hl
 rw [cPart] at hl0
 obtain ⟨c0,c1,rfl⟩:=qat hl
 obtain ⟨d0,d1,rfl⟩:=qat hl0
 have k0:=hel 0 (by decide)
 have k1:=hel 1 (by decide)
 rw [cFn] at k0 k1
 have j0:=hel0 0 _ rfl
 have j1:=hel0 1 _ rfl
 match xs,hn,hx,k0,k1 with
 | [x0,x1],_,hx,k0,k1 =>
 match ys,hn0,hy,j0,j1 with
 | [y0,y1],_,hy,j0,j1 =>
   have hx':(DataW.agg [.held [40,98,97,117,100,111,116,47,108,111,97,100,46,98,111,111,107,41,46,110,117,109,98,101,114,115],.held [40,98,97,117,100,111,116,47,108,111,97,100,46,98,111,111,107,41,46,103,114,111,117,112,115]]:DataW (List UInt8))=.agg [x0.1,x1.1]:=congrArg Prod.fst hx
   have hy':(DataW.agg [.lit (.int .i64 0),.lit (.int .i64 1)]:DataW Unit)=.agg [y0.1,y1.1]:=congrArg Prod.fst hy
   simp only [DataW.agg.injEq,List.cons.injEq,and_true] at hx' hy'
   obtain ⟨x0,q0⟩:=x0
   obtain ⟨x1,q1⟩:=x1
   obtain ⟨rfl,rfl⟩:=hx'
   obtain ⟨y0,r0⟩:=y0
   obtain ⟨y1,r1⟩:=y1
   obtain ⟨rfl,rfl⟩:=hy'
   have e0':=func_of_trod (f0:=150) Tryz.underlying77 (by kernel_rfl) (show DataW.trod (funcToken Tryz.prog) Tryz.prog W 0 (fun _=>true) true m 77 [c0]=_ from k0)
   have e1':=func_of_trod (f0:=151) Tryz.underlying77 (by kernel_rfl) (show DataW.trod (funcToken Tryz.prog) Tryz.prog W 0 (fun _=>true) true m 77 [c1]=_ from k1)
   subst e0' e1'
   have j0':DataW.trod _ Tryz.prog W 0 _ _ m0 3 ((#[d0,d1].toList.drop 0).take (Tryz.prog.cellsOf 3))=some (.lit (.int .i64 0),r0):=j0
   have j1':DataW.trod _ Tryz.prog W 0 _ _ m0 3 ((#[d0,d1].toList.drop 1).take (Tryz.prog.cellsOf 3))=some (.lit (.int .i64 1),r1):=j1
   rw [cInt] at j0' j1'
   obtain ⟨n0,a0,b0,_⟩:=DataW.trod_int Tryz.underlying3 j0'
   obtain ⟨n1,a1,b1,_⟩:=DataW.trod_int Tryz.underlying3 j1'
   simp at a0 a1 b0 b1
   obtain ⟨rfl,_⟩:=b0
   obtain ⟨rfl,_⟩:=b1
   subst a0 a1
   exact ⟨e0,e1,f0,f1,hh0,hh1⟩
theorem kept_of {w w':World} (h1:w'.os=w.os) (h2:w'.output=w.output) (h3:∀k,k < w.heap.size→w'.heap[k]? = w.heap[k]?) (may:MemPlace→Prop):w.keptBut w' may:=by
 refine ⟨h1,h2,fun i hi=>?_⟩
 rw [h3 i hi]
 rcases w.heap[i]? with _ | o
 ·rfl
 ·cases o <;> simp
theorem qfL (Lk:Looks) {p:Pinned} {s:OpenSpec} {c:OpenClaim} (al:List (List PathCond)) (kinds:List LaidKind) (tests:Bool) (har:Bool×String) (lk:Bool)
 (hc:c.holds p s) (hal:∀D∈al,(c.withDomain D).holds p s) (hw:c.wfByText s=true) (hwal:∀D∈al,(c.withDomain D).wfByText s=true)
 (htie:c.laidByTextAt Lk p kinds tests)
 (hst:c.start=.entering) (hnb:c.noBlocks=false∧c.again=false) (hm:p.checked.prog.mainIs=some (har.1,har.2.toList)) (hn:(!har.1 && har.2.isEmpty && !lk)=false)
 (hl:∀f fn,p.checked.prog.funcNamed c.func=some f→p.checked.prog.funcs[f]? = some fn→lk=p.checked.prog.looks []∧∀(j:Nat) t,fn.params[j]? = some t→p.checked.prog.wantsStandIn t=false)
 (hg:true=c.goesBy p.checked.prog) :
 Claim7.holds p (.plain s) { stood:={ row:=c,standIns:=[],harness:=har,looks:=lk },kinds:=[],alts:=al,goes:=true,laidByText:=true,laidKinds:=kinds,laidTests:=tests,laidLooks:=Lk }:=by
 have h6:∀r:OpenClaim,Claim7.isSixth { stood:={ row:=r,standIns:=[],harness:=har,looks:=lk },kinds:=[] }=false:=fun r=>by simpa [Claim7.isSixth] using hn
 refine ⟨Claim7.tied_new_at Lk kinds tests (Claim7.new_of_sixth hc har lk hst hnb hm (h6 c) hl) hw,fun D hD=>?_,htie,(fun h=>by cases h),hg⟩
 exact Claim7.tied_new_at Lk kinds tests (Claim7.new_of_sixth (hal D hD) har lk hst hnb hm (h6 _) hl) (hwal D hD)
set_option maxRecDepth 100000 in
theorem door_met (os:Os) (args:Array Value):laidMetH Tryz.prog laidAll ((World.doorLaid Tryz.prog 19 os).forCall (fun _ _=>0) ⟨#[],args,[]⟩).memory :=
 laidMetH_of_parts3 (fuel:=8) (laidMet_of_run' 8 (by kernel_rfl) (by kernel_rfl)) (by kernel_rfl) (by kernel_rfl)
end Go.Proofs.YtnpjncjnmpfgpaaGreatDoor
end
section
namespace Go.Proofs.YtnpjncjnmpfgpaaGreatDoor
open Go Go.Conc Go.Sim Go.Load Go.RowKit Go.ChangeShapes Go.WideShapes Go.ChangeAt
open Go.Proofs.Tryz
set_option maxRecDepth 100000 in
theorem qbs:∀t e,t < Tryz.prog.types.size→Tryz.prog.underlying t=some (.slice e)→0 < Tryz.prog.cellsOf e:=slices_full_of Tryz.prog (by kernel_rfl)
set_option maxRecDepth 100000 in
theorem kids_all:Kids Tryz.prog (· < Tryz.prog.types.size):=kids_rows (by kernel_rfl) (by kernel_rfl)
def qbB {H:Type} (enc:TypeId×Value→H) (fn:Func) (W:World) (args:Array Value) (ds:List (DataW H)):Prop :=
 ∃p r b0,args.size=fn.params.size∧DataW.TrodAll enc Tryz.prog W 0 (fun _=>true) true fn.params.toList args.toList ds p∧∀(j:Nat) (t:TypeId) v,fn.params[j]? = some t→args[j]? = some v→Value.okWide Tryz.prog W r b0 t v
def qbG (f:FuncId) (W:World) (args:Array Value):Prop :=
 ∃X:Nat→Prop,(∀b,X b→∃c e f,W.heap[b]? = some (.cells c e f))∧(∀(C:FuncId→Prop) (R:Nat→Nat→Prop),(∀b,X b→R b b)→AR C R args args) ∧
  ∀w,Globs w→(∀b o v,X b→W.cell? ⟨b,o,none⟩=some v→PlainX X v→w.cell? ⟨b,o,none⟩=some v)→Calls qf f args w fun e w'=>e=.returned (.bool true)∧Below w.heap.size w w'
set_option maxRecDepth 100000 in
theorem law_at {f:FuncId} {fn:Func} {s:ChangeSpec} (os:Os) (started:os.Started) (H:Type) (enc:TypeId×Value→H) (hfn:Tryz.prog.funcs[f]? = some fn) (hres:fn.resultTypes=#[4]) (hvars:s.vars=[])
 (hspec:∀ds:List (DataW H),ds.length=fn.params.size→s.fn H ds={ results:=[.lit (.bool true)],args:=ds }) (hpar:∀t∈fn.params.toList,t < Tryz.prog.types.size) (hf:cB f=true) (hne:f≠15)
 (hC:∀W args ds,qbB enc fn W args ds→qbG f W args)
 (witness:∃(w:World) (tape:Tape) (i:Input),w.os=os∧(w.forCall tape i).Shaped Tryz.checked.prog∧i.vars=[]∧Input.okWide Tryz.checked.prog (w.forCall tape i) .any w.heap.size f i ∧
   ((s.pre enc Tryz.checked.prog fn [] false (w.forCall tape i).memory i.args∧laidMetH Tryz.checked.prog laidAll (w.forCall tape i).memory)∧sizedMet enc Tryz.checked.prog fn (OpenSpec.ofChange s) false (w.forCall tape i).memory i.args)∧({}:Assume).holds Tryz.checked.prog (lone (Frame.enter Tryz.checked.prog f i.args .normal) [] (w.forCall tape i))) :
 ReturnsInLeavingWide {} Tryz.checked os f .any (fun w args=>(s.pre enc Tryz.prog fn [] false w args∧laidMetH Tryz.prog laidAll w)∧sizedMet enc Tryz.prog fn (OpenSpec.ofChange s) false w args) (s.post enc Tryz.prog fn false true false false):=by
 refine returnsInLeavingWide_of_good ownK started witness ?_
 intro w tape i _ _ _ hok hpre hholds
 obtain ⟨_,_,_,fn',hfn',_,_,_,hsz,hval⟩:=hok
 have e:fn'=fn:=Option.some.inj (hfn'.symm.trans hfn)
 subst e
 obtain ⟨⟨⟨ds,gs,before,hw,_⟩,hL⟩,_⟩:=hpre
 have hw':=DataW.Whole.of_heap (w':=w.forCall tape i) (by rfl) hw
 have hL':=of_laid (laidMetH.of_heap (w':=w.forCall tape i) (by rfl) hL)
 have hval':∃b0,∀(j:Nat) (t:TypeId) v,fn'.params[j]? = some t→i.args[j]? = some v→Value.okWide Tryz.prog (w.forCall tape i) .any b0 t v:=⟨_,hval⟩
 clear hval hL hw hholds witness
 revert hL' hval' hw'
 generalize w.forCall tape i=W
 intro hw' hL' hval'
 obtain ⟨e0,e1,f0,f1,hn,hc⟩:=hL'
 obtain ⟨b0,hval'⟩:=hval'
 have hwhole:=hw'
 rw [hvars] at hw'
 obtain ⟨p,q,hA,hV,hpq,_,_⟩:=hw'
 obtain ⟨hgs,rfl⟩:=trodVars_none hV
 subst hgs
 obtain ⟨X,hX,hargs,hcalls⟩:=hC W i.args ds ⟨p,_,b0,hsz,hA,hval'⟩
 have hng:Tryz.prog.globals.size≤W.heap.size:=by
  have h1:Tryz.prog.globals.size=2:=by kernel_rfl
  have h2:=(Array.getElem?_eq_some_iff.1 hc).1
  have h3:=(Array.getElem?_eq_some_iff.1 hn).1
  omega
 have hlen:ds.length=fn'.params.size:=by
  have:=(trodAll_length hA).2
  simpa using this
 obtain ⟨N,last,o,w',t',r1,r2,r3,r4⟩:=qdh hf hne hX hargs hng hn hc hcalls
 refine ⟨N,last,o,w',t',r1,r2,r3,r4.mono fun v hp=>ChangeSpec.post_blind ?_⟩
 obtain ⟨⟨_,rfl⟩,h1,h2,h3,h4,_⟩:=hp
 refine ⟨ds,[],_,[],p,[],hwhole,?_,?_,?_,kept_of h3 h4 h1 _,fun h=>by cases h⟩
 ·rw [List.append_nil,hspec _ hlen,hres]
  exact trodAll_mk1 (shut_bool Tryz.underlying4 _)
 ·rw [List.append_nil,hspec _ hlen]
  exact Yh kids_all qbs h1 hpar hA
 ·rw [List.append_nil,hspec _ hlen,hvars]
  rfl
end Go.Proofs.YtnpjncjnmpfgpaaGreatDoor
end
section
namespace Go.Proofs.YtnpjncjnmpfgpaaGreatDoor
open Go Go.Conc Go.Sim Go.Load Go.RowKit Go.ChangeShapes Go.WideShapes Go.ChangeAt
open Go.Proofs.Tryz
theorem addr_add (a:Addr) (i:Nat) (h:a.spot=none):a.add i=⟨a.block,a.off+i,none⟩:=by
 obtain ⟨b,o,s⟩:=a
 obtain rfl:s=none:=h
 unfold Addr.add
 split
 ·rename_i e;subst e;rfl
 ·rfl
section
variable {H:Type} {enc:TypeId×Value→H} {W:World} {t e:TypeId} {r:Reach} {b0:Nat} {v:Value} {d:DataW H} {ps:List MemPlace}
end
end Go.Proofs.YtnpjncjnmpfgpaaGreatDoor
end
section
namespace Go.Proofs.YtnpjncjnmpfgpaaGreatDoor
open Go Go.Conc Go.Sim Go.Load Go.RowKit Go.ChangeShapes Go.WideShapes Go.ChangeAt
open Go.Proofs.Tryz
def AddrZ (W:World) (a:Option Addr) (l c:Nat):Prop:=∀x,a=some x→(l=0∧c=0)∨∃cs e f,W.heap[x.block]? = some (.cells cs e f)
theorem yS {W:World} {a:Addr} {v:Value} (h:W.cell? a=some v):a.spot=none∧∃cs e f,W.heap[a.block]? = some (.cells cs e f):=by
 unfold World.cell? at h
 split at h
 ·rename_i c e f hb
  split at h
  ·cases h
  ·rename_i hs
   exact ⟨by simpa using hs,_,_,_,hb⟩
 ·cases h
theorem add_zero' (a:Addr):a.add 0=a:=by unfold Addr.add;rfl
structure GrpRd (W:World) (g:Grp):Prop where
 traf:yR W g
 cap:g.traffic.length≤g.tc
 big:g.name.size≤maxLen∧g.tc≤maxLen
 ad:AddrZ W g.ta g.traffic.length g.tc
structure BookRd (W:World) (B:Bk):Prop where
 row:qcs W B
 cap:B.gs.length≤B.gc∧B.gc≤maxLen
 ad:AddrZ W B.ga B.gs.length B.gc
 gr:∀g∈B.gs,GrpRd W g
section
variable {H:Type} {enc:TypeId×Value→H} {W:World} {t e:TypeId} {fuel:Nat}
set_option maxRecDepth 100000 in
theorem qai {z:Value} {x:DataW H×List MemPlace} (h:DataW.trod enc Tryz.prog W 0 (fun _=>true) true fuel 54 [z]=some x) :
 ∃(l:List (Int×Int)) (a:Option Addr) (c:Nat),z=.slice a l.length c∧(1≤l.length→∃b o,a=some ⟨b,o,none⟩∧qL W b o l)∧l.length≤c∧c≤maxLen∧AddrZ W a l.length c:=by
 rcases Go.Deep.open_slice_pairs (f0:=(fld 23 0)) (f1:=(fld 23 1)) Tryz.underlying54 (by kernel_rfl) (by kernel_rfl) (by kernel_rfl) (by kernel_rfl) (by kernel_rfl) (by kernel_rfl) h with ⟨hc,_⟩ | ⟨a',len,cap,m,k,V0,V1,D0,D1,P0,P1,hc,_,hlc,hcm,hm,_,hx⟩
 ·simp only [List.cons.injEq,and_true] at hc
  subst hc
  exact ⟨[],none,0,rfl,fun h=>(by simp at h),Nat.le_refl _,Nat.zero_le _,fun x e=>(by cases e)⟩
 ·simp only [List.cons.injEq,and_true] at hc
  subst hc
  have hm':m=cap:=by simpa using hm
  have t0:(fld 23 0).type=3:=by kernel_rfl
  have t1:(fld 23 1).type=3:=by kernel_rfl
  have num:∀i,∃x:Int×Int,i < len→V0 i=.int .i64 x.1∧V1 i=.int .i64 x.2:=fun i=>by
   by_cases hi:i < len
   ·obtain ⟨_,_,q0,q1⟩:=hx i (by omega)
    rw [t0] at q0
    rw [t1] at q1
    obtain ⟨n0,e0,_⟩:=DataW.trod_int Tryz.underlying3 q0
    obtain ⟨n1,e1,_⟩:=DataW.trod_int Tryz.underlying3 q1
    simp only [List.cons.injEq,and_true] at e0 e1
    exact ⟨(n0,n1),fun _=>⟨e0,e1⟩⟩
   ·exact ⟨(0,0),fun h=>absurd h hi⟩
  obtain ⟨g,hg⟩:=Classical.axiomOfChoice num
  have hb:1≤cap→a'.spot=none∧∃cs e f,W.heap[a'.block]? = some (.cells cs e f):=fun h1=>by
   obtain ⟨q0,_⟩:=hx 0 (by omega)
   rw [Nat.zero_mul,add_zero'] at q0
   exact yS q0
  refine ⟨(List.range len).map g,some a',cap,by simp,fun h1=>?_,by simpa using hlc,hcm,fun x e=>?_⟩
  ·have h1':1≤len:=by simpa using h1
   have hs:=(hb (by omega)).1
   refine ⟨a'.block,a'.off,?_,fun i x hi=>?_⟩
   ·obtain ⟨b,o,s⟩:=a'
    obtain rfl:s=none:=hs
    rfl
   ·rw [List.getElem?_map,Option.map_eq_some_iff] at hi
    obtain ⟨j,hj,rfl⟩:=hi
    have hjn:i < len:=by have:=(List.getElem?_eq_some_iff.1 hj).1;simpa using this
    have hji:j=i:=by rw [List.getElem?_range hjn] at hj;exact (Option.some.inj hj).symm
    subst hji
    obtain ⟨q0,q1,_⟩:=hx j (by omega)
    rw [addr_add _ _ hs] at q0 q1
    rw [(hg j hjn).1] at q0
    rw [(hg j hjn).2] at q1
    exact ⟨q0,q1⟩
  ·cases e
   by_cases h1:1≤cap
   ·exact .inr (hb h1).2
   ·exact .inl ⟨by simp;omega,by omega⟩
set_option maxRecDepth 100000 in
theorem qde {cs:List Value} {x:DataW H×List MemPlace} (h:DataW.trod enc Tryz.prog W 0 (fun _=>true) true fuel 56 cs=some x) :
 ∃g:Grp,cs=[.string g.name,.int .i64 g.trunks,.slice g.ta g.traffic.length g.tc]∧GrpRd W g:=by
 obtain ⟨ys,m0,rfl,hy,hl0,hn0,hel0⟩:=DataW.trod_struct Tryz.underlying56 h
 have c3:Tryz.prog.cellsOf 56=3:=by kernel_rfl
 rw [c3] at hl0
 match cs,hl0 with
 | [z0,z1,z2],_ =>
   have j0:DataW.trod enc Tryz.prog W 0 (fun _=>true) true m0 9 (([z0,z1,z2].drop 0).take (Tryz.prog.cellsOf 9))=ys[0]? := hel0 0 _ rfl
   have j1:DataW.trod enc Tryz.prog W 0 (fun _=>true) true m0 3 (([z0,z1,z2].drop 1).take (Tryz.prog.cellsOf 3))=ys[1]? := hel0 1 _ rfl
   have j2:DataW.trod enc Tryz.prog W 0 (fun _=>true) true m0 54 (([z0,z1,z2].drop 2).take (Tryz.prog.cellsOf 54))=ys[2]? := hel0 2 _ rfl
   have cs1:Tryz.prog.cellsOf 9=1:=by kernel_rfl
   have cs2:Tryz.prog.cellsOf 54=1:=by kernel_rfl
   rw [cs1] at j0
   rw [cInt] at j1
   rw [cs2] at j2
   match ys,hn0 with
   | [y0,y1,y2],_ =>
     obtain ⟨s,a0,_,hs⟩:=DataW.trod_string Tryz.underlying9 (show DataW.trod enc Tryz.prog W 0 _ _ m0 9 [z0]=some y0 from j0)
     obtain ⟨n,a1,_⟩:=DataW.trod_int Tryz.underlying3 (show DataW.trod enc Tryz.prog W 0 _ _ m0 3 [z1]=some y1 from j1)
     obtain ⟨l,a,c,rfl,h1,h2,h3,h4⟩:=qai (show DataW.trod enc Tryz.prog W 0 _ _ m0 54 [z2]=some y2 from j2)
     simp only [List.cons.injEq,and_true] at a0 a1
     exact ⟨⟨s,n,l,a,c⟩,by rw [a0,a1],fun h=>h1 h,h2,⟨hs,h3⟩,h4⟩
set_option maxRecDepth 100000 in
theorem qbl {z:Value} {x:DataW H×List MemPlace} (h:DataW.trod enc Tryz.prog W 0 (fun _=>true) true fuel 24 [z]=some x) :
 ∃(l:List Grp) (a:Option Addr) (c:Nat),z=.slice a l.length c∧(1≤l.length→∃b o,a=some ⟨b,o,none⟩∧zG W b o l)∧l.length≤c∧c≤maxLen∧AddrZ W a l.length c∧∀g∈l,GrpRd W g:=by
 rcases Go.Deep.open_slice Tryz.underlying24 h with ⟨hc,_⟩ | ⟨a',len,cap,m,k,D,P,hc,_,hlc,hcm,hm,_,hx⟩
 ·simp only [List.cons.injEq,and_true] at hc
  subst hc
  exact ⟨[],none,0,rfl,fun h=>(by simp at h),Nat.le_refl _,Nat.zero_le _,fun x e=>(by cases e),fun g hg=>(by cases hg)⟩
 ·simp only [List.cons.injEq,and_true] at hc
  subst hc
  have hm':m=cap:=by simpa using hm
  have c3:Tryz.prog.cellsOf 56=3:=by kernel_rfl
  rw [c3] at hx
  have one:∀i,∃g:Grp,i < cap→W.cell? (a'.add (i * 3))=some (.string g.name)∧W.cell? (a'.add (i * 3+1))=some (.int .i64 g.trunks)∧W.cell? (a'.add (i * 3+2))=some (.slice g.ta g.traffic.length g.tc)∧GrpRd W g:=fun i=>by
   by_cases hi:i < cap
   ·obtain ⟨cs,q1,q2⟩:=hx i (by omega)
    obtain ⟨g,rfl,hg⟩:=qde q2
    obtain ⟨_,_,q3⟩:=World.cells?_some q1
    refine ⟨g,fun _=>⟨?_,?_,?_,hg⟩⟩
    ·have:=q3 0 (by decide);rwa [add_zero'] at this
    ·have:=q3 1 (by decide);rwa [Go.Deep.add_add] at this
    ·have:=q3 2 (by decide);rwa [Go.Deep.add_add] at this
   ·exact ⟨⟨⟨#[]⟩,0,[],none,0⟩,fun h=>absurd h hi⟩
  obtain ⟨g,hg⟩:=Classical.axiomOfChoice one
  have hb:1≤cap→a'.spot=none∧∃cs e f,W.heap[a'.block]? = some (.cells cs e f):=fun h1=>by
   obtain ⟨q0,_⟩:=hg 0 (by omega)
   rw [Nat.zero_mul,add_zero'] at q0
   exact yS q0
  refine ⟨(List.range len).map g,some a',cap,by simp,fun h1=>?_,by simpa using hlc,hcm,fun x e=>?_,fun y hy=>?_⟩
  ·have h1':1≤len:=by simpa using h1
   have hs:=(hb (by omega)).1
   refine ⟨a'.block,a'.off,?_,fun i x hi=>?_⟩
   ·obtain ⟨b,o,s⟩:=a'
    obtain rfl:s=none:=hs
    rfl
   ·rw [List.getElem?_map,Option.map_eq_some_iff] at hi
    obtain ⟨j,hj,rfl⟩:=hi
    have hjn:i < len:=by have:=(List.getElem?_eq_some_iff.1 hj).1;simpa using this
    have hji:j=i:=by rw [List.getElem?_range hjn] at hj;exact (Option.some.inj hj).symm
    subst hji
    obtain ⟨q0,q1,q2,_⟩:=hg j (by omega)
    rw [addr_add _ _ hs] at q0 q1 q2
    exact ⟨q0,q1,q2⟩
  ·cases e
   by_cases h1:1≤cap
   ·exact .inr (hb h1).2
   ·exact .inl ⟨by simp;omega,by omega⟩
  ·obtain ⟨j,hj,rfl⟩:=List.mem_map.1 hy
   have hj:=List.mem_range.1 hj
   exact (hg j (by omega)).2.2.2
set_option maxRecDepth 100000 in
theorem qfo {r:Reach} {b0:Nat} {v:Value} {d:DataW H} {ps:List MemPlace} (hv:Value.okWide Tryz.prog W r b0 26 v) (h:DataW.Trod enc Tryz.prog W 0 (fun _=>true) true 26 v d ps):∃B:Bk,v=bv B∧BookRd W B:=by
 obtain ⟨cs,rfl,hcs⟩:=okWide_struct Tryz.underlying26 hv
 obtain ⟨fuel,h⟩:=h
 obtain ⟨ys,m0,rfl,hy,hl0,hn0,hel0⟩:=DataW.trod_struct Tryz.underlying26 h
 have c5:Tryz.prog.cellsOf 26=5:=by kernel_rfl
 rw [c5] at hcs
 obtain ⟨l⟩:=cs
 match l,hcs with
 | [z0,z1,z2,z3,z4],_ =>
   have j0:DataW.trod enc Tryz.prog W 0 (fun _=>true) true m0 23 (([z0,z1,z2,z3,z4].drop 0).take (Tryz.prog.cellsOf 23))=ys[0]? := hel0 0 _ rfl
   have j1:DataW.trod enc Tryz.prog W 0 (fun _=>true) true m0 3 (([z0,z1,z2,z3,z4].drop 2).take (Tryz.prog.cellsOf 3))=ys[1]? := hel0 1 _ rfl
   have j2:DataW.trod enc Tryz.prog W 0 (fun _=>true) true m0 3 (([z0,z1,z2,z3,z4].drop 3).take (Tryz.prog.cellsOf 3))=ys[2]? := hel0 2 _ rfl
   have j3:DataW.trod enc Tryz.prog W 0 (fun _=>true) true m0 24 (([z0,z1,z2,z3,z4].drop 4).take (Tryz.prog.cellsOf 24))=ys[3]? := hel0 3 _ rfl
   rw [show Tryz.prog.cellsOf 23=2 by kernel_rfl] at j0
   rw [cInt] at j1 j2
   rw [show Tryz.prog.cellsOf 24=1 by kernel_rfl] at j3
   match ys,hn0 with
   | [y0,y1,y2,y3],_ =>
     obtain ⟨us,m1,rfl,_,_,hn1,hel1⟩:=DataW.trod_struct Tryz.underlying23 (show DataW.trod enc Tryz.prog W 0 _ _ m0 23 [z0,z1]=some y0 from j0)
     have k0:DataW.trod enc Tryz.prog W 0 (fun _=>true) true m1 3 (([z0,z1].drop 0).take (Tryz.prog.cellsOf 3))=us[0]? := hel1 0 _ rfl
     have k1:DataW.trod enc Tryz.prog W 0 (fun _=>true) true m1 3 (([z0,z1].drop 1).take (Tryz.prog.cellsOf 3))=us[1]? := hel1 1 _ rfl
     rw [cInt] at k0 k1
     match us,hn1 with
     | [u0,u1],_ =>
       obtain ⟨n0,a0,_⟩:=DataW.trod_int Tryz.underlying3 (show DataW.trod enc Tryz.prog W 0 _ _ m1 3 [z0]=some u0 from k0)
       obtain ⟨n1,a1,_⟩:=DataW.trod_int Tryz.underlying3 (show DataW.trod enc Tryz.prog W 0 _ _ m1 3 [z1]=some u1 from k1)
       obtain ⟨n2,a2,_⟩:=DataW.trod_int Tryz.underlying3 (show DataW.trod enc Tryz.prog W 0 _ _ (m1+1) 3 [z2]=some y1 from j1)
       obtain ⟨n3,a3,_⟩:=DataW.trod_int Tryz.underlying3 (show DataW.trod enc Tryz.prog W 0 _ _ (m1+1) 3 [z3]=some y2 from j2)
       obtain ⟨l,a,c,rfl,h1,h2,h3,h4,h5⟩:=qbl (show DataW.trod enc Tryz.prog W 0 _ _ (m1+1) 24 [z4]=some y3 from j3)
       simp only [List.cons.injEq,and_true] at a0 a1 a2 a3
       subst a0 a1 a2 a3
       exact ⟨⟨(n0,n1),n2,n3,l,a,c⟩,rfl,fun h=>h1 h,⟨h2,h3⟩,h4,h5⟩
end
end Go.Proofs.YtnpjncjnmpfgpaaGreatDoor
end
section
namespace Go.Proofs.YtnpjncjnmpfgpaaGreatDoor
open Go Go.Conc Go.Sim Go.Load Go.RowKit Go.ChangeShapes Go.WideShapes Go.ChangeAt
open Go.Proofs.Tryz
section
variable {H:Type} {enc:TypeId×Value→H} {W:World} {t:TypeId} {r:Reach} {b0:Nat} {v:Value} {d:DataW H} {ps:List MemPlace}
end
end Go.Proofs.YtnpjncjnmpfgpaaGreatDoor
end
section
namespace Go.Proofs.YtnpjncjnmpfgpaaGreatDoor
open Go Go.Conc Go.Sim Go.Load Go.RowKit Go.ChangeShapes Go.WideShapes Go.ChangeAt
open Go.Proofs.Tryz
def BkX (W:World) (B:Bk) (b:Nat):Prop:=(∃cs e f,W.heap[b]? = some (.cells cs e f))∧((∃a,B.ga=some a∧a.block=b)∨∃g∈B.gs,∃a,g.ta=some a∧a.block=b)
structure BookIn (w:World) (B:Bk):Prop where
 row:qcs w B
 traf:∀g∈B.gs,yR w g
theorem BookIn.keep {w w1:World} {B:Bk} (h:BookIn w B) (hB:Below w.heap.size w w1):BookIn w1 B:=⟨h.row.keep hB,fun g hg=>(h.traf g hg).keep hB⟩
theorem BookIn.at {w:World} {B:Bk} (h:BookIn w B) (hs:B.gs.length≤20∧∀g∈B.gs,g.traffic.length≤20∧g.name.size≤100) (hc:B.gs.length≤B.gc):BookAt w B:=⟨h.row,h.traf,hs,hc⟩
theorem vr_book {W:World} {B:Bk} (h:BookRd W B) {X:Nat→Prop} {C:FuncId→Prop} {R:Nat→Nat→Prop} (hX:∀b,BkX W B b→X b) (hR:∀b,X b→R b b):VR C R (bv B) (bv B):=by
 refine .agg rfl fun i x x' hx hx'=>?_
 rw [hx] at hx'
 cases hx'
 have hi:=(Array.getElem?_eq_some_iff.1 hx).1
 rcases (show i=0∨i=1∨i=2∨i=3∨i=4 by simp at hi;omega) with rfl | rfl | rfl | rfl | rfl
 ·cases hx;exact .int _ _
 ·cases hx;exact .int _ _
 ·cases hx;exact .int _ _
 ·cases hx;exact .int _ _
 ·have e:x=.slice B.ga B.gs.length B.gc:=by cases hx;rfl
  rw [e]
  have had:=h.ad
  cases ha:B.ga with
  | none=>exact .snil _ _
  | some a =>
    rcases had a ha with ⟨h1,h2⟩ | h1
    ·rw [h1,h2];exact .zcap a
    ·exact .slice _ _ ⟨hR _ (hX _ ⟨h1,.inl ⟨a,ha,rfl⟩⟩),rfl,rfl⟩
theorem book_in {W w:World} {B:Bk} (h:BookRd W B) {X:Nat→Prop} (hX:∀b,BkX W B b→X b) (hk:∀b o v,X b→W.cell? ⟨b,o,none⟩=some v→PlainX X v→w.cell? ⟨b,o,none⟩=some v):BookIn w B:=by
 refine ⟨fun hl=>?_,fun g hg hl=>?_⟩
 ·obtain ⟨b,o,e,hc⟩:=h.row hl
  have hxb:∀i (g:Grp),B.gs[i]? = some g→X b:=fun i g hg=>hX b ⟨(yS (hc i g hg).1).2,.inl ⟨_,e,rfl⟩⟩
  refine ⟨b,o,e,fun i g hg=>⟨hk _ _ _ (hxb i g hg) (hc i g hg).1 (.str _),hk _ _ _ (hxb i g hg) (hc i g hg).2.1 (.int _ _),hk _ _ _ (hxb i g hg) (hc i g hg).2.2 ?_⟩⟩
  have hm:=List.mem_of_getElem? hg
  have had:=(h.gr g hm).ad
  cases ha:g.ta with
  | none=>exact .snil _ _
  | some a =>
    rcases had a ha with ⟨h1,h2⟩ | h1
    ·rw [h1,h2];exact .zcap a
    ·exact .slice a _ _ (hX _ ⟨h1,.inr ⟨g,hm,a,ha,rfl⟩⟩)
 ·obtain ⟨b,o,e,hp⟩:=(h.gr g hg).traf hl
  refine ⟨b,o,e,fun i x hx=>?_⟩
  have hxb:X b:=hX b ⟨(yS (hp i x hx).1).2,.inr ⟨g,hg,_,e,rfl⟩⟩
  exact ⟨hk _ _ _ hxb (hp i x hx).1 (.int _ _),hk _ _ _ hxb (hp i x hx).2 (.int _ _)⟩
end Go.Proofs.YtnpjncjnmpfgpaaGreatDoor
end
section
namespace Go.Proofs.Tryz
open Go Go.Sim Go.Load Go.RowKit
open Go.Proofs.YtnpjncjnmpfgpaaGreatDoor (BookIn)
def modest (B:Bk):Bool:=decide (B.gs.length≤20) && B.gs.all fun g=>decide (g.name.size≤100) && decide (g.traffic.length≤20)
theorem Zk {B:Bk} (h:modest B=true):B.gs.length≤20∧∀g∈B.gs,g.traffic.length≤20∧g.name.size≤100:=by
 unfold modest at h
 simp only [Bool.and_eq_true,decide_eq_true_eq,List.all_eq_true] at h
 exact ⟨h.1,fun g hg=>⟨(h.2 g hg).2,(h.2 g hg).1⟩⟩
set_option maxHeartbeats 2000000 in
set_option maxRecDepth 100000 in
theorem Ju (B:Bk) (w:World) (h:BookIn w B):Calls qf 6 #[bv B] w fun e w'=>e=.returned (.bool (!modest B))∧Below w.heap.size w w':=by
 obtain ⟨R,hR⟩:∃R,modest B=R:=⟨_,rfl⟩
 rw [hR]
 have hrow:=h.row
 clear h
 obtain ⟨lim,gr,hr,gs,ga,gc⟩:=B
 simp only [bv]
 simp only [modest] at hR
 by_cases hlen:gs.length≤20
 ·rw [decide_eq_true hlen,Bool.true_and] at hR
  by_cases h0:1≤gs.length
  ·obtain ⟨b,o,hga,hcs⟩:=hrow h0
   simp only at hga hcs
   subst hga
   have HG:Hid ((∀(j:Nat) (g:Grp),gs[j]? = some g→g.name.size≤100∧g.traffic.length≤20)→R=true):=Lib.hid fun h=>by
    rw [← hR,List.all_eq_true]
    intro x hx
    obtain ⟨j,hj,rfl⟩:=List.getElem_of_mem hx
    have:=h j gs[j] (by simp [hj])
    simp [this.1,this.2]
   have HB:Hid (∀(j:Nat) (g:Grp),gs[j]? = some g→¬ (g.name.size≤100∧g.traffic.length≤20)→R=false):=Lib.hid fun j g hg h=>by
    rw [← hR,List.all_eq_false]
    refine ⟨g,List.mem_of_getElem? hg,fun e=>h ?_⟩
    simpa using e
   have HC:=Lib.hid hcs
   clear hcs hrow hR
   go_enter s6,ntmps6
   go_wp2
   obtain ⟨W,hW⟩:∃W,w.alloc (Obj.cells #[.int .i64 lim.1,.int .i64 lim.2,.int .i64 gr,.int .i64 hr,.slice (some ⟨b,o,none⟩) gs.length gc] 26)=W:=⟨_,rfl⟩
   have k4:W.cell? ⟨w.heap.size,4,none⟩=some (.slice (some ⟨b,o,none⟩) gs.length gc):=by subst hW;go_cell
   have hBW:Below w.heap.size w W:=by subst hW;go_grown
   rw [hW]
   clear hW
   go_loop [3] (fun i=>∃k:Nat,i=.int .i64 k∧k≤gs.length∧Hid (∀(j:Nat) (g:Grp),j < k→gs[j]? = some g→g.name.size≤100∧g.traffic.length≤20)) (fun i=>gs.length - (intOf i).toNat)
   case atStart=>exact ⟨0,rfl,Nat.zero_le _,Lib.hid fun j x hj=>absurd hj (Nat.not_lt_zero _)⟩
   case round =>
    obtain ⟨k,rfl,hk,HK⟩:=hrel
    by_cases hlt:k < gs.length
    ·obtain ⟨g,hg⟩:∃g,gs[k]? = some g:=⟨gs[k],by simp [hlt]⟩
     obtain ⟨c0,c1,c2⟩:=HC.out k g hg
     have c0:=qb _ hBW c0
     have c2:=qb _ hBW c2
     have hBk:=HB.out k g hg
     have HN:(g.name.size≤100∧g.traffic.length≤20)→Hid (∀(j:Nat) (y:Grp),j < k+1→gs[j]? = some y→y.name.size≤100∧y.traffic.length≤20):=fun hh=>Lib.hid fun j y hj hy=>by
      rcases Nat.lt_succ_iff_lt_or_eq.1 hj with h1 | rfl
      ·exact HK.out j y h1 hy
      ·rw [hg] at hy
       cases hy
       exact hh
     clear hg
     by_cases h1:g.name.size≤100
     ·by_cases h2:g.traffic.length≤20
      ·have HN:=HN ⟨h1,h2⟩
       clear hBk
       go_wp2
       go_round
       case rel=>exact ⟨k+1,by go_num,by omega,HN⟩
       case measure=>simp [intOf];omega
      ·have hb:=hBk fun h=>h2 h.2
       subst hb
       clear hBk HN
       go_wp2
       go_ret
       exact ⟨rfl,hBW⟩
     ·have hb:=hBk fun h=>h1 h.1
      subst hb
      clear hBk HN
      go_wp2
      go_ret
      exact ⟨rfl,hBW⟩
    ·obtain rfl:k=gs.length:=by omega
     have hb:R=true:=HG.out fun j g hg=>HK.out j g (List.getElem?_eq_some_iff.1 hg).1 hg
     subst hb
     go_wp2
     go_ret
     exact ⟨rfl,hBW⟩
  ·obtain rfl:gs=[]:=List.length_eq_zero_iff.1 (by omega)
   have hb:R=true:=by rw [← hR];rfl
   subst hb
   clear hrow hR
   go_enter s6,ntmps6
   go_wp2
   refine wp_loop_rounds 1 ?_
   rw [rounds_succ]
   go_wp2
   go_ret
   exact ⟨rfl,by go_grown⟩
 ·have hb:R=false:=by rw [← hR,decide_eq_false hlen,Bool.false_and]
  subst hb
  clear hrow hR
  go_enter s6,ntmps6
  go_wp2
  go_ret
  exact ⟨rfl,by go_grown⟩
end Go.Proofs.Tryz
end
namespace Go.Proofs.Tryz
open Go Go.Sim Go.Load Go.RowKit
theorem Zt:qf.funcs[15]? = some YT:=by kernel_rfl
theorem qan:YT.ntmps=48:=rfl
@[go_sem] theorem src_needsC (args:Array Value) (w:World):(callFunc 15 args).run qf w=.ok (.enter 15 args) w:=qh Zt (by kernel_rfl) (by kernel_rfl) args w
section
variable {w:World} {a b c d e:Value}
theorem yF {S T:TypeId} {fs:Array Field} {fd:Field} {k:Nat} {cs:Array Value} {z:Value} (hu:qf.underlying S=some (.struct fs)) (hf:fs[k]? = some fd) (ht:fd.type=T) (ha:(isAgg T).run qf w=.ok false w) (hz:cs[fd.offset]? = some z):(Instr.field S (.agg cs) k).run qf w=.ok z w:=by
 simp only [Instr.field,Sem.run_bind,run_underlying hu,Result.andThen_ok,hf,asAgg,Sem.run_pure,part,ht,ha,Bool.false_eq_true,if_false,hz]
@[go_sem] theorem fld_bk1:(Instr.field 26 (.agg #[a,b,c,d,e]) 1).run qf w=.ok c w:=yF ZG bk1 (T:=3) (by kernel_rfl) jq (by rw [show (fld 26 1).offset=2 by kernel_rfl];rfl)
@[go_sem] theorem fld_bk2:(Instr.field 26 (.agg #[a,b,c,d,e]) 2).run qf w=.ok d w:=yF ZG bk2 (T:=3) (by kernel_rfl) jq (by rw [show (fld 26 2).offset=3 by kernel_rfl];rfl)
@[go_sem] theorem fld_bk3:(Instr.field 26 (.agg #[a,b,c,d,e]) 3).run qf w=.ok e w:=yF ZG bk3 (T:=24) (by kernel_rfl) ag_grs (by rw [show (fld 26 3).offset=4 by kernel_rfl];rfl)
@[go_sem] theorem fld_bk0:(Instr.field 26 (.agg #[a,b,c,d,e]) 0).run qf w=.ok (.agg #[a,b]) w:=by
  simp only [Instr.field,Sem.run_bind,run_underlying ZG,Result.andThen_ok,bk0,asAgg,Sem.run_pure,part,show (fld 26 0).type=23 by kernel_rfl,show (fld 26 0).offset=0 by kernel_rfl,ag_fr,if_true,qdm]
  rfl
@[go_sem] theorem fld_gr0:(Instr.field 56 (.agg #[a,b,c]) 0).run qf w=.ok a w:=yF XD gr0 (T:=9) (by kernel_rfl) ag_str (by rw [show (fld 56 0).offset=0 by kernel_rfl];rfl)
@[go_sem] theorem fld_gr1:(Instr.field 56 (.agg #[a,b,c]) 1).run qf w=.ok b w:=yF XD gr1 (T:=3) (by kernel_rfl) jq (by rw [show (fld 56 1).offset=1 by kernel_rfl];rfl)
@[go_sem] theorem fld_gr2:(Instr.field 56 (.agg #[a,b,c]) 2).run qf w=.ok c w:=yF XD gr2 (T:=54) (by kernel_rfl) ag_frs (by rw [show (fld 56 2).offset=2 by kernel_rfl];rfl)
@[go_sem] theorem fld_fr0:(Instr.field 23 (.agg #[a,b]) 0).run qf w=.ok a w:=yF XC fr0 (T:=3) (by kernel_rfl) jq (by rw [show (fld 23 0).offset=0 by kernel_rfl];rfl)
@[go_sem] theorem fld_fr1:(Instr.field 23 (.agg #[a,b]) 1).run qf w=.ok b w:=yF XC fr1 (T:=3) (by kernel_rfl) jq (by rw [show (fld 23 1).offset=1 by kernel_rfl];rfl)
end
theorem qeD {w:World} {n:Nat} (hn:n≤1000):(Instr.makeSlice 33 (.int .i64 n) (.int .i64 n)).run qf w=.ok (.slice (some ⟨w.heap.size,0,none⟩) n n) (w.alloc (.cells (madeCells #[.int .i64 0] n) 3)):=by
 have hi:qf.info? 3=some ((Tryz.prog.info? 3).getD default):=by rw [yE];kernel_rfl
 have hs:((Tryz.prog.info? 3).getD default).size=1:=by kernel_rfl
 have hby:((Tryz.prog.info? 3).getD default).bytes=8:=by kernel_rfl
 have hz:((Tryz.prog.info? 3).getD default).zero=some (.int .i64 0):=by kernel_rfl
 generalize (Tryz.prog.info? 3).getD default=inf at hi hs hby hz
 have hr:=run_makeSlice (P:=qf) w 33 3 inf (.int .i64 0) (by rw [qY];exact Tryz.underlying33) hi hz .i64 .i64 (n:Int) n (by omega) (by omega) (by rw [hs];omega) (by rw [hby];omega) (by omega)
 rw [hs] at hr
 simpa [Value.cells] using hr
def RowI (W:World) (s n:Nat) (L:List Int) (k:Nat):Prop:=∀i,i < n→∃x,W.cell? ⟨s,i,none⟩=some (.int .i64 x)∧W.frozen? ⟨s,i,none⟩=false∧(i < k→L[i]? = some x)
theorem RowI.keep {W w1:World} {s n k:Nat} {L:List Int} (h:RowI W s n L k) (hB:Below W.heap.size W w1):RowI w1 s n L k:=fun i hi =>
 let ⟨x,a,b,c⟩:=h i hi
 ⟨x,qb _ hB a,qg _ hB a b,c⟩
theorem RowI.set {W:World} {s n k:Nat} {L:List Int} {y:Int} (h:RowI W s n L k) (hk:k < n) (hy:L[k]? = some y):RowI (W.setCell ⟨s,k,none⟩ (.int .i64 y)) s n L (k+1):=fun i hi=>by
 obtain ⟨x,a,b,c⟩:=h i hi
 by_cases e:i=k
 ·subst e;exact ⟨y,ze (qA a),by simpa using b,fun _=>hy⟩
 ·exact ⟨x,qd (by simp <;> omega) a,by simpa using b,fun h=>c (by omega)⟩
def qce (B:Bk):List Int:=B.gs.map (yP B)
set_option maxHeartbeats 4000000 in
set_option maxRecDepth 100000 in
theorem qbH (B:Bk) (w:World) (h:BookAt w B) (hG:Globs w) (hl:1≤B.gs.length) (ht:∀g∈B.gs,1≤g.traffic.length) (hcp:∀g∈B.gs,g.traffic.length≤g.tc) (hz:checkN B=0):Calls qf 15 #[bv B] w fun e w'=>∃v,e=.returned (.tuple #[v,.int .i64 0])∧yl w' v (qce B)∧Below w.heap.size w w':=by
 have hop:=fun W (hB:Below w.heap.size w W)=>yw B true W (h.keep hB) (hG.keep hB)
 unfold Zm at hop
 simp only [if_pos hz,if_true] at hop
 have hV:=qI hz
 have hne:=fun (W:World) (hB:Below w.heap.size w W) (i:Nat) (g:Grp) (hg:B.gs[i]? = some g)=>YE B i g hg W ⟨h.keep hB,hV.num.1⟩ (hV.grp g (List.mem_of_getElem? hg)).traf
 obtain ⟨b,o,hga,hcs⟩:=h.row hl
 have htr:=Lib.hid fun g (hg:g∈B.gs)=>h.traf g hg (ht g hg)
 have hsm:=Lib.hid h.small.2
 have hl4:=hV.len4
 have hcap:=h.cap
 have HT:=Lib.hid ht
 have HCP:=Lib.hid hcp
 have HO:=Lib.hid hop
 have HN:=Lib.hid hne
 obtain ⟨L,hL⟩:∃L,L=qce B:=⟨_,rfl⟩
 have HL:Hid (L.length=B.gs.length∧∀(i:Nat) (g:Grp),B.gs[i]? = some g→L[i]? = some (yP B g)):=Lib.hid ⟨by rw [hL];simp [qce],fun i g hg=>by rw [hL];show (B.gs.map (yP B))[i]? = some (yP B g);rw [List.getElem?_map,hg];rfl⟩
 obtain ⟨nN,hnN⟩:∃nN,nN=yP B:=⟨_,rfl⟩
 rw [← hL]
 simp only [← hnN] at HN HL
 clear hop hne hV hz ht hcp hL hnN h hG
 obtain ⟨lim,gr,hr,gs,ga,gc⟩:=B
 simp only at hga hcs hl4 hl hcap
 subst hga
 simp only [bv] at *
 have HC:=Lib.hid hcs
 clear hcs
 obtain ⟨s21,h21⟩:∃s:ByteArray,s=⟨Array.replicate 21 0⟩:=⟨_,rfl⟩
 obtain ⟨s101,h101⟩:∃s:ByteArray,s=⟨Array.replicate 101 0⟩:=⟨_,rfl⟩
 have z21:s21.size=21:=by rw [h21];rfl
 have z101:s101.size=101:=by rw [h101];rfl
 go_enter Zt,qan
 simp only [jS,sB0,sB1,sB2,sB3,sL0,sL1,sL2,sO0,sSh,sOc,sOl,sO2,sO3,sO4,sO5,sO6,sO7,sO8,sO9,sO11,sO12,sO13,op2,Jf,qfX,str21,str101,str1,str0,← h21,← h101]
 clear h21 h101
 go_wp2_with (go_at_call 42;refine (HO.out _ (by go_grown)).mono ?_;rintro e w1 ⟨rfl,hB1⟩;have hBw:Below w.heap.size w w1:=bcl (w:=w) (by go_grown) hB1)
 obtain ⟨W,hW⟩:∃W,w1.alloc (Obj.cells #[.int .i64 lim.1,.int .i64 lim.2,.int .i64 gr,.int .i64 hr,.slice (some ⟨b,o,none⟩) gs.length gc] 26)=W:=⟨_,rfl⟩
 have hBW:Below w.heap.size w W:=by subst hW;exact hBw.alloc hBw.size _
 rw [hW]
 clear hW hB1 hBw
 go_loopw [7] (fun i wr=>W=wr∧∃k:Nat,i=.int .i64 k∧k≤gs.length) (fun i _=>gs.length - (intOf i).toNat)
 case atStart=>exact ⟨rfl,0,rfl,by omega⟩
 case round =>
  obtain ⟨hwr,k,rfl,hk⟩:=hrel
  subst hwr
  by_cases hlt:k < gs.length
  ·obtain ⟨g,hg⟩:∃g,gs[k]? = some g:=⟨gs[k],by simp [hlt]⟩
   have hm:=List.mem_of_getElem? hg
   obtain ⟨c0,c1,c2⟩:=HC.out k g hg
   replace c0:=qb _ hBW c0
   replace c1:=qb _ hBW c1
   replace c2:=qb _ hBW c2
   obtain ⟨tb,tof,hta,hp⟩:=htr.out g hm
   have ht1:=HT.out g hm
   have htc:=HCP.out g hm
   obtain ⟨ht2,hn2⟩:=hsm.out g hm
   have HP:=Lib.hid hp
   clear hp
   rw [hta] at c2
   go_wp2
   all_goals try (exfalso;omega)
   go_loopw [28] (fun j wr=>W=wr∧∃m:Nat,j=.int .i64 m∧m≤g.traffic.length) (fun j _=>g.traffic.length - (intOf j).toNat)
   case atStart=>exact ⟨rfl,0,rfl,by omega⟩
   case round =>
    obtain ⟨hwr,m,rfl,hmle⟩:=hrel
    subst hwr
    by_cases hlt2:m < g.traffic.length
    ·obtain ⟨x,hx⟩:∃x,g.traffic[m]? = some x:=⟨g.traffic[m],by simp [hlt2]⟩
     obtain ⟨p0,p1⟩:=HP.out m x hx
     replace p0:=qb _ hBW p0
     replace p1:=qb _ hBW p1
     go_wp2
     exact ⟨⟨trivial,m+1,by simp,by omega⟩,by simp [intOf];omega⟩
    ·go_wp2
     exact ⟨⟨trivial,k+1,by simp,by omega⟩,by simp [intOf];omega⟩
  ·go_wp2_with (go_at_call 42;refine (HO.out _ (by go_grown)).mono ?_;rintro e w1 ⟨rfl,hB1⟩;(first | (replace hB:=bcl (by with_reducible assumption) hB1) | (replace hB:=bcl (by go_grown) hB1) | (have hB:=hB1));(try clear hc hg hz);obtain ⟨hc,hg⟩:=qx hB;have hz:=hB.size;clear hB1;(try simp at hz);(try have hlt0:w.heap.size < w1.heap.size:=by omega))
   rw [qeD (by omega)]
   go_wp2
   obtain ⟨X,hX⟩:∃X,w1.alloc (.cells (madeCells #[.int .i64 0] gs.length) 3)=X:=⟨_,rfl⟩
   have hBX:Below w.heap.size w X:=by subst hX;go_grown
   have hsX:X.heap.size=w1.heap.size+1:=by subst hX;simp
   have hRX:RowI X w1.heap.size gs.length L 0:=by
    subst hX
    intro i hi
    have hg0:(madeCells #[.int .i64 0] gs.length)[i]? = some (.int .i64 0):=by simp [madeCells,hi,Nat.mod_one]
    have hb:(w1.alloc (.cells (madeCells #[.int .i64 0] gs.length) 3)).heap[w1.heap.size]? = some (.cells (madeCells #[.int .i64 0] gs.length) 3):=by show (w1.heap.push _)[w1.heap.size]? = _;simp
    exact ⟨0,by unfold World.cell?;rw [hb];exact hg0,by unfold World.frozen?;rw [hb];simp,fun h=>absurd h (Nat.not_lt_zero _)⟩
   rw [hX]
   obtain ⟨s,hs⟩:∃s,w1.heap.size=s:=⟨_,rfl⟩
   have hws:w.heap.size≤s:=by omega
   rw [hs] at hRX ⊢
   have hsX':s < X.heap.size:=by omega
   clear hX hsX
   go_loopw [7] (fun j wr=>∃m:Nat,j=.int .i64 m∧m≤gs.length∧RowI wr s gs.length L m∧Below w.heap.size w wr∧s < wr.heap.size) (fun j _=>gs.length - (intOf j).toNat)
   case atStart=>exact ⟨0,rfl,by omega,hRX,hBX,hsX'⟩
   case round =>
    obtain ⟨m,rfl,hm,hR,hBr,hsr⟩:=hrel
    by_cases hlt3:m < gs.length
    ·obtain ⟨g,hg⟩:∃g,gs[m]? = some g:=⟨gs[m],by simp [hlt3]⟩
     have hne:=fun W hB=>HN.out W hB m g hg
     have hLm:=HL.out.2 m g hg
     go_wp2_with (go_at_call 62;refine (hne _ (by go_grown)).mono ?_;rintro e w2 ⟨rfl,hB2⟩;have hR2:=hR.keep hB2;obtain ⟨x2,kx,fx,_⟩:=hR2 m hlt3;have hz2:=hB2.size)
     refine ⟨⟨m+1,by simp,by omega,hR2.set hlt3 hLm,Below.setCell (bcl hBr hB2) hws _,by simp;omega⟩,by simp [intOf];omega⟩
    ·go_wp2
     refine bodyPost_ret (results_tmp2 (show YT.results=#[.tmp 2,.tmp 3] by kernel_rfl) _ _ _) rfl ?_
     obtain rfl:m=gs.length:=by omega
     refine ⟨_,rfl,⟨some ⟨s,0,none⟩,gs.length,?_,fun _=>⟨s,rfl,fun i x hx=>?_⟩⟩,hBr⟩
     ·rw [HL.out.1];rfl
     ·have hi:i < gs.length:=by rw [← HL.out.1];exact (List.getElem?_eq_some_iff.1 hx).1
      obtain ⟨y,a1,_,a3⟩:=hR i hi
      rw [a3 hi] at hx
      cases hx;exact a1
end Go.Proofs.Tryz
namespace Go.Proofs.Tryz
open Go Go.Load Go.RowKit
theorem qeB {q l:Int×Int} (h2:0 < l.2):above (low l.1 l.2) q=above l q:=by
 have hg:=XU (a:=l.1) h2
 have d1:(Int.gcd l.1 l.2:Int) * (l.1 / (Int.gcd l.1 l.2:Int))=l.1:=Int.mul_ediv_cancel' (Int.gcd_dvd_left ..)
 have d2:(Int.gcd l.1 l.2:Int) * (l.2 / (Int.gcd l.1 l.2:Int))=l.2:=Int.mul_ediv_cancel' (Int.gcd_dvd_right ..)
 unfold above low lowT lowB
 simp only
 generalize (Int.gcd l.1 l.2:Int)=g at *
 generalize l.1 / g=a at *
 generalize l.2 / g=b at *
 refine decide_eq_decide.2 ?_
 rw [← d1,← d2,Int.mul_assoc,Int.mul_left_comm q.1]
 exact ⟨fun h=>Int.mul_lt_mul_of_pos_left h hg,fun h=>Int.lt_of_mul_lt_mul_left h (Int.le_of_lt hg)⟩
theorem qdG {x y:Int×Int} (hx:0 < x.2) (hy:0 < y.2):Ye x y=above x y:=by
 unfold Ye
 rw [Jy hy,qeB hx]
section
variable {W X Y:World} {a1 a2 a3 a4 a5 a6:Addr} {v1 v2 v3 v4 v5 v6:Value}
end
theorem zI.symm {a b:List Grp} (h:zI a b):zI b a:=⟨h.1.symm,fun i x y hx hy=>let ⟨p,q,r⟩:=h.2 i y x hy hx;⟨p.symm,q.symm,r.symm⟩⟩
structure OB (W:World) (q:Nat) (L:List Grp) (g gc:Nat) (l:List Grp) (tb:Nat→Nat):Prop where
 same:zI L l
 own:OwnGs 0 W g l l.length tb
 cap:l.length≤gc
 ng:q≠g
 nt:∀(i:Nat) y,i < l.length→l[i]? = some y→q≠tb i
section
variable {W W1:World} {q g gc:Nat} {L l:List Grp} {tb:Nat→Nat}
end
structure SprI (B:Bk) (h:Nat) (s:List Grp):Prop where
 chk:checkN { B with gs:=s }=0
 len:s.length=B.gs.length
 get:∀(i:Nat) g,s[i]? = some g→∃x,B.gs[i]? = some x∧g.name=x.name∧g.traffic=x.traffic∧x.trunks≤g.trunks
 best:∀(i k:Nat) g x g',s[i]? = some g→B.gs[i]? = some x→g.trunks≠x.trunks→k≠i→s[k]? = some g'→g'.trunks≠7→above (zV g' h) (zV { g with trunks:=g.trunks - 1 } h)=false
def askN (B:Bk) (n m:Int):Int:=if checkN B=0 then (if btw n 0 (m - 1) then 0 else 6) else checkN B
set_option maxHeartbeats 2000000 in
set_option maxRecDepth 100000 in
theorem askG_any (B:Bk) (n:Int) (w:World) (h:BookAt w B):Calls qf 48 #[bv B,.int .i64 n] w fun e w'=>e=.returned (.int .i64 (askN B n B.gs.length))∧Below w.heap.size w w':=by
 have hck:=fun W (hB:Below w.heap.size w W)=>Qh B W (h.keep hB)
 have h20:=h.small.1
 unfold askN
 by_cases hc:checkN B=0
 ·have ww:IntKind.i64.wrap ((B.gs.length:Int) - 1)=(B.gs.length:Int) - 1:=by rw [IntKind.wrap_i64];omega
  rw [if_pos hc]
  rw [hc] at hck
  have hin:∀W,Calls qf 51 #[.int .i64 n,.int .i64 0,.int .i64 ((B.gs.length:Int) - 1)] W fun e w'=>e=.returned (.bool (btw n 0 ((B.gs.length:Int) - 1)))∧W=w':=fun W=>by
   by_cases hb:0≤n∧n≤(B.gs.length:Int) - 1
   ·rw [xh.2 hb];exact xe _ _ _ W hb
   ·rw [show btw n 0 ((B.gs.length:Int) - 1)=false by rw [Bool.eq_false_iff];exact fun e=>hb (xh.1 e)];exact YZ _ _ _ W hb
  generalize btw n 0 ((B.gs.length:Int) - 1)=t at *
  clear hc h
  obtain ⟨lim,gr,hr,gs,ga,gc⟩:=B
  simp only [bv] at *
  cases t <;>
  ·go_enter s48,ntmps48
   go_wp2_with (first | (go_at_call 11;(with_reducible refine (hck _ (by go_grown)).mono ?_);rintro e w1 ⟨rfl,hB1⟩;(first | (replace hB:=bcl (by with_reducible assumption) hB1) | (replace hB:=bcl (by go_grown) hB1) | (have hB:=hB1));(try clear hc hg hz);obtain ⟨hc,hg⟩:=qx hB;have hz:=hB.size;clear hB1;(try simp at hz);(try have hlt0:w.heap.size < w1.heap.size:=by omega)) | (go_at_call 51;(with_reducible refine (hin _).mono ?_);rintro e w1 ⟨rfl,rfl⟩))
   go_ret
   exact ⟨rfl,bcl (w:=w) (by go_grown) hB⟩
 ·rw [if_neg hc]
  have hb:(checkN B != 0)=true:=bne_iff_ne.2 hc
  generalize checkN B=r at *
  obtain ⟨lim,gr,hr,gs,ga,gc⟩:=B
  simp only [bv] at *
  clear h
  go_enter s48,ntmps48
  go_wp2_with (go_at_call 11;(with_reducible refine (hck _ (by go_grown)).mono ?_);rintro e w1 ⟨rfl,hB1⟩;(first | (replace hB:=bcl (by with_reducible assumption) hB1) | (replace hB:=bcl (by go_grown) hB1) | (have hB:=hB1));(try clear hc hg hz);obtain ⟨hc,hg⟩:=qx hB;have hz:=hB.size;clear hB1;(try simp at hz);(try have hlt0:w.heap.size < w1.heap.size:=by omega))
  go_ret
  exact ⟨rfl,bcl (w:=w) (by go_grown) hB⟩
section
variable {w X Y:World} {zg zr tb q:Nat} {n:Int} {sl:Value} {a:Int×Int}
end
abbrev RQ5 (W:World) (a1 a2 a3 a4 a5:Addr) (v1 v2 v3 v4 v5:Value) (X:World):Prop :=
 X.cell? a1=some v1∧X.cell? a2=some v2∧X.cell? a3=some v3∧X.cell? a4=some v4∧X.cell? a5=some v5∧Below W.heap.size W X
section
variable {W X Y:World} {a1 a2 a3 a4 a5:Addr} {v1 v2 v3 v4 v5:Value}
theorem RQ5.call (h:RQ5 W a1 a2 a3 a4 a5 v1 v2 v3 v4 v5 X) (hB:Below X.heap.size X Y):RQ5 W a1 a2 a3 a4 a5 v1 v2 v3 v4 v5 Y:=by
 obtain ⟨h1,h2,h3,h4,h5,hb⟩:=h
 exact ⟨qb _ hB h1,qb _ hB h2,qb _ hB h3,qb _ hB h4,qb _ hB h5,bcl hb hB⟩
theorem RQ5.bel (h:RQ5 W a1 a2 a3 a4 a5 v1 v2 v3 v4 v5 X):Below W.heap.size W X:=h.2.2.2.2.2
theorem RQ5.drew (h:RQ5 W a1 a2 a3 a4 a5 v1 v2 v3 v4 v5 X):RQ5 W a1 a2 a3 a4 a5 v1 v2 v3 v4 v5 X.drew:=h.call (Below.refl _ X).drew
end
def ZN (l:List (Int×Int)) (T:Nat) (lim:Int×Int):Bool:=!l.any fun x => !borne x T lim
theorem fineL_no {l:List (Int×Int)} {T k:Nat} {lim x:Int×Int} (h:l[k]? = some x) (hb:borne x T lim=false):ZN l T lim=false:=by
 unfold ZN
 rw [List.any_eq_true.2 ⟨x,List.mem_of_getElem? h,by rw [hb];rfl⟩]
 rfl
theorem qed {l:List (Int×Int)} {T:Nat} {lim:Int×Int} (h:∀j x,j < l.length→l[j]? = some x→borne x T lim=true):ZN l T lim=true:=by
 unfold ZN
 rw [List.any_eq_false.2 fun x hx=>by obtain ⟨j,hj,e⟩:=List.getElem_of_mem hx;rw [h j x hj (by rw [List.getElem?_eq_getElem hj,e])];decide]
 rfl
set_option maxHeartbeats 4000000 in
set_option maxRecDepth 100000 in
theorem qbi (g:Grp) (T b o:Nat) (lim:Int×Int) (hta:g.ta=some ⟨b,o,none⟩) (hl20:g.traffic.length≤20) (ht:∀x∈g.traffic,yj x) (hT:T≤7) (hlim:Lim lim) (w:World) (hP:qL w b o g.traffic) :
 Calls qf 57 #[.agg #[.string g.name,.int .i64 g.trunks,.slice g.ta g.traffic.length g.tc],.int .i64 T,fv lim] w fun e w'=>e=.returned (.bool (ZN g.traffic T lim))∧Below w.heap.size w w':=by
 have hwi:=fun W x hx=>qdE T x lim (ht x hx) hT hlim W
 have HP:=Lib.hid hP
 have HN:=Lib.hid fun k x (h:g.traffic[k]? = some x)=>fineL_no (T:=T) (lim:=lim) h
 have HY:=Lib.hid (qed (l:=g.traffic) (T:=T) (lim:=lim))
 rw [hta]
 generalize hF:ZN g.traffic T lim=F at *
 clear hP hlim ht hta hF
 obtain ⟨l1,l2⟩:=lim
 obtain ⟨nm,tr,tf,ta,tc⟩:=g
 simp only [fv] at *
 go_enter s57,ntmps57
 go_upto_region 1 with fail
 obtain ⟨W,hW⟩:∃W,(w.alloc (.cells #[.string nm,.int .i64 tr,.slice (some ⟨b,o,none⟩) tf.length tc] 56)).alloc (.cells #[.int .i64 l1,.int .i64 l2] 23)=W:=⟨_,rfl⟩
 have c2:W.cell? ⟨w.heap.size,2,none⟩=some (.slice (some ⟨b,o,none⟩) tf.length tc):=by subst hW;go_cell
 have d0:W.cell? ⟨w.heap.size+1,0,none⟩=some (.int .i64 l1):=by subst hW;go_cell
 have d1:W.cell? ⟨w.heap.size+1,1,none⟩=some (.int .i64 l2):=by subst hW;go_cell
 have hBW:Below w.heap.size w W:=by subst hW;go_grown
 rw [hW]
 clear hW
 obtain ⟨z,hz⟩:∃z,z=w.heap.size:=⟨_,rfl⟩
 rw [← hz] at c2 d0 d1 ⊢
 have HZ:=Lib.hid hz
 clear hz
 go_wp2
 go_loopw [7] (fun i wr=>∃k:Nat,i=.int .i64 k∧k≤tf.length∧Below W.heap.size W wr∧(∀j x,j < k→tf[j]? = some x→borne x T (l1,l2)=true)) (fun i _=>tf.length - (intOf i).toNat)
 case atStart=>exact ⟨0,rfl,Nat.zero_le _,Below.refl _ _,fun j x h=>absurd h (Nat.not_lt_zero _)⟩
 case round =>
  obtain ⟨k,rfl,hk,hBr,hall⟩:=hrel
  have HA:=Lib.hid hall
  clear hall
  have hBw:=bcl hBW hBr
  have c2:=qb _ hBr c2
  have d0:=qb _ hBr d0
  have d1:=qb _ hBr d1
  by_cases hlt:k < tf.length
  ·obtain ⟨x,hx⟩:∃x,tf[k]? = some x:=⟨tf[k],by simp [hlt]⟩
   obtain ⟨y0,y1⟩:=HP.out k x hx
   have y0:=qb _ hBw y0
   have y1:=qb _ hBw y1
   have hwx:=fun W=>hwi W x (List.mem_of_getElem? hx)
   have HX:=Lib.hid hx
   obtain ⟨r,hr⟩:∃r,borne x T (l1,l2)=r:=⟨_,rfl⟩
   simp only [hr] at hwx
   have HR:=Lib.hid hr
   have k0:(0:Int)≤(k:Int):=Int.natCast_nonneg k
   have k1:(k:Int) < (tf.length:Int):=by omega
   clear hx hr hwi
   cases r with
   | true =>
     go_wp2_with fail
     go_region_held3 (RQ5 wr ⟨z,2,none⟩ ⟨b,o+k * 2,none⟩ ⟨b,o+k * 2+1,none⟩ ⟨z+1,0,none⟩ ⟨z+1,1,none⟩ (.slice (some ⟨b,o,none⟩) tf.length tc) (.int .i64 x.1) (.int .i64 x.2) (.int .i64 l1) (.int .i64 l2)) (first | exact RQ5.drew ‹_› | exact ⟨by go_cell,by go_cell,by go_cell,by go_cell,by go_cell,by go_grown⟩ | exact RQ5.call ‹_› hB1 | assumption) (first | (go_at_call 97;refine (hwx _).mono ?_;rintro e w1 ⟨rfl,hB1⟩))
     rename_i hH
     have hBx:=RQ5.bel hH
     clear hH
     go_wp2_with fail
     go_roundw
     case rel =>
      refine ⟨k+1,rfl,by omega,bcl hBr hBx,fun j y hj hy=>?_⟩
      by_cases e:j=k
      ·subst e
       rw [HX.out] at hy
       cases hy
       exact HR.out
      ·exact HA.out j y (by omega) hy
     case measure=>simp [intOf];omega
   | false =>
     go_wp2_with fail
     go_region_held3 (RQ5 wr ⟨z,2,none⟩ ⟨b,o+k * 2,none⟩ ⟨b,o+k * 2+1,none⟩ ⟨z+1,0,none⟩ ⟨z+1,1,none⟩ (.slice (some ⟨b,o,none⟩) tf.length tc) (.int .i64 x.1) (.int .i64 x.2) (.int .i64 l1) (.int .i64 l2)) (first | exact RQ5.drew ‹_› | exact ⟨by go_cell,by go_cell,by go_cell,by go_cell,by go_cell,by go_grown⟩ | exact RQ5.call ‹_› hB1 | assumption) (first | (go_at_call 97;refine (hwx _).mono ?_;rintro e w1 ⟨rfl,hB1⟩))
     rename_i hH
     have hBx:=RQ5.bel hH
     clear hH
     go_wp2_with fail
     go_ret
     exact ⟨by rw [HN.out k x HX.out HR.out];rfl,bcl hBw hBx⟩
  ·obtain rfl:k=tf.length:=by omega
   go_wp2
   go_ret
   exact ⟨by rw [HY.out HA.out];rfl,hBw⟩
set_option maxHeartbeats 4000000 in
set_option maxRecDepth 100000 in
theorem qfl (B:Bk) (n:Int) (w:World) (h:BookAt w B):Calls qf 9 #[bv B,.int .i64 n] w fun e w'=>e=.returned (QI B n)∧Below w.heap.size w w':=by
 have has:=fun W (hB:Below w.heap.size w W)=>askG_any B n W (h.keep hB)
 by_cases hz:askN B n B.gs.length=0
 ·rw [hz] at has
  have hc:checkN B=0:=by
   unfold askN at hz
   by_cases hc:checkN B=0
   ·exact hc
   ·rw [if_neg hc] at hz;exact hz
  have ht:btw n 0 ((B.gs.length:Int) - 1)=true:=by
   unfold askN at hz
   rw [if_pos hc] at hz
   cases e:btw n 0 ((B.gs.length:Int) - 1) with
   | true=>rfl
   | false=>rw [e] at hz;exact absurd hz (by decide)
  have hin:=xh.1 ht
  have hV:=qI hc
  obtain ⟨k,rfl⟩:=Int.eq_ofNat_of_zero_le hin.1
  have hk:k < B.gs.length:=by have:=hin.2;omega
  obtain ⟨g,hg⟩:∃g,B.gs[k]? = some g:=⟨B.gs[k],by simp [hk]⟩
  have hR:QI B k=.tuple #[.int .i64 (zK g.traffic g.traffic.length),.int .i64 0]:=by
   unfold QI
   rw [if_pos hc,if_pos ht,Int.toNat_natCast,hg]
  rw [hR]
  have hm:=List.mem_of_getElem? hg
  have hGG:=hV.grp g hm
  have hl1:1≤g.traffic.length:=by have:=hGG.len;have:=hV.num.2.2.1;omega
  have hl20:=(h.small.2 g hm).1
  have HT:=Lib.hid hGG.traf
  obtain ⟨b,o,hga,hcs⟩:=h.row (by omega)
  obtain ⟨c0,c1,c2⟩:=hcs k g hg
  obtain ⟨tb,tq,hta,hpa⟩:=h.traf g hm hl1
  rw [hta] at c2
  have HP:=Lib.hid hpa
  have HS:Hid (∀k x y,g.traffic[k]? = some x→g.traffic[zK g.traffic k]? = some y→zK g.traffic (k+1)=if above x y then k else zK g.traffic k):=Lib.hid fun k x y hx hy=>by
   simp only [zK];rw [XV hx,XV hy,qdG (show 0 < x.2 by have:=(HT.out x (List.mem_of_getElem? hx)).2;omega) (show 0 < y.2 by have:=(HT.out y (List.mem_of_getElem? hy)).2;omega)]
  have HL:=Lib.hid (Yx g.traffic)
  have HZ:Hid (zK g.traffic 1=0):=Lib.hid (by simp [zK])
  obtain ⟨N,hN⟩:∃N,N=zK g.traffic:=⟨_,rfl⟩
  rw [← hN] at HS HL HZ ⊢
  clear hN hR h hz hc ht hV hg hm hGG hcs hta hpa hin
  obtain ⟨lim,gr,hr,gs,ga,gc⟩:=B
  simp only [bv] at *
  subst hga
  have k0:(0:Int)≤(k:Int):=Int.natCast_nonneg k
  have k1:(k:Int) < (gs.length:Int):=by omega
  go_enter s9,ntmps9
  go_upto_region 4 with (go_at_call 48;(with_reducible refine (has _ (by go_grown)).mono ?_);rintro e w1 ⟨rfl,hB1⟩;(first | (replace hB:=bcl (by with_reducible assumption) hB1) | (replace hB:=bcl (by go_grown) hB1) | (have hB:=hB1));(try clear hc hg hz);obtain ⟨hc,hg⟩:=qx hB;have hz:=hB.size;clear hB1;(try simp at hz);(try have hlt0:w.heap.size < w1.heap.size:=by omega))
  have hBW:Below w.heap.size w w1:=bcl (w:=w) (by go_grown) hB
  have c0:=qb _ hBW c0
  have c1:=qb _ hBW c1
  have c2:=qb _ hBW c2
  have q4:w1.cell? ⟨w.heap.size,4,none⟩=some (.slice (some ⟨b,o,none⟩) gs.length gc):=by go_cell
  clear hc hg hB has
  go_wp2
  go_loopw [8,9] (fun x i wr=>∃j:Nat,i=.int .i64 j∧1≤j∧j≤g.traffic.length∧x=.int .i64 (N j)∧Below w1.heap.size w1 wr) (fun _ i _=>g.traffic.length - (intOf i).toNat)
  case atStart=>exact ⟨1,rfl,Nat.le_refl _,hl1,by rw [HZ.out];rfl,Below.refl _ _⟩
  case round =>
   obtain ⟨j,rfl,hj1,hjl,rfl,hBr⟩:=hrel
   have hBw:=bcl hBW hBr
   by_cases hlt:j < g.traffic.length
   ·obtain ⟨x,hx⟩:∃x,g.traffic[j]? = some x:=⟨g.traffic[j],by simp [hlt]⟩
    have hN1:=HL.out j hj1
    obtain ⟨y,hy⟩:∃y,g.traffic[N j]? = some y:=⟨g.traffic[N j]'(by omega),List.getElem?_eq_getElem _⟩
    obtain ⟨x0,x1⟩:=HP.out j x hx
    obtain ⟨y0,y1⟩:=HP.out (N j) y hy
    have x0:=qb _ hBw x0
    have x1:=qb _ hBw x1
    have y0:=qb _ hBw y0
    have y1:=qb _ hBw y1
    have tx:=HT.out x (List.mem_of_getElem? hx)
    have ty:=HT.out y (List.mem_of_getElem? hy)
    have hle:=fun W=>qbF y x W ty.1.1 (by have:=ty.2;omega) tx.1.1 (by have:=tx.2;omega) (by have:=ty.1.2;omega) (by have:=ty.2;omega) (by have:=tx.1.2;omega) (by have:=tx.2;omega)
    have hsn:=HS.out j x y hx hy
    simp only [fv] at hle
    generalize N j=m at *
    obtain ⟨r,hr⟩:∃r,above x y=r:=⟨_,rfl⟩
    rw [hr] at hsn
    simp only [hr] at hle
    have HN:=Lib.hid hsn
    clear hsn hr hx hy tx ty
    have m0:(0:Int)≤(m:Int):=Int.natCast_nonneg m
    have m1:(m:Int) < (g.traffic.length:Int):=by omega
    have j0:(0:Int)≤(j:Int):=Int.natCast_nonneg j
    have j1:(j:Int) < (g.traffic.length:Int):=by omega
    cases r with
    | true =>
      have q4:=qb _ hBr q4
      go_wp2_with fail
      go_region_held3 (RQ5 wr ⟨w.heap.size,4,none⟩ ⟨tb,tq+m * 2,none⟩ ⟨tb,tq+m * 2+1,none⟩ ⟨tb,tq+j * 2,none⟩ ⟨tb,tq+j * 2+1,none⟩ (.slice (some ⟨b,o,none⟩) gs.length gc) (.int .i64 y.1) (.int .i64 y.2) (.int .i64 x.1) (.int .i64 x.2)) (first | exact RQ5.drew ‹_› | exact ⟨by go_cell,by go_cell,by go_cell,by go_cell,by go_cell,by go_grown⟩ | exact RQ5.call ‹_› hB1 | assumption) (first | (go_at_call 49;refine (hle _).mono ?_;rintro e w2 ⟨rfl,hB1⟩))
      all_goals
       rename_i hH
       have hBx:=RQ5.bel hH
       clear hH
       go_wp2_with fail
       go_roundw
       case rel=>exact ⟨j+1,rfl,by omega,by omega,by rw [HN.out];rfl,bcl hBr hBx⟩
       case measure=>simp [intOf];omega
    | false =>
      have q4:=qb _ hBr q4
      go_wp2_with fail
      go_region_held3 (RQ5 wr ⟨w.heap.size,4,none⟩ ⟨tb,tq+m * 2,none⟩ ⟨tb,tq+m * 2+1,none⟩ ⟨tb,tq+j * 2,none⟩ ⟨tb,tq+j * 2+1,none⟩ (.slice (some ⟨b,o,none⟩) gs.length gc) (.int .i64 y.1) (.int .i64 y.2) (.int .i64 x.1) (.int .i64 x.2)) (first | exact RQ5.drew ‹_› | exact ⟨by go_cell,by go_cell,by go_cell,by go_cell,by go_cell,by go_grown⟩ | exact RQ5.call ‹_› hB1 | assumption) (first | (go_at_call 49;refine (hle _).mono ?_;rintro e w2 ⟨rfl,hB1⟩))
      all_goals
       rename_i hH
       have hBx:=RQ5.bel hH
       clear hH
       go_wp2_with fail
       go_roundw
       case rel=>exact ⟨j+1,rfl,by omega,by omega,by rw [HN.out];rfl,bcl hBr hBx⟩
       case measure=>simp [intOf];omega
   ·obtain rfl:j=g.traffic.length:=by omega
    go_wp2
    go_ret2
    exact ⟨rfl,hBw⟩
 ·have hR:QI B n=.tuple #[.int .i64 0,.int .i64 (askN B n B.gs.length)]:=by
   unfold QI
   unfold askN at hz ⊢
   by_cases hc:checkN B=0
   ·rw [if_pos hc] at hz ⊢
    rw [if_pos hc]
    cases e:btw n 0 ((B.gs.length:Int) - 1) with
    | true=>rw [e] at hz;exact absurd rfl hz
    | false=>rfl
   ·rw [if_neg hc,if_neg hc]
  rw [hR]
  have hb:(askN B n B.gs.length != 0)=true:=bne_iff_ne.2 hz
  generalize askN B n B.gs.length=a at *
  obtain ⟨lim,gr,hr,gs,ga,gc⟩:=B
  simp only [bv] at *
  clear h hR hz
  go_enter s9,ntmps9
  go_wp2_with (go_at_call 48;(with_reducible refine (has _ (by go_grown)).mono ?_);rintro e w1 ⟨rfl,hB1⟩;(first | (replace hB:=bcl (by with_reducible assumption) hB1) | (replace hB:=bcl (by go_grown) hB1) | (have hB:=hB1));(try clear hc hg hz);obtain ⟨hc,hg⟩:=qx hB;have hz:=hB.size;clear hB1;(try simp at hz);(try have hlt0:w.heap.size < w1.heap.size:=by omega))
  go_ret2
  exact ⟨rfl,bcl (w:=w) (by go_grown) hB⟩
theorem QN (w:World):yl w (.slice none 0 0) []:=⟨none,0,rfl,fun h=>absurd h (by decide)⟩
abbrev RN6 (W:World) (a1 a2 a3 a4 a5 a6:Addr) (v1 v2 v3 v4 v5 v6:Value) (X:World):Prop :=
 X.cell? a1=some v1∧X.cell? a2=some v2∧X.cell? a3=some v3∧X.cell? a4=some v4∧X.cell? a5=some v5∧X.cell? a6=some v6∧Below W.heap.size W X
section
variable {W X Y:World} {a1 a2 a3 a4 a5 a6:Addr} {v1 v2 v3 v4 v5 v6:Value}
theorem RN6.call (h:RN6 W a1 a2 a3 a4 a5 a6 v1 v2 v3 v4 v5 v6 X) (hB:Below X.heap.size X Y):RN6 W a1 a2 a3 a4 a5 a6 v1 v2 v3 v4 v5 v6 Y:=by
 obtain ⟨h1,h2,h3,h4,h5,h6,hb⟩:=h
 exact ⟨qb _ hB h1,qb _ hB h2,qb _ hB h3,qb _ hB h4,qb _ hB h5,qb _ hB h6,bcl hb hB⟩
theorem RN6.bel (h:RN6 W a1 a2 a3 a4 a5 a6 v1 v2 v3 v4 v5 v6 X):Below W.heap.size W X:=h.2.2.2.2.2.2
theorem RN6.drew (h:RN6 W a1 a2 a3 a4 a5 a6 v1 v2 v3 v4 v5 v6 X):RN6 W a1 a2 a3 a4 a5 a6 v1 v2 v3 v4 v5 v6 X.drew:=h.call (Below.refl _ X).drew
end
def qaR (B:Bk):List Int:=if checkN B=0 then Qn B B.gs.length else []
def qbc (B:Bk):List Int:=if checkN B=0 then B.gs.map (yP B) else []
def ndN (B:Bk) (g:Grp) (j:Nat):Int:=match yT B g j with | some n=>n | none=>-1
theorem ndN_step {B:Bk} {g:Grp} {j:Nat} (hj:j < 8):ndN B g j=if ZN g.traffic j B.lim then (j:Int) else ndN B g (j+1):=by
 unfold ndN
 show _=if jG B g j then _ else _
 cases h:jG B g j with
 | true=>rw [Zz hj h];rfl
 | false=>rw [YD hj h];rfl
theorem JI {B:Bk} {w:World} (h:BookAt w B) (hV:Valid B) {g:Grp} (hg:g∈B.gs) (T:Nat) (hT:T≤7) (W:World) (hB:Below w.heap.size w W) :
 Calls qf 57 #[.agg #[.string g.name,.int .i64 g.trunks,.slice g.ta g.traffic.length g.tc],.int .i64 T,fv B.lim] W fun e w'=>e=.returned (.bool (ZN g.traffic T B.lim))∧Below W.heap.size W w':=by
 have hGG:=hV.grp g hg
 obtain ⟨tb,tq,hta,hpa⟩:=h.traf g hg (by have:=hGG.len;have:=hV.num.2.2.1;omega)
 exact qbi g T tb tq B.lim hta (h.small.2 g hg).1 hGG.traf hT hV.num.1 W (hpa.keep hB)
set_option maxHeartbeats 4000000 in
set_option maxRecDepth 100000 in
theorem qfm (B:Bk) (w:World) (h:BookAt w B):Calls qf 13 #[bv B] w fun e w'=>(∃v,e=.returned (.tuple #[v,.int .i64 (checkN B)])∧yl w' v (qaR B))∧Below w.heap.size w w':=by
 obtain ⟨i0,hi,hz0,hz1,hz2⟩:=info_parts ZY
 have hi:=(yE 3).trans hi
 have hck:=fun W (hB:Below w.heap.size w W)=>Qh B W (h.keep hB)
 unfold qaR
 by_cases hz:checkN B=0
 ·have hV:=qI hz
  rw [if_pos hz]
  rw [hz] at hck ⊢
  have HF:=Lib.hid fun (g:Grp) (hg:g∈B.gs) (T:Nat) (hT:T≤7) (W:World) (hB:Below w.heap.size w W)=>JI h hV hg T hT W hB
  obtain ⟨b,o,hga,hcs⟩:=h.row hV.len1
  have HTA:=Lib.hid fun (g:Grp) (hg:g∈B.gs)=>h.traf g hg (by have:=(hV.grp g hg).len;have:=hV.num.2.2.1;omega)
  have HT:=Lib.hid fun g (hg:g∈B.gs)=>hV.trunks hg
  have hl4:=hV.len4
  have HS:Hid (∀(k:Nat) (g:Grp),B.gs[k]? = some g→Qn B (k+1)=Qn B k ++ (if ZN g.traffic g.trunks.toNat B.lim then [(k:Int)] else [])):=Lib.hid fun (k:Nat) (g:Grp) (hg:B.gs[k]? = some g)=>Xo hg
  have HL:=Lib.hid fun (k:Nat)=>jJ B k
  have HN:Hid (Qn B 0=[]):=Lib.hid (by simp [Qn,zU])
  obtain ⟨N,hN⟩:∃N,N=Qn B:=⟨_,rfl⟩
  rw [← hN] at HS HL HN ⊢
  clear hN hV hz h
  obtain ⟨lim,gr,hr,gs,ga,gc⟩:=B
  simp only at hga hcs hl4
  subst hga
  simp only [bv] at *
  have HC:=Lib.hid hcs
  clear hcs
  go_enter s13,ntmps13
  go_upto_region 4 with (go_at_call 11;(with_reducible refine (hck _ (by go_grown)).mono ?_);rintro e w1 ⟨rfl,hB1⟩;(first | (replace hB:=bcl (by with_reducible assumption) hB1) | (replace hB:=bcl (by go_grown) hB1) | (have hB:=hB1));(try clear hc hg hz);obtain ⟨hc,hg⟩:=qx hB;have hz:=hB.size;clear hB1;(try simp at hz);(try have hlt0:w.heap.size < w1.heap.size:=by omega))
  have hBW:Below w.heap.size w w1:=bcl (w:=w) (by go_grown) hB
  have q0:w1.cell? ⟨w.heap.size,0,none⟩=some (.int .i64 lim.1):=by go_cell
  have q1:w1.cell? ⟨w.heap.size,1,none⟩=some (.int .i64 lim.2):=by go_cell
  have q4:w1.cell? ⟨w.heap.size,4,none⟩=some (.slice (some ⟨b,o,none⟩) gs.length gc):=by go_cell
  clear hc hg hB hck
  go_wp2
  go_loopw [5,6] (fun v i wr=>∃k:Nat,i=.int .i64 k∧k≤gs.length∧Below w1.heap.size w1 wr∧SliceOf w1.heap.size wr v (N k)) (fun _ i _=>gs.length - (intOf i).toNat)
  case atStart=>exact ⟨0,rfl,by omega,Below.refl _ _,by rw [HN.out];exact World.ownsRow_nil _ _ _ _⟩
  case round =>
   obtain ⟨k,rfl,hk,hBr,hown⟩:=hrel
   unfold SliceOf at hown
   have q0:=qb _ hBr q0
   have q1:=qb _ hBr q1
   have q4:=qb _ hBr q4
   have hBw:=bcl hBW hBr
   have s1:=hBw.size
   have s2:=hBr.size
   by_cases hlt:k < gs.length
   ·obtain ⟨g,hg⟩:∃g,gs[k]? = some g:=⟨gs[k],by simp [hlt]⟩
    have hm:g∈gs:=List.mem_of_getElem? hg
    obtain ⟨c0,c1,c2⟩:=HC.out k g hg
    have c0:=qb _ hBw c0
    have c1:=qb _ hBw c1
    have c2:=qb _ hBw c2
    obtain ⟨T,hT,hT7⟩:=HT.out g hm
    obtain ⟨tb,tq,hta,_⟩:=HTA.out g hm
    have hfi:=fun W hB=>HF.out g hm T hT7 W hB
    rw [hT] at c1
    rw [hta] at c2
    simp only [hT,hta] at hfi
    have hsn:=HS.out k g hg
    have hln:=HL.out k
    rw [hT,Int.toNat_natCast] at hsn
    generalize N k=l at *
    obtain ⟨r,hr⟩:∃r,ZN g.traffic T lim=r:=⟨_,rfl⟩
    rw [hr] at hsn
    simp only [hr,fv] at hfi
    have HN:=Lib.hid hsn
    have k0:(0:Int)≤(k:Int):=Int.natCast_nonneg k
    have k1:(k:Int) < (gs.length:Int):=by omega
    clear hsn hg hm hr hT hta
    cases r with
    | true =>
      have hS:RN6 wr ⟨w.heap.size,0,none⟩ ⟨w.heap.size,1,none⟩ ⟨w.heap.size,4,none⟩ ⟨b,o+k * 3,none⟩ ⟨b,o+k * 3+1,none⟩ ⟨b,o+k * 3+2,none⟩ _ _ _ _ _ _ wr:=⟨q0,q1,q4,c0,c1,c2,Below.refl _ _⟩
      go_wp2_with fail
      go_region_held3 (RN6 wr ⟨w.heap.size,0,none⟩ ⟨w.heap.size,1,none⟩ ⟨w.heap.size,4,none⟩ ⟨b,o+k * 3,none⟩ ⟨b,o+k * 3+1,none⟩ ⟨b,o+k * 3+2,none⟩ (.int .i64 lim.1) (.int .i64 lim.2) (.slice (some ⟨b,o,none⟩) gs.length gc) (.string g.name) (.int .i64 T) (.slice (some ⟨tb,tq,none⟩) g.traffic.length g.tc)) (first | exact RN6.drew hS | exact hX) (first | (go_at_call 57;(with_reducible refine (hfi _ (bcl hBw (RN6.bel (by with_reducible assumption)))).mono ?_);rintro e wy ⟨rfl,hB1⟩;have hX:=RN6.call (by with_reducible assumption) hB1))
      rename_i hH
      have hB2:=RN6.bel hH
      have s3:=hB2.size
      clear hH
      go_wp2_with (at_builtin;refine wpList_append_own _ rfl (.tmp 33) (.tmp 35) 33 rfl w1.heap.size 3 i0 (.int .i64 0) 1 8 ((qY _).trans Tryz.underlying33) hi hz0 hz1 hz2 rfl (by decide) _ _ _ rfl ((zS hown hB2).alloc _) ⟨wy.heap.size,0,none⟩ 1 1 [.int .i64 k] rfl rfl (cell_one_new _ _ _) (ints_oneCell .i64 [(k:Int)]) (by unfold maxLen;omega) (by omega) (by simp;omega) ?_;intro v1 w3 hown1 hgrow1 hnil1)
      go_roundw
      case rel =>
       refine ⟨k+1,rfl,by omega,?_,?_⟩
       ·refine (((Below.call hBr hB2 (by omega)).alloc (by omega) _).grown hgrow1 (by simp;omega) (fun j hj=>?_))
        exact (hown.lt j hj).1
       ·rw [HN.out]
        simpa [SliceOf] using hown1
      case measure=>simp [intOf] <;> omega
    | false =>
      have hS:RN6 wr ⟨w.heap.size,0,none⟩ ⟨w.heap.size,1,none⟩ ⟨w.heap.size,4,none⟩ ⟨b,o+k * 3,none⟩ ⟨b,o+k * 3+1,none⟩ ⟨b,o+k * 3+2,none⟩ _ _ _ _ _ _ wr:=⟨q0,q1,q4,c0,c1,c2,Below.refl _ _⟩
      go_wp2_with fail
      go_region_held3 (RN6 wr ⟨w.heap.size,0,none⟩ ⟨w.heap.size,1,none⟩ ⟨w.heap.size,4,none⟩ ⟨b,o+k * 3,none⟩ ⟨b,o+k * 3+1,none⟩ ⟨b,o+k * 3+2,none⟩ (.int .i64 lim.1) (.int .i64 lim.2) (.slice (some ⟨b,o,none⟩) gs.length gc) (.string g.name) (.int .i64 T) (.slice (some ⟨tb,tq,none⟩) g.traffic.length g.tc)) (first | exact RN6.drew hS | exact hX) (first | (go_at_call 57;(with_reducible refine (hfi _ (bcl hBw (RN6.bel (by with_reducible assumption)))).mono ?_);rintro e wy ⟨rfl,hB1⟩;have hX:=RN6.call (by with_reducible assumption) hB1))
      rename_i hH
      have hB2:=RN6.bel hH
      have s3:=hB2.size
      clear hH
      go_wp2_with fail
      go_roundw
      case rel=>exact ⟨k+1,rfl,by omega,Below.call hBr hB2 (by omega),by rw [HN.out];simp;exact zS hown hB2⟩
      case measure=>simp [intOf] <;> omega
   ·obtain rfl:k=gs.length:=by omega
    go_wp2
    go_ret2
    exact ⟨⟨_,rfl,zP (base:=w1.heap.size) hown⟩,hBw⟩
 ·have hb:(checkN B != 0)=true:=bne_iff_ne.2 hz
  rw [if_neg hz]
  clear hz h
  generalize checkN B=r at *
  obtain ⟨lim,gr,hr,gs,ga,gc⟩:=B
  simp only [bv] at *
  go_enter s13,ntmps13
  go_wp2_with (go_at_call 11;(with_reducible refine (hck _ (by go_grown)).mono ?_);rintro e w1 ⟨rfl,hB1⟩;(first | (replace hB:=bcl (by with_reducible assumption) hB1) | (replace hB:=bcl (by go_grown) hB1) | (have hB:=hB1));(try clear hc hg hz);obtain ⟨hc,hg⟩:=qx hB;have hz:=hB.size;clear hB1;(try simp at hz);(try have hlt0:w.heap.size < w1.heap.size:=by omega))
  go_ret2
  exact ⟨⟨_,rfl,QN _⟩,bcl (w:=w) (by go_grown) hB⟩
set_option maxHeartbeats 4000000 in
set_option maxRecDepth 100000 in
theorem qdc (B:Bk) (w:World) (h:BookAt w B):Calls qf 16 #[bv B] w fun e w'=>(∃v,e=.returned (.tuple #[v,.int .i64 (checkN B)])∧yl w' v (qbc B))∧Below w.heap.size w w':=by
 obtain ⟨i0,hi,hz0,hz1,hz2⟩:=info_parts ZY
 have hi:=(yE 3).trans hi
 have hck:=fun W (hB:Below w.heap.size w W)=>Qh B W (h.keep hB)
 unfold qbc
 by_cases hz:checkN B=0
 ·have hV:=qI hz
  rw [if_pos hz]
  rw [hz] at hck ⊢
  have HF:=Lib.hid fun (g:Grp) (hg:g∈B.gs) (T:Nat) (hT:T≤7) (W:World) (hB:Below w.heap.size w W)=>JI h hV hg T hT W hB
  obtain ⟨b,o,hga,hcs⟩:=h.row hV.len1
  have HTA:=Lib.hid fun (g:Grp) (hg:g∈B.gs)=>h.traf g hg (by have:=(hV.grp g hg).len;have:=hV.num.2.2.1;omega)
  have hl4:=hV.len4
  have HS:Hid (∀(g:Grp) (j:Nat),j < 8→ndN B g j=if ZN g.traffic j B.lim then (j:Int) else ndN B g (j+1)):=Lib.hid fun g j hj=>ndN_step hj
  have HZ:Hid (∀g:Grp,ndN B g 8=-1):=Lib.hid fun g=>rfl
  have HE:Hid (∀(k:Nat) (g:Grp),B.gs[k]? = some g→(B.gs.take (k+1)).map (yP B)=(B.gs.take k).map (yP B) ++ [ndN B g 0]):=Lib.hid fun k g hg=>by
   obtain ⟨hk,rfl⟩:=List.getElem?_eq_some_iff.1 hg
   rw [List.take_succ_eq_append_getElem hk,List.map_append]
   rfl
  have HL:Hid (∀k,((B.gs.take k).map (yP B)).length≤k):=Lib.hid fun k=>by rw [List.length_map];exact List.length_take_le _ _
  have HN:Hid ((B.gs.take 0).map (yP B)=[]):=Lib.hid rfl
  rw [show B.gs.map (yP B)=(B.gs.take B.gs.length).map (yP B) by rw [List.take_length]]
  obtain ⟨N,hN⟩:∃N:Nat→List Int,N=fun k=>(B.gs.take k).map (yP B):=⟨_,rfl⟩
  rw [show (B.gs.take B.gs.length).map (yP B)=N B.gs.length by rw [hN]]
  replace HE:Hid (∀(k:Nat) (g:Grp),B.gs[k]? = some g→N (k+1)=N k ++ [ndN B g 0]):=Lib.hid (by rw [hN];exact HE.out)
  replace HL:Hid (∀k,(N k).length≤k):=Lib.hid (by rw [hN];exact HL.out)
  replace HN:Hid (N 0=[]):=Lib.hid (by rw [hN];exact HN.out)
  obtain ⟨D,hD⟩:∃D,D=ndN B:=⟨_,rfl⟩
  rw [← hD] at HS HZ HE
  clear hN hD hV hz h
  obtain ⟨lim,gr,hr,gs,ga,gc⟩:=B
  simp only at hga hcs hl4
  subst hga
  simp only [bv] at *
  have HC:=Lib.hid hcs
  clear hcs
  go_enter s16,ntmps16
  go_upto_region 4 with (go_at_call 11;(with_reducible refine (hck _ (by go_grown)).mono ?_);rintro e w1 ⟨rfl,hB1⟩;(first | (replace hB:=bcl (by with_reducible assumption) hB1) | (replace hB:=bcl (by go_grown) hB1) | (have hB:=hB1));(try clear hc hg hz);obtain ⟨hc,hg⟩:=qx hB;have hz:=hB.size;clear hB1;(try simp at hz);(try have hlt0:w.heap.size < w1.heap.size:=by omega))
  have hBW:Below w.heap.size w w1:=bcl (w:=w) (by go_grown) hB
  have q0:w1.cell? ⟨w.heap.size,0,none⟩=some (.int .i64 lim.1):=by go_cell
  have q1:w1.cell? ⟨w.heap.size,1,none⟩=some (.int .i64 lim.2):=by go_cell
  have q4:w1.cell? ⟨w.heap.size,4,none⟩=some (.slice (some ⟨b,o,none⟩) gs.length gc):=by go_cell
  clear hc hg hB hck
  go_wp2
  go_loopw [5,6] (fun v i wr=>∃k:Nat,i=.int .i64 k∧k≤gs.length∧Below w1.heap.size w1 wr∧SliceOf w1.heap.size wr v (N k)) (fun _ i _=>gs.length - (intOf i).toNat)
  case atStart=>exact ⟨0,rfl,by omega,Below.refl _ _,by rw [HN.out];exact World.ownsRow_nil _ _ _ _⟩
  case round =>
   obtain ⟨k,rfl,hk,hBr,hown⟩:=hrel
   unfold SliceOf at hown
   have q0:=qb _ hBr q0
   have q1:=qb _ hBr q1
   have q4:=qb _ hBr q4
   have hBw:=bcl hBW hBr
   have s1:=hBw.size
   have s2:=hBr.size
   by_cases hlt:k < gs.length
   ·obtain ⟨g,hg⟩:∃g,gs[k]? = some g:=⟨gs[k],by simp [hlt]⟩
    have hm:g∈gs:=List.mem_of_getElem? hg
    obtain ⟨c0,c1,c2⟩:=HC.out k g hg
    have c0:=qb _ hBw c0
    have c1:=qb _ hBw c1
    have c2:=qb _ hBw c2
    obtain ⟨tb,tq,hta,_⟩:=HTA.out g hm
    have hfi:=fun T hT7 W hB=>HF.out g hm T hT7 W hB
    rw [hta] at c2
    simp only [hta,fv] at hfi
    have HFI:=Lib.hid hfi
    have HM:=Lib.hid (HE.out k g hg)
    have HSg:=Lib.hid (HS.out g)
    have hzg:=HZ.out g
    have hln:=HL.out k
    generalize D g=E at *
    generalize N k=l at *
    have k0:(0:Int)≤(k:Int):=Int.natCast_nonneg k
    have k1:(k:Int) < (gs.length:Int):=by omega
    clear hg hm hta hfi
    have HZg:=Lib.hid hzg
    clear hzg
    obtain ⟨V,hVe⟩:∃V,V=wr:=⟨_,rfl⟩
    subst hVe
    go_wp2
    go_loopw [7,8] (fun n i wx=>∃(j:Nat) (x:Int),i=.int .i64 x∧x+1=j∧j≤8∧n=.int .i64 (E j)∧Below V.heap.size V wx) (fun _ i _=>(intOf i+1).toNat)
    case atStart=>exact ⟨8,7,rfl,rfl,Nat.le_refl _,by rw [HZg.out],Below.refl _ _⟩
    case round =>
     obtain ⟨j,x,rfl,hxj,hj8,rfl,hBx⟩:=hrel
     have q0:=qb _ hBx q0
     have q1:=qb _ hBx q1
     have q4:=qb _ hBx q4
     have c0:=qb _ hBx c0
     have c1:=qb _ hBx c1
     have c2:=qb _ hBx c2
     have hBy:=bcl hBw hBx
     rcases j with _ | m
     ·obtain rfl:x=-1:=by omega
      have hown2:=zS hown hBx
      have s3:=hBx.size
      have s4:=hBy.size
      generalize E 0=e0 at *
      go_wp2_with (at_builtin;refine wpList_append_own _ rfl (.tmp 35) (.tmp 37) 33 rfl w1.heap.size 3 i0 (.int .i64 0) 1 8 ((qY _).trans Tryz.underlying33) hi hz0 hz1 hz2 rfl (by decide) _ _ _ rfl (hown2.alloc _) ⟨wr.heap.size,0,none⟩ 1 1 [.int .i64 e0] rfl rfl (cell_one_new _ _ _) (ints_oneCell .i64 [e0]) (by unfold maxLen;omega) (by omega) (by simp;omega) ?_;intro v1 w3 hown1 hgrow1 hnil1)
      go_roundw
      case rel =>
       refine ⟨k+1,rfl,by omega,?_,?_⟩
       ·refine (((Below.call hBr hBx (by omega)).alloc (by omega) _).grown hgrow1 (by simp;omega) (fun j hj=>?_))
        exact (hown.lt j hj).1
       ·rw [HM.out]
        simpa [SliceOf] using hown1
      case measure=>simp [intOf] <;> omega
     ·obtain rfl:x=(m:Int):=by omega
      have hfm:=fun W hB=>HFI.out m (by omega) W hB
      have hsm:=HSg.out m (by omega)
      obtain ⟨r,hr⟩:∃r,ZN g.traffic m lim=r:=⟨_,rfl⟩
      rw [hr] at hsm
      simp only [hr] at hfm
      have HN:=Lib.hid hsm
      have m0:(0:Int)≤(m:Int):=Int.natCast_nonneg m
      have wm:IntKind.i64.wrap ((m:Int) - 1)=(m:Int) - 1:=by rw [IntKind.wrap_i64];omega
      clear hsm hr
      generalize E (m+1)=e1 at *
      cases r with
      | true =>
        have hS:RN6 wr ⟨w.heap.size,0,none⟩ ⟨w.heap.size,1,none⟩ ⟨w.heap.size,4,none⟩ ⟨b,o+k * 3,none⟩ ⟨b,o+k * 3+1,none⟩ ⟨b,o+k * 3+2,none⟩ _ _ _ _ _ _ wr:=⟨q0,q1,q4,c0,c1,c2,Below.refl _ _⟩
        go_wp2_with fail
        go_region_held3 (RN6 wr ⟨w.heap.size,0,none⟩ ⟨w.heap.size,1,none⟩ ⟨w.heap.size,4,none⟩ ⟨b,o+k * 3,none⟩ ⟨b,o+k * 3+1,none⟩ ⟨b,o+k * 3+2,none⟩ (.int .i64 lim.1) (.int .i64 lim.2) (.slice (some ⟨b,o,none⟩) gs.length gc) (.string g.name) (.int .i64 g.trunks) (.slice (some ⟨tb,tq,none⟩) g.traffic.length g.tc)) (first | exact RN6.drew hS | exact hX) (first | (go_at_call 57;(with_reducible refine (hfm _ (bcl hBy (RN6.bel (by with_reducible assumption)))).mono ?_);rintro e wy ⟨rfl,hB1⟩;have hX:=RN6.call (by with_reducible assumption) hB1))
        rename_i hH
        have hB2:=RN6.bel hH
        have s3:=hB2.size
        clear hH
        go_wp2_with fail
        go_roundw
        case rel=>exact ⟨m,(m:Int) - 1,rfl,by omega,by omega,by rw [HN.out];rfl,bcl hBx hB2⟩
        case measure=>simp [intOf] <;> omega
      | false =>
        have hS:RN6 wr ⟨w.heap.size,0,none⟩ ⟨w.heap.size,1,none⟩ ⟨w.heap.size,4,none⟩ ⟨b,o+k * 3,none⟩ ⟨b,o+k * 3+1,none⟩ ⟨b,o+k * 3+2,none⟩ _ _ _ _ _ _ wr:=⟨q0,q1,q4,c0,c1,c2,Below.refl _ _⟩
        go_wp2_with fail
        go_region_held3 (RN6 wr ⟨w.heap.size,0,none⟩ ⟨w.heap.size,1,none⟩ ⟨w.heap.size,4,none⟩ ⟨b,o+k * 3,none⟩ ⟨b,o+k * 3+1,none⟩ ⟨b,o+k * 3+2,none⟩ (.int .i64 lim.1) (.int .i64 lim.2) (.slice (some ⟨b,o,none⟩) gs.length gc) (.string g.name) (.int .i64 g.trunks) (.slice (some ⟨tb,tq,none⟩) g.traffic.length g.tc)) (first | exact RN6.drew hS | exact hX) (first | (go_at_call 57;(with_reducible refine (hfm _ (bcl hBy (RN6.bel (by with_reducible assumption)))).mono ?_);rintro e wy ⟨rfl,hB1⟩;have hX:=RN6.call (by with_reducible assumption) hB1))
        rename_i hH
        have hB2:=RN6.bel hH
        have s3:=hB2.size
        clear hH
        go_wp2_with fail
        go_roundw
        case rel=>exact ⟨m,(m:Int) - 1,rfl,by omega,by omega,by rw [HN.out];rfl,bcl hBx hB2⟩
        case measure=>simp [intOf] <;> omega
   ·obtain rfl:k=gs.length:=by omega
    go_wp2
    go_ret2
    exact ⟨⟨_,rfl,zP (base:=w1.heap.size) hown⟩,hBw⟩
 ·have hb:(checkN B != 0)=true:=bne_iff_ne.2 hz
  rw [if_neg hz]
  clear hz h
  generalize checkN B=r at *
  obtain ⟨lim,gr,hr,gs,ga,gc⟩:=B
  simp only [bv] at *
  go_enter s16,ntmps16
  go_wp2_with (go_at_call 11;(with_reducible refine (hck _ (by go_grown)).mono ?_);rintro e w1 ⟨rfl,hB1⟩;(first | (replace hB:=bcl (by with_reducible assumption) hB1) | (replace hB:=bcl (by go_grown) hB1) | (have hB:=hB1));(try clear hc hg hz);obtain ⟨hc,hg⟩:=qx hB;have hz:=hB.size;clear hB1;(try simp at hz);(try have hlt0:w.heap.size < w1.heap.size:=by omega))
  go_ret2
  exact ⟨⟨_,rfl,QN _⟩,bcl (w:=w) (by go_grown) hB⟩
end Go.Proofs.Tryz
section
namespace Go.Proofs.Tryz
open Go Go.Load Go.RowKit
open Go.Proofs.YtnpjncjnmpfgpaaGreatDoor (BookIn)
set_option maxHeartbeats 4000000 in
set_option maxRecDepth 100000 in
theorem qdB (B:Bk) (w:World) (h:BookAt w B) (hG:Globs w) (hz:checkN B≠0):Calls qf 15 #[bv B] w fun e w'=>e=.returned (.tuple #[.slice none 0 0,.int .i64 (checkN B)])∧Below w.heap.size w w':=by
 have hop:=fun W (hB:Below w.heap.size w W)=>yw B true W (h.keep hB) (hG.keep hB)
 unfold Zm at hop
 simp only [if_neg hz] at hop
 have hb:(checkN B != 0)=true:=bne_iff_ne.2 hz
 have hl4:=h.cap
 have hl20:=h.small.1
 clear hz h hG
 generalize checkN B=r at *
 obtain ⟨lim,gr,hr,gs,ga,gc⟩:=B
 simp only [bv,bz] at *
 go_enter Zt,qan
 simp only [jS,sB0,sO0,sSh,sOc,sO8,op2,Jf,qfX]
 generalize hB1d:sB1=B1 at *
 go_wp2_with (go_at_call 42;refine (hop _ (by go_grown)).mono ?_;rintro e w1 ⟨rfl,hB1⟩;have hBw:Below w.heap.size w w1:=bcl (w:=w) (by go_grown) hB1)
 refine bodyPost_ret (results_tmp2 (show YT.results=#[.tmp 2,.tmp 3] by kernel_rfl) _ _ _) rfl ?_
 exact ⟨rfl,hBw.alloc hBw.size _⟩
theorem qdC (B:Bk) (w:World) (h:BookAt w B) (hG:Globs w) (hcp:∀g∈B.gs,g.traffic.length≤g.tc):Calls qf 15 #[bv B] w fun e w'=>(∃v,e=.returned (.tuple #[v,.int .i64 (checkN B)])∧yl w' v (qbc B))∧Below w.heap.size w w':=by
 unfold qbc
 by_cases hz:checkN B=0
 ·have hV:=qI hz
  rw [if_pos hz,hz]
  exact (qbH B w h hG hV.len1 (fun g hg=>by have:=(hV.grp g hg).len;have:=hV.num.2.2.1;omega) hcp hz).mono fun e w' k=>let ⟨v,a,b,c⟩:=k;⟨⟨v,a,b⟩,c⟩
 ·rw [if_neg hz]
  exact (qdB B w h hG hz).mono fun e w' k=>⟨⟨_,k.1,QN _⟩,k.2⟩
theorem Good_gen (B:Bk) (w:World) (h:BookAt w B) (hG:Globs w):Calls qf 12 #[bv B] w fun e w'=>(∃v,e=.returned (.tuple #[v,.int .i64 (checkN B)])∧yl w' v (qaR B))∧Below w.heap.size w w' :=
 (XG B w h hG).mono fun e w' k=>by
   unfold QE at k
   unfold qaR
   by_cases hz:checkN B=0
   ·rw [if_pos hz] at k ⊢
    rw [hz]
    obtain ⟨v,a,b,c⟩:=k
    exact ⟨⟨v,a,zP b⟩,c⟩
   ·rw [if_neg hz] at k ⊢
    exact ⟨⟨_,k.1,QN _⟩,k.2⟩
theorem qcw (B:Bk) (n:Int):∃m a:Int,QI B n=.tuple #[.int .i64 m,.int .i64 a]:=by
 unfold QI
 split
 ·split
  ·exact ⟨_,_,rfl⟩
  ·exact ⟨_,_,rfl⟩
 ·exact ⟨_,_,rfl⟩
theorem qeg {B:Bk} (h:B.gs.length≤20):(qaR B).length≤100:=by
 unfold qaR
 split
 ·have:=jJ B B.gs.length;omega
 ·exact Nat.zero_le _
theorem qeP {B:Bk} (h:B.gs.length≤20):(qbc B).length≤100:=by
 unfold qbc
 split
 ·rw [List.length_map];omega
 ·exact Nat.zero_le _
abbrev RG5 (W:World) (z:Nat) (v1 v2 v3 v4 v5:Value) (X:World):Prop :=
 X.cell? ⟨z,0,none⟩=some v1∧X.cell? ⟨z,1,none⟩=some v2∧X.cell? ⟨z,2,none⟩=some v3∧X.cell? ⟨z,3,none⟩=some v4∧X.cell? ⟨z,4,none⟩=some v5∧Globs X∧Below W.heap.size W X
section
variable {W X Y:World} {z:Nat} {v1 v2 v3 v4 v5:Value}
theorem RG5.call (h:RG5 W z v1 v2 v3 v4 v5 X) (hB:Below X.heap.size X Y):RG5 W z v1 v2 v3 v4 v5 Y:=by
 obtain ⟨h1,h2,h3,h4,h5,hg,hb⟩:=h
 exact ⟨qb _ hB h1,qb _ hB h2,qb _ hB h3,qb _ hB h4,qb _ hB h5,hg.keep hB,bcl hb hB⟩
theorem RG5.gl (h:RG5 W z v1 v2 v3 v4 v5 X):Globs X:=h.2.2.2.2.2.1
theorem RG5.bel (h:RG5 W z v1 v2 v3 v4 v5 X):Below W.heap.size W X:=h.2.2.2.2.2.2
theorem RG5.drew (h:RG5 W z v1 v2 v3 v4 v5 X):RG5 W z v1 v2 v3 v4 v5 X.drew:=h.call (Below.refl _ X).drew
theorem KSt.rg {w W:World} {z:Nat} {v1 v2 v3 v4 v5:Value} (h:KSt w W [(⟨z,0,none⟩,v1),(⟨z,1,none⟩,v2),(⟨z,2,none⟩,v3),(⟨z,3,none⟩,v4),(⟨z,4,none⟩,v5)]):RG5 w z v1 v2 v3 v4 v5 W:=by
 obtain ⟨⟨a,b,c,d,e⟩,_⟩:=h.c5
 exact ⟨a,b,c,d,e,h.gl,h.bw⟩
theorem RG5.st {w W:World} {z:Nat} {v1 v2 v3 v4 v5:Value} (h:RG5 w z v1 v2 v3 v4 v5 W):KSt w W [(⟨z,0,none⟩,v1),(⟨z,1,none⟩,v2),(⟨z,2,none⟩,v3),(⟨z,3,none⟩,v4),(⟨z,4,none⟩,v5)]:=by
 obtain ⟨a,b,c,d,e,hg,hb⟩:=h
 refine ⟨fun p hp=>?_,hg,hb⟩
 simp only [List.mem_cons,List.not_mem_nil,or_false] at hp
 rcases hp with rfl | rfl | rfl | rfl | rfl <;> assumption
end
theorem s3:qf.funcs[3]? = some f3:=by kernel_rfl
set_option maxHeartbeats 8000000 in
set_option maxRecDepth 100000 in
theorem Xa (HL:∀W,Globs W→Calls qf 7 #[] W fun e w'=>e=.returned (.bool true)∧Below W.heap.size W w') (B:Bk) (n:Int) (w:World) (hG:Globs w) (hI:BookIn w B) (hb:BookAt w B) (hm:modest B=true) (hcp:∀g∈B.gs,g.traffic.length≤g.tc) :
 Calls qf 3 #[bv B,.int .i64 n] w fun e w'=>e=.returned (.bool true)∧Below w.heap.size w w':=by
 have hgr:=fun W (h:Below w.heap.size w W)=>Ju B W (hI.keep h)
 simp only [hm,Bool.not_true] at hgr
 have hbu:=fun W (h:Below w.heap.size w W)=>qbC B n W (hb.keep h) (hG.keep h)
 have hrb:=fun W (h:Below w.heap.size w W)=>qfl B n W (hb.keep h)
 obtain ⟨bm,ba,eb⟩:=qcw B n
 simp only [eb] at hbu hrb
 have hck:=fun W (h:Below w.heap.size w W)=>jc B W (hb.keep h) (hG.keep h)
 have hrc:=fun W (h:Below w.heap.size w W)=>Qh B W (hb.keep h)
 have hgo:=fun W (h:Below w.heap.size w W)=>Good_gen B W (hb.keep h) (hG.keep h)
 have hrg:=fun W (h:Below w.heap.size w W)=>qfm B W (hb.keep h)
 have hne:=fun W (h:Below w.heap.size w W)=>qdC B W (hb.keep h) (hG.keep h) hcp
 have hrn:=fun W (h:Below w.heap.size w W)=>qdc B W (hb.keep h)
 have hl1:=qeg (Zk hm).1
 have hl2:=qeP (Zk hm).1
 have HG:=Lib.hid hG
 generalize qaR B=L at *
 generalize qbc B=M at *
 generalize checkN B=ca at *
 clear eb hm hb hI hcp
 obtain ⟨lim,gr,hr,gs,ga,gc⟩:=B
 simp only [bv] at hgr hbu hrb hck hrc hgo hrg hne hrn ⊢
 go_enter s3,ntmps3
 go_upto_region 3 with (go_at_call 6;(with_reducible refine (hgr _ (by go_grown)).mono ?_);rintro e w1 ⟨rfl,hB1⟩;(first | (replace hB:=bcl (by with_reducible assumption) hB1) | (replace hB:=bcl (by go_grown) hB1) | (have hB:=hB1));(try clear hc hg hz);obtain ⟨hc,hg⟩:=qx hB;have hz:=hB.size;clear hB1;(try simp at hz);(try have hlt0:w.heap.size < w1.heap.size:=by omega))
 obtain ⟨wz,hwz⟩:∃wz,wz=w.heap.size:=⟨_,rfl⟩
 have h:KSt w w1 [(⟨wz,0,none⟩,.int .i64 lim.1),(⟨wz,1,none⟩,.int .i64 lim.2),(⟨wz,2,none⟩,.int .i64 gr),(⟨wz,3,none⟩,.int .i64 hr),(⟨wz,4,none⟩,.slice ga gs.length gc)]:=by
  have hBW:Below w.heap.size w w1:=bcl (w:=w) (by go_grown) hB
  refine ⟨fun p hp=>?_,HG.out.keep hBW,hBW⟩
  simp only [List.mem_cons,List.not_mem_nil,or_false] at hp
  rcases hp with rfl | rfl | rfl | rfl | rfl <;> (rw [hwz];go_cell)
 obtain ⟨⟨q0,q1,q2,q3,q4⟩,_⟩:=h.c5
 have qz:=lt_of_cell q0
 rw [← hwz]
 clear hc hg hB hz hwz hgr
 go_upto_region 4 with (go_at_call 8;(with_reducible refine (hbu _ h.bw).mono ?_);rintro e w2 ⟨rfl,hB⟩;replace h:=h.call hB;clear q0 q1 q2 q3 q4 qz;clear hB;obtain ⟨⟨q0,q1,q2,q3,q4⟩,_⟩:=h.c5;have qz:=lt_of_cell q0)
 go_upto_region 5 with (go_at_call 9;(with_reducible refine (hrb _ h.bw).mono ?_);rintro e w3 ⟨rfl,hB⟩;replace h:=h.call hB;clear q0 q1 q2 q3 q4 qz;clear hB;obtain ⟨⟨q0,q1,q2,q3,q4⟩,_⟩:=h.c5;have qz:=lt_of_cell q0)
 clear hbu hrb
 have hS:=h.rg
 clear h
 go_region_held3 (RG5 w wz (.int .i64 lim.1) (.int .i64 lim.2) (.int .i64 gr) (.int .i64 hr) (.slice ga gs.length gc)) (first | exact RG5.drew hS | exact hX) (first | (go_at_call 10;(with_reducible refine (hck _ (RG5.bel (by with_reducible assumption))).mono ?_);rintro e wy ⟨rfl,hB1⟩;have hX:=RG5.call (by with_reducible assumption) hB1) | (go_at_call 11;(with_reducible refine (hrc _ (RG5.bel (by with_reducible assumption))).mono ?_);rintro e wy ⟨rfl,hB1⟩;have hX:=RG5.call (by with_reducible assumption) hB1))
 rename_i hH
 have h:=RG5.st hH
 clear hH hck hrc hS
 obtain ⟨⟨q0,q1,q2,q3,q4⟩,_⟩:=h.c5
 have qz:=lt_of_cell q0
 go_upto_region 8 with (go_at_call 12;(with_reducible refine (hgo _ h.bw).mono ?_);rintro e w5 ⟨⟨va,rfl,hva⟩,hB⟩;replace h:=h.call hB;clear q0 q1 q2 q3 q4 qz;clear hB;obtain ⟨⟨q0,q1,q2,q3,q4⟩,_⟩:=h.c5;have qz:=lt_of_cell q0)
 go_upto_region 9 with (go_at_call 13;(with_reducible refine (hrg _ h.bw).mono ?_);rintro e w6 ⟨⟨vb,rfl,hvb⟩,hB⟩;replace hva:=hva.keep hB;replace h:=h.call hB;clear q0 q1 q2 q3 q4 qz;clear hB;obtain ⟨⟨q0,q1,q2,q3,q4⟩,_⟩:=h.c5;have qz:=lt_of_cell q0)
 have hsn:=jB va vb L L _ hva hvb hl1 hl1
 rw [decide_eq_true (rfl:L=L)] at hsn
 clear hgo hrg hva hvb
 go_upto_region 11 with (go_at_call 14;(with_reducible refine hsn.mono ?_);rintro e w7 ⟨rfl,hB⟩;replace h:=h.call hB;clear q0 q1 q2 q3 q4 qz;clear hB;obtain ⟨⟨q0,q1,q2,q3,q4⟩,_⟩:=h.c5;have qz:=lt_of_cell q0)
 clear hsn
 go_upto_region 12 with (go_at_call 15;(with_reducible refine (hne _ h.bw).mono ?_);rintro e w8 ⟨⟨va,rfl,hva⟩,hB⟩;replace h:=h.call hB;clear q0 q1 q2 q3 q4 qz;clear hB;obtain ⟨⟨q0,q1,q2,q3,q4⟩,_⟩:=h.c5;have qz:=lt_of_cell q0)
 go_upto_region 13 with (go_at_call 16;(with_reducible refine (hrn _ h.bw).mono ?_);rintro e w9 ⟨⟨vb,rfl,hvb⟩,hB⟩;replace hva:=hva.keep hB;replace h:=h.call hB;clear q0 q1 q2 q3 q4 qz;clear hB;obtain ⟨⟨q0,q1,q2,q3,q4⟩,_⟩:=h.c5;have qz:=lt_of_cell q0)
 have hsn:=jB va vb M M _ hva hvb hl2 hl2
 rw [decide_eq_true (rfl:M=M)] at hsn
 clear hne hrn hva hvb
 go_wp2_with (first | (go_at_call 14;(with_reducible refine hsn.mono ?_);rintro e w10 ⟨rfl,hB⟩;replace h:=h.call hB;clear q0 q1 q2 q3 q4 qz;clear hB;obtain ⟨⟨q0,q1,q2,q3,q4⟩,_⟩:=h.c5;have qz:=lt_of_cell q0) | (go_at_call 7;(refine (HL _ h.gl).mono ?_);rintro e w11 ⟨rfl,hB9⟩))
 go_ret
 exact ⟨rfl,(h.call hB9).bw⟩
set_option maxHeartbeats 8000000 in
set_option maxRecDepth 100000 in
theorem ZH (HL:∀W,Globs W→Calls qf 7 #[] W fun e w'=>e=.returned (.bool true)∧Below W.heap.size W w') (B:Bk) (n:Int) (w:World) (hG:Globs w) (hI:BookIn w B) (hm:modest B=false) :
 Calls qf 3 #[bv B,.int .i64 n] w fun e w'=>e=.returned (.bool true)∧Below w.heap.size w w':=by
 have hgr:=fun W (h:Below w.heap.size w W)=>Ju B W (hI.keep h)
 simp only [hm,Bool.not_false] at hgr
 have HLL:=fun W (h:Below w.heap.size w W)=>HL W (hG.keep h)
 obtain ⟨lim,gr,hr,gs,ga,gc⟩:=B
 simp only [bv] at *
 clear hI hm HL hG
 go_enter s3,ntmps3
 go_wp2_with (first | (go_at_call 6;(with_reducible refine (hgr _ (by go_grown)).mono ?_);rintro e w1 ⟨rfl,hB1⟩;have hB:Below w.heap.size w w1:=Below.call (by go_grown) hB1 (by simp)) | (go_at_call 7;(refine (HLL _ hB).mono ?_);rintro e w2 ⟨rfl,hB2⟩))
 go_ret
 exact ⟨rfl,bcl hB hB2⟩
theorem XH (HL:∀W,Globs W→Calls qf 7 #[] W fun e w'=>e=.returned (.bool true)∧Below W.heap.size W w') (B:Bk) (n:Int) (w:World) (hG:Globs w) (hI:BookIn w B) (hc:B.gs.length≤B.gc) (hcp:∀g∈B.gs,g.traffic.length≤g.tc) :
 Calls qf 3 #[bv B,.int .i64 n] w fun e w'=>e=.returned (.bool true)∧Below w.heap.size w w':=by
 cases hm:modest B with
 | false=>exact ZH HL B n w hG hI hm
 | true=>exact Xa HL B n w hG hI (hI.at (Zk hm) hc) hm hcp
end Go.Proofs.Tryz
end
namespace Go.Proofs.Tryz
open Go Go.Load Go.RowKit
def exC (g a b:Nat):Bk:={ exB g a b with lim:=(1,2) }
theorem e_loss:QC qQ (2,1) 2=tv (2,5) 0:=by kernel_rfl
theorem e_lost:QC qJ (2,1) 2=tv (4,5) 0:=by kernel_rfl
theorem qdU:QC xA (2,1) 2=tv (6,5) 0:=by kernel_rfl
theorem e_enough:qaM (2,1) (1,5)=.tuple #[.int .i64 4,.bool true,.int .i64 0]:=by kernel_rfl
theorem e_bears:qdJ 2 1 (1,5)=tv (1,1) 0:=by kernel_rfl
theorem e_over:overN 1 1 (1,1)=tv (1,5) 0:=by kernel_rfl
theorem e_fits:fitsV [(2,3),(4,4)] 2=tv (6,7) 0:=by kernel_rfl
section
variable (g a b:Nat)
theorem XM:checkN (exB g a b)=0:=by kernel_rfl
theorem e_check2:checkN (exC g a b)=0:=by kernel_rfl
theorem e_good:Qn (exB g a b) 2=[]:=by kernel_rfl
theorem e_needs:qce (exB g a b)=[2,4]:=by kernel_rfl
theorem e_best:qaE (exB g a b) 0=.tuple #[.int .i64 1,fv (36,95),.int .i64 0]:=by kernel_rfl
theorem e_spread:qcF 2 (zy 0 2 (exB g a b).gs)=[1,0]:=by kernel_rfl
theorem e_sum:sumV (exB g a b) 0=.tuple #[.int .i64 1300,.int .i64 0]:=by kernel_rfl
theorem e_good2:Qn (exC g a b) 2=[0,1]:=by kernel_rfl
theorem e_year:yearV (exC g a b)=.tuple #[.int .i64 1,.int .i64 0,.bool true,.int .i64 0]:=by kernel_rfl
theorem e_busy:QI (exB g a b) 0=.tuple #[.int .i64 0,.int .i64 0]:=by kernel_rfl
theorem e_grow:checkN (qR (exB g a b) 1)=0∧(qR (exB g a b) 1).gs.map (·.traffic)=[[(2,1),(2,2)],[(3,1),(2,1)]]:=⟨by kernel_rfl,by kernel_rfl⟩
end
end Go.Proofs.Tryz
